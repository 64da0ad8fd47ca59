/- The code of the law and of all that it calls, for the evaluator; what stands in for the library's. No condition. -/
import Derived.Test.YtjblgoefcobkgaaRows
import Derived.Test.YtjblgoefcobkgaaShelf
import Derived.WalkKit
import Derived.Test.YtjblgoefcobkgaaEva6
namespace Go.Proofs.Ytjblgoefcobkgaa
open Eva Go.RowKit
set_option linter.unusedVariables false
noncomputable def kf5 : KFn := { params := [w0, w1], res := [(.s r4)], body :=
 (.seq
 (.reg [.p (o1 mvG (ctK (.bool false))) w4])
 (.seq
 (.seq
 (.reg [.p (callO 10 []) w18, .p (o1 notG r18) w19])
 (.cond r19
 (.seq
 (.reg [.p (o1 mvG (ctK (.bool false))) w4])
 .ret)
 .skip))
 (.seq
 (.reg [.p (o1 mvG r0) w20, .p (callO 11 [r20, (ctK (.int .i64 (Int.ofNat 5)))]) w21, .p (o2 (binG addB) (ctK (.int .i64 (Int.ofNat 1))) r21) w22, .p (o1 mvG r1) w23, .p (callO 11 [r23, (ctK (.int .i64 (Int.ofNat 5)))]) w24, .p (o2 (binG addB) (ctK (.int .i64 (Int.ofNat 1))) r24) w25, .p (o1 mvG r22) w0, .p (o1 mvG r25) w1])
 (.seq
 (.reg [.p (allocO [(.int .i64 (Int.ofNat 0)), (.str 0 0), .snil, .snil, .snil, .snil]) w5])
 (.seq
 (.seq
 (.reg [.p (o1 mvG (ctK (.int .i64 (Int.ofNat 0)))) w6])
 (.block 0
 (.loop
 (.seq
 (.seq
 (.reg [.p (o1 mvG r6) w26, .p (o1 mvG r0) w27, .p (o1 mvG r1) w28, .p (o2 (binG addB) r27 r28) w29, .p (o2 (binG (cmpB .lss ltI)) r26 r29) w30])
 (.cond r30
 .skip
 (.exit 0)))
 (.seq
 (.block 1
 (.seq
 (.reg [.p (o1 mvG r6) w33, .p (o2 (binG addB) r33 (ctK (.int .i64 (Int.ofNat 1)))) w34, .p (o1 mvG r34) w7])
 (.seq
 (.seq
 (.reg [.p (o1 mvG r7) w35, .p (o1 mvG r0) w36, .p (o2 (eqG eqIV false) r35 r36) w37])
 (.cond r37
 (.reg [.p (o1 mvG (ctK (.int .i64 (Int.ofNat 0)))) w7])
 .skip))
 (.seq
 (.seq
 (.reg [.p (o1 mvG r7) w38, .p (o1 mvG r0) w39, .p (o1 mvG r1) w40, .p (o2 (binG addB) r39 r40) w41, .p (o2 (eqG eqIV false) r38 r41) w42])
 (.cond r42
 (.reg [.p (o1 mvG r0) w43, .p (o1 mvG r43) w7])
 .skip))
 (.seq
 (.reg [.p (o1 mvG r7) w44, .p (o2 (binG addB) (ctK (.int .i64 (Int.ofNat 97))) r44) w45, .p (o1 (tointG .u8) r45) w46, .p (bslO 1 1 [(.int .u8 (Int.ofNat 0))] [(0, 1, r46)]) w47, .p (o1 btsG r47) w48, .p (o2 (binG addB) (ctK (.str 1 78)) r48) w49, .p (buildO [(.int .i64 (Int.ofNat 0)), (.str 0 0), .snil, .snil] [(0, 1, (ctK (.int .i64 (Int.ofNat 9)))), (1, 1, r49)]) w50, .p (bslO 4 1 [(.int .i64 (Int.ofNat 0)), (.str 0 0), .snil, .snil] [(0, 4, r50)]) w51, .p (buildO [(.int .i64 (Int.ofNat 0)), (.str 0 0), .snil, .snil] [(0, 1, (ctK (.int .i64 (Int.ofNat 4)))), (3, 1, r51)]) w52, .p (allocO [(.int .i64 (Int.ofNat 0)), (.str 0 0), .snil, .snil]) w8, .p (o2 (storeG 4) r8 r52) noW])
 (.seq
 (.reg [.p (bslO 1 1 [(.str 0 0)] [(0, 1, (ctK (.str 1 120)))]) w53, .p (o1 (loadnG 4) r8) w54, .p (bslO 4 1 [(.int .i64 (Int.ofNat 0)), (.str 0 0), .snil, .snil] [(0, 4, r54)]) w55, .p (buildO [(.int .i64 (Int.ofNat 0)), (.str 0 0), .snil, .snil] [(0, 1, (ctK (.int .i64 (Int.ofNat 7)))), (2, 1, r53), (3, 1, r55)]) w56, .p (allocO [(.int .i64 (Int.ofNat 0)), (.str 0 0), .snil, .snil]) w9, .p (o2 (storeG 4) r9 r56) noW])
 (.seq
 (.seq
 (.reg [.p (o1 mvG r6) w57, .p (o1 mvG r0) w58, .p (o2 (binG (cmpB .lss ltI)) r57 r58) w59])
 (.cond r59
 (.reg [.p (bslO 1 2 [(.str 0 0), (.str 0 0)] [(0, 1, (ctK (.str 4 1701998445))), (1, 1, (ctK (.str 1 120)))]) w60, .p (buildO [(.int .i64 (Int.ofNat 0)), (.str 0 0), .snil, .snil] [(0, 1, (ctK (.int .i64 (Int.ofNat 2))))]) w61, .p (o1 (loadnG 4) r8) w62, .p (bslO 4 2 [(.int .i64 (Int.ofNat 0)), (.str 0 0), .snil, .snil, (.int .i64 (Int.ofNat 0)), (.str 0 0), .snil, .snil] [(0, 4, r61), (4, 4, r62)]) w63, .p (buildO [(.int .i64 (Int.ofNat 0)), (.str 0 0), .snil, .snil] [(0, 1, (ctK (.int .i64 (Int.ofNat 7)))), (2, 1, r60), (3, 1, r63)]) w64, .p (o2 (storeG 4) r9 r64) noW])
 .skip))
 (.reg [.p (o1 (faddrG 4) r5) w65, .p (o1 load1G r65) w66, .p (o1 mvG r6) w67, .p (o2 (binG addB) (ctK (.int .i64 (Int.ofNat 97))) r67) w68, .p (o1 (tointG .u8) r68) w69, .p (bslO 1 1 [(.int .u8 (Int.ofNat 0))] [(0, 1, r69)]) w70, .p (o1 btsG r70) w71, .p (o2 (binG addB) (ctK (.str 1 78)) r71) w72, .p (o1 (loadnG 4) r9) w73, .p (buildO [(.str 0 0), (.int .i64 (Int.ofNat 0)), (.str 0 0), .snil, .snil] [(0, 1, r72), (1, 4, r73)]) w74, .p (bslO 5 1 [(.str 0 0), (.int .i64 (Int.ofNat 0)), (.str 0 0), .snil, .snil] [(0, 5, r74)]) w75, .p (o2 (appG 5) r66 r75) w76, .p (o1 (faddrG 4) r5) w77, .p (o2 (storeG 1) r77 r76) noW]))))))))
 (.reg [.p (o1 mvG r6) w31, .p (o2 (binG addB) r31 (ctK (.int .i64 (Int.ofNat 1)))) w32, .p (o1 mvG r32) w6]))))))
 (.seq
 (.reg [.p (buildO [(.int .i64 (Int.ofNat 0)), (.str 0 0), .snil, .snil] [(0, 1, (ctK (.int .i64 (Int.ofNat 9)))), (1, 1, (ctK (.str 2 24910)))]) w78, .p (o1 (faddrG 0) r5) w79, .p (o2 (storeG 4) r79 r78) noW])
 (.seq
 (.reg [.p (o1 (loadnG 6) r5) w81, .p (callO 12 [r81]) w82, .p (o1 mvG r82) w80, .p (o1 (extG 0) r80) w83, .p (o1 (extG 1) r80) w84, .p (o1 mvG r83) w10, .p (o1 mvG r84) w11])
 (.seq
 (.seq
 (.reg [.p (o1 mvG r11) w85, .p (o2 (eqG eqIV true) r85 (ctK (.int .i64 (Int.ofNat 0)))) w86])
 (.cond r86
 (.seq
 (.reg [.p (o1 mvG (ctK (.bool false))) w4])
 .ret)
 .skip))
 (.seq
 (.reg [.p (o1 mvG r10) w88, .p (o1 mvG r0) w89, .p (o2 (binG addB) (ctK (.int .i64 (Int.ofNat 97))) r89) w90, .p (o1 (tointG .u8) r90) w91, .p (bslO 1 1 [(.int .u8 (Int.ofNat 0))] [(0, 1, r91)]) w92, .p (o1 btsG r92) w93, .p (o2 (binG addB) (ctK (.str 1 78)) r93) w94, .p (buildO [(.int .i64 (Int.ofNat 0)), (.str 0 0), .snil, .snil] [(0, 1, (ctK (.int .i64 (Int.ofNat 9)))), (1, 1, r94)]) w95, .p (callO 13 [r88, r95]) w96, .p (o1 mvG r96) w87, .p (o1 (extG 0) r87) w97, .p (o1 (extG 1) r87) w98, .p (o1 mvG r97) w12, .p (o1 mvG r98) w13])
 (.seq
 (.reg [.p (o1 mvG r10) w100, .p (o1 mvG r10) w101, .p (callO 15 [r101]) w102, .p (o1 mvG r12) w103, .p (callO 14 [r100, r102, r103]) w104, .p (o1 mvG r104) w99, .p (o1 (extG 0) r99) w105, .p (o1 (extG 1) r99) w106, .p (o1 mvG r105) w14, .p (o1 mvG r106) w15])
 (.seq
 (.reg [.p (o1 mvG r10) w108, .p (o1 mvG r12) w109, .p (o1 mvG r10) w110, .p (callO 15 [r110]) w111, .p (callO 14 [r108, r109, r111]) w112, .p (o1 mvG r112) w107, .p (o1 (extG 0) r107) w113, .p (o1 (extG 1) r107) w114, .p (o1 mvG r113) w16, .p (o1 mvG r114) w17])
 (.seq
 (.reg [.p (o1 mvG r13) w115, .p (o2 (eqG eqIV false) r115 (ctK (.int .i64 (Int.ofNat 0)))) w116, .p (o1 mvG r116) w117, .g r117 true false none (o1 mvG r14) w118, .p (o3 pickG r117 r118 (ctK (.bool false))) w119, .p (o1 mvG r119) w120, .g r120 true false none (o1 mvG r16) w121, .g r120 true false none (o1 notG r121) w122, .p (o3 pickG r120 r122 (ctK (.bool false))) w123, .p (o1 mvG r123) w124, .g r124 true false none (o1 mvG r15) w125, .g r124 true false none (o1 mvG r10) w126, .g r124 true false none (callO 16 [r126]) w127, .g r124 true false none (o1 mvG r10) w128, .g r124 true false none (callO 16 [r128]) w129, .g r124 true false none (o2 (binG (slowBin .mul)) r127 r129) w130, .g r124 true false none (o2 (binG (cmpB .leq leI)) r125 r130) w131, .p (o3 pickG r124 r131 (ctK (.bool false))) w132, .p (o1 mvG r132) w133, .g r133 true false none (o1 mvG r17) w134, .g r133 true false none (o1 mvG r10) w135, .g r133 true false none (callO 16 [r135]) w136, .g r133 true false none (o1 mvG r10) w137, .g r133 true false none (callO 16 [r137]) w138, .g r133 true false none (o2 (binG (slowBin .mul)) r136 r138) w139, .g r133 true false none (o2 (binG (cmpB .leq leI)) r134 r139) w140, .p (o3 pickG r133 r140 (ctK (.bool false))) w141, .p (o1 mvG r141) w142, .g r142 true false none (o1 mvG r17) w143, .g r142 true false none (o2 (eqG eqIV false) r143 (ctK (.int .i64 (Int.ofNat 1)))) w144, .p (o3 pickG r142 r144 (ctK (.bool false))) w145, .p (o1 mvG r145) w4])
 .ret)))))))))))) }
theorem kf5_ok : (compFn Try.prog Try.f5 [[0, 1], [0, 5], [0, 1, 5, 6], [0, 1, 5, 6], [0, 1, 5, 6], [0, 1, 5, 6, 7], [0, 1, 5, 6, 7], [0, 1, 5, 6, 9], [0, 10]]).bind (toKFn 2) = some kf5 := by kernel_rfl
noncomputable def kf10 : KFn := { params := [], res := [(.s r0)], body :=
 (.seq
 (.reg [.p (o1 mvG (ctK (.bool false))) w0])
 (.seq
 (.reg [.p (buildO [(.int .i64 (Int.ofNat 0)), (.str 0 0), .snil, .snil] [(0, 1, (ctK (.int .i64 (Int.ofNat 2))))]) w12, .p (allocO [(.int .i64 (Int.ofNat 0)), (.str 0 0), .snil, .snil]) w1, .p (o2 (storeG 4) r1 r12) noW])
 (.seq
 (.reg [.p (bslO 1 2 [(.str 0 0), (.str 0 0)] [(0, 1, (ctK (.str 1 97))), (1, 1, (ctK (.str 1 98)))]) w13, .p (o1 (loadnG 4) r1) w14, .p (o1 (loadnG 4) r1) w15, .p (bslO 4 2 [(.int .i64 (Int.ofNat 0)), (.str 0 0), .snil, .snil, (.int .i64 (Int.ofNat 0)), (.str 0 0), .snil, .snil] [(0, 4, r14), (4, 4, r15)]) w16, .p (buildO [(.int .i64 (Int.ofNat 0)), (.str 0 0), .snil, .snil] [(0, 1, (ctK (.int .i64 (Int.ofNat 7)))), (2, 1, r13), (3, 1, r16)]) w17, .p (allocO [(.int .i64 (Int.ofNat 0)), (.str 0 0), .snil, .snil]) w2, .p (o2 (storeG 4) r2 r17) noW])
 (.seq
 (.reg [.p (bslO 1 1 [(.str 0 0)] [(0, 1, (ctK (.str 1 97)))]) w18, .p (o1 (loadnG 4) r1) w19, .p (bslO 4 1 [(.int .i64 (Int.ofNat 0)), (.str 0 0), .snil, .snil] [(0, 4, r19)]) w20, .p (buildO [(.int .i64 (Int.ofNat 0)), (.str 0 0), .snil, .snil] [(0, 1, (ctK (.int .i64 (Int.ofNat 6)))), (3, 1, r20)]) w21, .p (bslO 4 1 [(.int .i64 (Int.ofNat 0)), (.str 0 0), .snil, .snil] [(0, 4, r21)]) w22, .p (buildO [(.int .i64 (Int.ofNat 0)), (.str 0 0), .snil, .snil] [(0, 1, (ctK (.int .i64 (Int.ofNat 7)))), (2, 1, r18), (3, 1, r22)]) w23, .p (allocO [(.int .i64 (Int.ofNat 0)), (.str 0 0), .snil, .snil]) w3, .p (o2 (storeG 4) r3 r23) noW])
 (.seq
 (.reg [.p (o1 (loadnG 4) r2) w25, .p (buildO [(.int .i64 (Int.ofNat 0)), (.str 0 0), .snil, .snil, .snil, .snil] [(0, 4, r25)]) w26, .p (callO 12 [r26]) w27, .p (o1 mvG r27) w24, .p (o1 (extG 0) r24) w28, .p (o1 (extG 1) r24) w29, .p (o1 mvG r28) w4, .p (o1 mvG r29) w5])
 (.seq
 (.seq
 (.reg [.p (o1 mvG r5) w30, .p (o2 (eqG eqIV true) r30 (ctK (.int .i64 (Int.ofNat 0)))) w31, .p (o1 mvG r31) w32, .g r32 false false none (o1 mvG r4) w33, .g r32 false false none (o2 (eqG (slowEq (.one .p)) false) r33 (ctK .pnil)) w34, .p (o3 pickG r32 (ctK (.bool true)) r34) w35])
 (.cond r35
 (.seq
 (.reg [.p (o1 mvG (ctK (.bool false))) w0])
 .ret)
 .skip))
 (.seq
 (.reg [.p (o1 mvG r4) w37, .p (o1 (loadnG 4) r3) w38, .p (callO 13 [r37, r38]) w39, .p (o1 mvG r39) w36, .p (o1 (extG 0) r36) w40, .p (o1 (extG 1) r36) w41, .p (o1 mvG r40) w6, .p (o1 mvG r41) w7])
 (.seq
 (.reg [.p (o1 mvG r4) w43, .p (o1 mvG r4) w44, .p (callO 15 [r44]) w45, .p (o1 mvG r6) w46, .p (callO 14 [r43, r45, r46]) w47, .p (o1 mvG r47) w42, .p (o1 (extG 0) r42) w48, .p (o1 (extG 1) r42) w49, .p (o1 mvG r48) w8, .p (o1 mvG r49) w9])
 (.seq
 (.reg [.p (o1 mvG r4) w51, .p (o1 mvG r6) w52, .p (o1 mvG r4) w53, .p (callO 15 [r53]) w54, .p (callO 14 [r51, r52, r54]) w55, .p (o1 mvG r55) w50, .p (o1 (extG 0) r50) w56, .p (o1 (extG 1) r50) w57, .p (o1 mvG r56) w10, .p (o1 mvG r57) w11])
 (.seq
 (.reg [.p (o1 mvG r8) w58, .p (o1 mvG r58) w59, .g r59 true false none (o1 mvG r10) w60, .g r59 true false none (o1 notG r60) w61, .p (o3 pickG r59 r61 (ctK (.bool false))) w62, .p (o1 mvG r62) w0])
 .ret)))))))))) }
theorem kf10_ok : (compFn Try.prog Try.f10 [[3, 4]]).bind (toKFn 0) = some kf10 := by kernel_rfl
noncomputable def kf12 : KFn := { params := [w0], res := [(.s r2), (.s r3)], body :=
 (.seq
 (.reg [.p (o1 boxG r0) w1, .p (o1 mvG (ctK .pnil)) w2, .p (o1 mvG (ctK (.int .i64 (Int.ofNat 0)))) w3])
 (.seq
 (.seq
 (.reg [.p (o1 (loadnG 6) r1) w19, .p (callO 20 [r19]) w20, .p (o1 mvG r20) w4])
 (.seq
 (.reg [.p (o1 mvG r4) w21, .p (o2 (eqG eqIV true) r21 (ctK (.int .i64 (Int.ofNat 0)))) w22])
 (.cond r22
 (.seq
 (.reg [.p (o1 mvG r4) w23, .p (o1 mvG (ctK .pnil)) w2, .p (o1 mvG r23) w3])
 .ret)
 .skip)))
 (.seq
 (.reg [.p mkmapO w24, .p mkmapO w25, .p mkmapO w26, .p (buildO [.snil, .mnil, .mnil, (.int .i64 (Int.ofNat 0)), .mnil] [(1, 1, r24), (2, 1, r25), (4, 1, r26)]) w27, .p (o1 boxG r27) w28, .p (o1 mvG r28) w5])
 (.seq
 (.seq
 (.reg [.p (o1 (faddrG 4) r1) w29, .p (o1 load1G r29) w30, .p (o1 lenLG r30) w31, .p (o1 mvG (ctK (.int .i64 (Int.ofNat 0)))) w32])
 (.block 0
 (.loop
 (.seq
 (.reg [.p (o2 (binG (cmpB .lss ltI)) r32 r31) w33])
 (.seq
 (.cond r33
 .skip
 (.exit 0))
 (.seq
 (.block 1
 (.seq
 (.reg [.p (o2 (iaddrG 5) r30 r32) w34, .p (o1 (loadnG 5) r34) w35, .p (allocO [(.str 0 0), (.int .i64 (Int.ofNat 0)), (.str 0 0), .snil, .snil]) w7, .p (o2 (storeG 5) r7 r35) noW])
 (.seq
 (.reg [.p (o1 mvG r5) w37, .p (o1 (faddrG 1) r7) w38, .p (o1 (loadnG 4) r38) w39, .p (callO 13 [r37, r39]) w40, .p (o1 mvG r40) w36, .p (o1 (extG 0) r36) w41, .p (o1 (extG 1) r36) w42, .p (o1 mvG r41) w8, .p (o1 mvG r42) w9])
 (.seq
 (.seq
 (.reg [.p (o1 mvG r9) w43, .p (o2 (eqG eqIV true) r43 (ctK (.int .i64 (Int.ofNat 0)))) w44])
 (.cond r44
 (.seq
 (.reg [.p (o1 mvG r9) w45, .p (o1 mvG (ctK .pnil)) w2, .p (o1 mvG r45) w3])
 .ret)
 .skip))
 (.drw [.p (o1 mvG r5) w46, .p (o1 nilckG r46) w47, .p (o1 (faddrG 2) r47) w48, .p (o1 load1G r48) w49, .p (o1 (faddrG 0) r7) w50, .p (o1 load1G r50) w51, .p (o1 mvG r8) w52, .p (o3 (mupdG (.one .s)) r49 r51 r52) noW] [])))))
 (.reg [.p (o2 (binG addB) r32 (ctK (.int .i64 (Int.ofNat 1)))) w53, .p (o1 mvG r53) w32])))))))
 (.seq
 (.reg [.p (o1 mvG r5) w55, .p (o1 (faddrG 0) r1) w56, .p (o1 (loadnG 4) r56) w57, .p (callO 13 [r55, r57]) w58, .p (o1 mvG r58) w54, .p (o1 (extG 0) r54) w59, .p (o1 (extG 1) r54) w60, .p (o1 mvG r59) w10, .p (o1 mvG r60) w11])
 (.seq
 (.seq
 (.reg [.p (o1 mvG r11) w61, .p (o2 (eqG eqIV true) r61 (ctK (.int .i64 (Int.ofNat 0)))) w62])
 (.cond r62
 (.seq
 (.reg [.p (o1 mvG r11) w63, .p (o1 mvG (ctK .pnil)) w2, .p (o1 mvG r63) w3])
 .ret)
 .skip))
 (.seq
 (.reg [.p (o1 mvG r5) w64, .p (o1 mvG r10) w65, .p (o1 nilckG r64) w66, .p (o1 (faddrG 3) r66) w67, .p (o2 (storeG 1) r67 r65) noW])
 (.seq
 (.seq
 (.reg [.p (o1 (faddrG 5) r1) w68, .p (o1 load1G r68) w69, .p (o1 lenLG r69) w70, .p (o1 mvG (ctK (.int .i64 (Int.ofNat 0)))) w71])
 (.block 2
 (.loop
 (.seq
 (.reg [.p (o2 (binG (cmpB .lss ltI)) r71 r70) w72])
 (.seq
 (.cond r72
 .skip
 (.exit 2))
 (.seq
 (.block 3
 (.seq
 (.reg [.p (o2 (iaddrG 6) r69 r71) w73, .p (o1 (loadnG 6) r73) w74, .p (allocO [(.str 0 0), .snil, (.int .i64 (Int.ofNat 0)), (.str 0 0), .snil, .snil]) w13, .p (o2 (storeG 6) r13 r74) noW])
 (.seq
 (.reg [.p (o1 (faddrG 1) r13) w75, .p (o1 load1G r75) w76, .p (o1 lenLG r76) w77, .p (o2 (binG addB) r77 (ctK (.int .i64 (Int.ofNat 1)))) w78, .p (o2 (mkslG 1 [(.int .i64 (Int.ofNat 0))]) (ctK (.int .i64 (Int.ofNat 0))) r78) w79, .p (o1 mvG r79) w14])
 (.seq
 (.seq
 (.drw [.p (o1 (faddrG 1) r13) w80, .p (o1 load1G r80) w81, .m (callO 21 [r81]) w82 none, .p (o1 (faddrG 2) r13) w83, .p (o1 (loadnG 4) r83) w84, .p (bslO 4 1 [(.int .i64 (Int.ofNat 0)), (.str 0 0), .snil, .snil] [(0, 4, r84)]) w85, .p (o2 (appG 4) r82 r85) w86, .p (o1 lenLG r86) w87, .p (o1 mvG (ctK (.int .i64 (Int.ofNat 0)))) w88] [])
 (.block 4
 (.loop
 (.seq
 (.reg [.p (o2 (binG (cmpB .lss ltI)) r88 r87) w89])
 (.seq
 (.cond r89
 .skip
 (.exit 4))
 (.seq
 (.block 5
 (.seq
 (.reg [.p (o2 (iaddrG 4) r86 r88) w90, .p (o1 (loadnG 4) r90) w91, .p (allocO [(.int .i64 (Int.ofNat 0)), (.str 0 0), .snil, .snil]) w16, .p (o2 (storeG 4) r16 r91) noW])
 (.seq
 (.reg [.p (o1 mvG r5) w93, .p (o1 (loadnG 4) r16) w94, .p (callO 13 [r93, r94]) w95, .p (o1 mvG r95) w92, .p (o1 (extG 0) r92) w96, .p (o1 (extG 1) r92) w97, .p (o1 mvG r96) w17, .p (o1 mvG r97) w18])
 (.seq
 (.seq
 (.reg [.p (o1 mvG r18) w98, .p (o2 (eqG eqIV true) r98 (ctK (.int .i64 (Int.ofNat 0)))) w99])
 (.cond r99
 (.seq
 (.reg [.p (o1 mvG r18) w100, .p (o1 mvG (ctK .pnil)) w2, .p (o1 mvG r100) w3])
 .ret)
 .skip))
 (.reg [.p (o1 mvG r14) w101, .p (o1 mvG r17) w102, .p (bslO 1 1 [(.int .i64 (Int.ofNat 0))] [(0, 1, r102)]) w103, .p (o2 (appG 1) r101 r103) w104, .p (o1 mvG r104) w14])))))
 (.reg [.p (o2 (binG addB) r88 (ctK (.int .i64 (Int.ofNat 1)))) w105, .p (o1 mvG r105) w88])))))))
 (.drw [.p (o1 mvG r5) w106, .p (o1 nilckG r106) w107, .p (o1 (faddrG 4) r107) w108, .p (o1 load1G r108) w109, .p (o1 (faddrG 0) r13) w110, .p (o1 load1G r110) w111, .p (o1 mvG r14) w112, .p (o3 (mupdG (.one .s)) r109 r111 r112) noW] [])))))
 (.reg [.p (o2 (binG addB) r71 (ctK (.int .i64 (Int.ofNat 1)))) w113, .p (o1 mvG r113) w71])))))))
 (.seq
 (.reg [.p (o1 mvG r5) w114, .p (o1 mvG r114) w2, .p (o1 mvG (ctK (.int .i64 (Int.ofNat 0)))) w3])
 .ret))))))))) }
theorem kf12_ok : (compFn Try.prog Try.f12 [[1], [1, 5], [1, 5, 30, 31, 32], [1, 5, 30, 31, 32], [1, 5, 30, 31, 32], [1, 5, 7, 8, 30, 31, 32], [1, 5, 10], [5], [5, 69, 70, 71], [5, 69, 70, 71], [5, 69, 70, 71], [5, 13, 14, 69, 70, 71], [5, 13, 14, 69, 70, 71, 86, 87, 88], [5, 13, 14, 69, 70, 71, 86, 87, 88], [5, 13, 14, 69, 70, 71, 86, 87, 88], [5, 13, 14, 17, 69, 70, 71, 86, 87, 88]]).bind (toKFn 1) = some kf12 := by kernel_rfl
noncomputable def kf20 : KFn := { params := [w0], res := [(.s r2)], body :=
 (.seq
 (.reg [.p (o1 boxG r0) w1, .p (o1 mvG (ctK (.int .i64 (Int.ofNat 0)))) w2])
 (.seq
 (.seq
 (.reg [.p (o1 (faddrG 4) r1) w12, .p (o1 load1G r12) w13, .p (o1 lenLG r13) w14, .p (o2 (binG (cmpB .gtr gtI)) r14 (ctK (.int .i64 (Int.ofNat 12)))) w15, .p (o1 mvG r15) w16, .g r16 false false none (o1 (faddrG 5) r1) w17, .g r16 false false none (o1 load1G r17) w18, .g r16 false false none (o1 lenLG r18) w19, .g r16 false false none (o2 (binG (cmpB .gtr gtI)) r19 (ctK (.int .i64 (Int.ofNat 12)))) w20, .p (o3 pickG r16 (ctK (.bool true)) r20) w21])
 (.cond r21
 (.seq
 (.reg [.p (o1 mvG (ctK (.int .i64 (Int.ofNat 3)))) w2])
 .ret)
 .skip))
 (.seq
 (.seq
 (.reg [.p (o1 (faddrG 4) r1) w22, .p (o1 load1G r22) w23, .p (callO 29 [r23]) w24, .p (o1 mvG r24) w3])
 (.seq
 (.reg [.p (o1 mvG r3) w25, .p (o2 (eqG eqIV true) r25 (ctK (.int .i64 (Int.ofNat 0)))) w26])
 (.cond r26
 (.seq
 (.reg [.p (o1 mvG r3) w27, .p (o1 mvG r27) w2])
 .ret)
 .skip)))
 (.seq
 (.reg [.p (o1 (loadnG 6) r1) w28, .p (callO 30 [r28]) w29, .p (buildO [.mnil, (.int .i64 (Int.ofNat 0))] [(0, 1, r29)]) w30, .p (o1 boxG r30) w31, .p (o1 mvG r31) w4])
 (.seq
 (.seq
 (.reg [.p (o1 (faddrG 4) r1) w32, .p (o1 load1G r32) w33, .p (o1 lenLG r33) w34, .p (o1 mvG (ctK (.int .i64 (Int.ofNat 0)))) w35])
 (.block 0
 (.loop
 (.seq
 (.reg [.p (o2 (binG (cmpB .lss ltI)) r35 r34) w36])
 (.seq
 (.cond r36
 .skip
 (.exit 0))
 (.seq
 (.block 1
 (.seq
 (.reg [.p (o2 (iaddrG 5) r33 r35) w37, .p (o1 (loadnG 5) r37) w38, .p (allocO [(.str 0 0), (.int .i64 (Int.ofNat 0)), (.str 0 0), .snil, .snil]) w6, .p (o2 (storeG 5) r6 r38) noW])
 (.seq
 (.reg [.p (o1 mvG r4) w39, .p (o1 (faddrG 1) r6) w40, .p (o1 (loadnG 4) r40) w41, .p (callO 31 [r39, r41, (ctK (.int .i64 (Int.ofNat 1)))]) w42, .p (o1 mvG r42) w7])
 (.seq
 (.reg [.p (o1 mvG r7) w43, .p (o2 (eqG eqIV true) r43 (ctK (.int .i64 (Int.ofNat 0)))) w44])
 (.cond r44
 (.seq
 (.reg [.p (o1 mvG r7) w45, .p (o1 mvG r45) w2])
 .ret)
 .skip)))))
 (.reg [.p (o2 (binG addB) r35 (ctK (.int .i64 (Int.ofNat 1)))) w46, .p (o1 mvG r46) w35])))))))
 (.seq
 (.seq
 (.reg [.p (o1 mvG r4) w47, .p (o1 (faddrG 0) r1) w48, .p (o1 (loadnG 4) r48) w49, .p (callO 31 [r47, r49, (ctK (.int .i64 (Int.ofNat 1)))]) w50, .p (o1 mvG r50) w8])
 (.seq
 (.reg [.p (o1 mvG r8) w51, .p (o2 (eqG eqIV true) r51 (ctK (.int .i64 (Int.ofNat 0)))) w52])
 (.cond r52
 (.seq
 (.reg [.p (o1 mvG r8) w53, .p (o1 mvG r53) w2])
 .ret)
 .skip)))
 (.seq
 (.seq
 (.reg [.p (o1 mvG r4) w54, .p (o1 (faddrG 5) r1) w55, .p (o1 load1G r55) w56, .p (callO 32 [r54, r56]) w57, .p (o1 mvG r57) w9])
 (.seq
 (.reg [.p (o1 mvG r9) w58, .p (o2 (eqG eqIV true) r58 (ctK (.int .i64 (Int.ofNat 0)))) w59])
 (.cond r59
 (.seq
 (.reg [.p (o1 mvG r9) w60, .p (o1 mvG r60) w2])
 .ret)
 .skip)))
 (.seq
 (.seq
 (.reg [.p (o1 (faddrG 4) r1) w61, .p (o1 load1G r61) w62, .p (o1 lenLG r62) w63, .p (o1 mvG (ctK (.int .i64 (Int.ofNat 0)))) w64])
 (.block 2
 (.loop
 (.seq
 (.reg [.p (o2 (binG (cmpB .lss ltI)) r64 r63) w65])
 (.seq
 (.cond r65
 .skip
 (.exit 2))
 (.seq
 (.block 3
 (.seq
 (.reg [.p (o2 (iaddrG 5) r62 r64) w66, .p (o1 (loadnG 5) r66) w67, .p (allocO [(.str 0 0), (.int .i64 (Int.ofNat 0)), (.str 0 0), .snil, .snil]) w11, .p (o2 (storeG 5) r11 r67) noW])
 (.seq
 (.reg [.p (o1 (loadnG 6) r1) w68, .p (o1 (faddrG 1) r11) w69, .p (o1 (loadnG 4) r69) w70, .p (callO 33 [r68, r70]) w71, .p (o1 notG r71) w72])
 (.cond r72
 (.seq
 (.reg [.p (o1 mvG (ctK (.int .i64 (Int.ofNat 14)))) w2])
 .ret)
 .skip))))
 (.reg [.p (o2 (binG addB) r64 (ctK (.int .i64 (Int.ofNat 1)))) w73, .p (o1 mvG r73) w64])))))))
 (.seq
 (.seq
 (.reg [.p (o1 (loadnG 6) r1) w74, .p (callO 35 [r74]) w75, .p (o1 mvG r4) w76, .p (mkfnO 36 [r76] []) w77, .p (callO 34 [r75, r77]) w78])
 (.cond r78
 (.seq
 (.reg [.p (o1 mvG (ctK (.int .i64 (Int.ofNat 17)))) w2])
 .ret)
 .skip))
 (.seq
 (.reg [.p (o1 mvG (ctK (.int .i64 (Int.ofNat 0)))) w2])
 .ret)))))))))) }
theorem kf20_ok : (compFn Try.prog Try.f20 [[1], [1], [1, 4], [1, 4, 33, 34, 35], [1, 4, 33, 34, 35], [1, 4, 33, 34, 35], [1, 4], [1, 4], [1, 4], [1, 4, 62, 63, 64], [1, 4, 62, 63, 64], [1, 4, 62, 63, 64], []]).bind (toKFn 1) = some kf20 := by kernel_rfl
noncomputable def kf29 : KFn := { params := [w0], res := [(.s r2)], body :=
 (.seq
 (.reg [.p (o1 mvG (ctK (.int .i64 (Int.ofNat 0)))) w2])
 (.seq
 (.seq
 (.reg [.p (o1 mvG r0) w5, .p (o1 lenLG r5) w6, .p (o1 mvG (ctK (.int .i64 (Int.ofNat 0)))) w7])
 (.block 0
 (.loop
 (.seq
 (.reg [.p (o2 (binG (cmpB .lss ltI)) r7 r6) w8])
 (.seq
 (.cond r8
 .skip
 (.exit 0))
 (.seq
 (.block 1
 (.seq
 (.reg [.p (o1 mvG r7) w9, .p (o2 (iaddrG 5) r5 r7) w10, .p (o1 (loadnG 5) r10) w11, .p (allocO [(.str 0 0), (.int .i64 (Int.ofNat 0)), (.str 0 0), .snil, .snil]) w4, .p (o1 mvG r9) w3, .p (o2 (storeG 5) r4 r11) noW])
 (.block 2
 (.seq
 (.reg [.p (o1 (faddrG 0) r4) w13, .p (o1 load1G r13) w14, .p (callO 41 [r14]) w15, .p (o1 notG r15) w16, .p (o1 mvG r16) w17, .g r17 false false none (o1 (faddrG 0) r4) w18, .g r17 false false none (o1 load1G r18) w19, .g r17 false false none (o2 (binG addB) (ctK (.str 1 32)) r19) w20, .g r17 false false none (o2 (binG addB) r20 (ctK (.str 1 32))) w21, .g r17 false false none (callO 42 [(ctK (.str 34 961356317854820710213059487311157994386979551947476703340595819215633401072534048)), r21]) w22, .p (o3 pickG r17 (ctK (.bool true)) r22) w23, .p (o1 mvG r23) w12])
 (.cond r12
 (.seq
 (.reg [.p (o1 mvG (ctK (.int .i64 (Int.ofNat 15)))) w2])
 .ret)
 (.seq
 (.drw [.p (o1 mvG r3) w25, .p (o2 (binG (cmpB .gtr gtI)) r25 (ctK (.int .i64 (Int.ofNat 0)))) w26, .p (o1 mvG r26) w27, .g r27 true false none (o1 mvG r0) w28, .g r27 true false none (o1 mvG r3) w29, .g r27 true false none (o2 (binG subB) r29 (ctK (.int .i64 (Int.ofNat 1)))) w30, .g r27 true false none (o2 (iaddrG 5) r28 r30) w31, .g r27 true false none (o1 (faddrG 0) r31) w32, .g r27 true false none (o1 load1G r32) w33, .g r27 true false none (o1 (faddrG 0) r4) w34, .g r27 true false none (o1 load1G r34) w35, .g r27 true false none (o2 (binG (cmpB .geq geI)) r33 r35) w36, .p (o3 pickG r27 r36 (ctK (.bool false))) w37, .p (o1 mvG r37) w24] [])
 (.cond r24
 (.seq
 (.reg [.p (o1 mvG (ctK (.int .i64 (Int.ofNat 6)))) w2])
 .ret)
 .skip)))))))
 (.reg [.p (o2 (binG addB) r7 (ctK (.int .i64 (Int.ofNat 1)))) w38, .p (o1 mvG r38) w7])))))))
 (.seq
 (.reg [.p (o1 mvG (ctK (.int .i64 (Int.ofNat 0)))) w2])
 .ret))) }
theorem kf29_ok : (compFn Try.prog Try.f29 [[], [0, 5, 6, 7], [0, 5, 6, 7], [0, 5, 6, 7]]).bind (toKFn 1) = some kf29 := by kernel_rfl
noncomputable def kf41 : KFn := { params := [w0], res := [(.s r2)], body :=
 (.seq
 (.reg [.p (o1 mvG (ctK (.bool false))) w2])
 (.seq
 (.reg [.p (o1 mvG r0) w3, .p (o2 (eqG eqSV true) r3 (ctK (.str 0 0))) w4, .p (o1 mvG r4) w5, .g r5 true false none (o1 mvG r0) w6, .g r5 true false none (o1 lenSG r6) w7, .g r5 true false none (o2 (binG (cmpB .leq leI)) r7 (ctK (.int .i64 (Int.ofNat 16)))) w8, .p (o3 pickG r5 r8 (ctK (.bool false))) w9, .p (o1 mvG r9) w10, .g r10 true false none (o1 mvG r0) w11, .g r10 true false none (o2 idxG r11 (ctK (.int .i64 (Int.ofNat 0)))) w12, .g r10 true false none (callO 53 [r12]) w13, .g r10 true false none (o1 notG r13) w14, .p (o3 pickG r10 r14 (ctK (.bool false))) w15, .p (o1 mvG r15) w16, .g r16 true false none (o1 mvG r0) w17, .g r16 true false none (callO 54 [r17]) w18, .g r16 true false none (o1 mvG r0) w19, .g r16 true false none (o1 lenSG r19) w20, .g r16 true false none (o2 (eqG eqIV false) r18 r20) w21, .p (o3 pickG r16 r21 (ctK (.bool false))) w22, .p (o1 mvG r22) w2])
 .ret)) }
theorem kf41_ok : (compFn Try.prog Try.f41 []).bind (toKFn 1) = some kf41 := by kernel_rfl
noncomputable def kf53 : KFn := { params := [w0], res := [(.s r2)], body :=
 (.seq
 (.reg [.p (o1 mvG (ctK (.bool false))) w2])
 (.seq
 (.reg [.p (o1 mvG r0) w3, .p (o2 (binG (cmpB .geq geI)) r3 (ctK (.int .u8 (Int.ofNat 48)))) w4, .p (o1 mvG r4) w5, .g r5 true false none (o1 mvG r0) w6, .g r5 true false none (o2 (binG (cmpB .leq leI)) r6 (ctK (.int .u8 (Int.ofNat 57)))) w7, .p (o3 pickG r5 r7 (ctK (.bool false))) w8, .p (o1 mvG r8) w2])
 .ret)) }
theorem kf53_ok : (compFn Try.prog Try.f53 []).bind (toKFn 1) = some kf53 := by kernel_rfl
noncomputable def kf54 : KFn := { params := [w0], res := [(.s r2)], body :=
 (.seq
 (.reg [.p (o1 mvG (ctK (.int .i64 (Int.ofNat 0)))) w2])
 (.seq
 (.reg [.p (o1 mvG r0) w3, .p (callO 59 [r3, (ctK (.fn 60 [] []))]) w4, .p (o1 mvG r4) w2])
 .ret)) }
theorem kf54_ok : (compFn Try.prog Try.f54 []).bind (toKFn 1) = some kf54 := by kernel_rfl
noncomputable def kf59 : KFn := { params := [w0, w1], res := [(.s r4)], body :=
 (.seq
 (.reg [.p (o1 mvG (ctK (.int .i64 (Int.ofNat 0)))) w4])
 (.seq
 (.seq
 (.reg [.p (o1 mvG r0) w6, .p (o1 rngSG r6) w7])
 (.block 0
 (.loop
 (.seq
 (.reg [.p (o1 nextSG r7) w8, .p (o1 (extG 0) r8) w9])
 (.seq
 (.cond r9
 .skip
 (.exit 0))
 (.block 1
 (.seq
 (.reg [.p (o1 (extG 1) r8) w10, .p (o1 mvG r10) w5])
 (.seq
 (.reg [.p (o1 mvG r1) w11, .p (o1 mvG r0) w12, .p (o1 mvG r5) w13, .p (o2 idxG r12 r13) w14, .p (callvO r11 [r14]) w15, .p (o1 notG r15) w16])
 (.cond r16
 (.seq
 (.reg [.p (o1 mvG r5) w17, .p (o1 mvG r17) w4])
 .ret)
 .skip)))))))))
 (.seq
 (.reg [.p (o1 mvG r0) w18, .p (o1 lenSG r18) w19, .p (o1 mvG r19) w4])
 .ret))) }
theorem kf59_ok : (compFn Try.prog Try.f59 [[0], [0, 1, 7], [0, 1, 7, 8]]).bind (toKFn 2) = some kf59 := by kernel_rfl
noncomputable def kf60 : KFn := { params := [w0], res := [(.s r2)], body :=
 (.seq
 (.reg [.p (o1 mvG (ctK (.bool false))) w2])
 (.seq
 (.reg [.p (o1 mvG r0) w3, .p (callO 61 [r3]) w4, .p (o1 mvG r4) w5, .g r5 false false none (o1 mvG r0) w6, .g r5 false false none (callO 53 [r6]) w7, .p (o3 pickG r5 (ctK (.bool true)) r7) w8, .p (o1 mvG r8) w2])
 .ret)) }
theorem kf60_ok : (compFn Try.prog Try.f60 []).bind (toKFn 1) = some kf60 := by kernel_rfl
noncomputable def kf61 : KFn := { params := [w0], res := [(.s r2)], body :=
 (.seq
 (.reg [.p (o1 mvG (ctK (.bool false))) w2])
 (.seq
 (.reg [.p (o1 mvG r0) w3, .p (o2 (eqG eqIV false) r3 (ctK (.int .u8 (Int.ofNat 95)))) w4, .p (o1 mvG r4) w5, .g r5 false false none (o1 mvG r0) w6, .g r5 false false none (o2 (binG (slowBin .or)) r6 (ctK (.int .u8 (Int.ofNat 32)))) w7, .g r5 false false none (o2 (binG (cmpB .geq geI)) r7 (ctK (.int .u8 (Int.ofNat 97)))) w8, .g r5 false false none (o1 mvG r8) w9, .g r9 true false none (o1 mvG r0) w10, .g r9 true false none (o2 (binG (slowBin .or)) r10 (ctK (.int .u8 (Int.ofNat 32)))) w11, .g r9 true false none (o2 (binG (cmpB .leq leI)) r11 (ctK (.int .u8 (Int.ofNat 122)))) w12, .g r5 false false none (o3 pickG r9 r12 (ctK (.bool false))) w13, .p (o3 pickG r5 (ctK (.bool true)) r13) w14, .p (o1 mvG r14) w2])
 .ret)) }
theorem kf61_ok : (compFn Try.prog Try.f61 []).bind (toKFn 1) = some kf61 := by kernel_rfl
noncomputable def kf30 : KFn := { params := [w0], res := [(.s r2)], body :=
 (.seq
 (.reg [.p (o1 boxG r0) w1, .p (o1 mvG (ctK .mnil)) w2])
 (.seq
 (.reg [.p mkmapO w6, .p (o1 mvG r6) w3])
 (.seq
 (.seq
 (.reg [.p (o1 (faddrG 4) r1) w7, .p (o1 load1G r7) w8, .p (o1 lenLG r8) w9, .p (o1 mvG (ctK (.int .i64 (Int.ofNat 0)))) w10])
 (.block 0
 (.loop
 (.seq
 (.reg [.p (o2 (binG (cmpB .lss ltI)) r10 r9) w11])
 (.seq
 (.cond r11
 .skip
 (.exit 0))
 (.seq
 (.block 1
 (.seq
 (.reg [.p (o2 (iaddrG 5) r8 r10) w12, .p (o1 (loadnG 5) r12) w13, .p (allocO [(.str 0 0), (.int .i64 (Int.ofNat 0)), (.str 0 0), .snil, .snil]) w5, .p (o2 (storeG 5) r5 r13) noW])
 (.reg [.p (o1 mvG r3) w14, .p (o1 (faddrG 0) r5) w15, .p (o1 load1G r15) w16, .p (o1 (faddrG 1) r5) w17, .p (o1 (loadnG 4) r17) w18, .p (o3 (mupdG (.one .s)) r14 r16 r18) noW])))
 (.reg [.p (o2 (binG addB) r10 (ctK (.int .i64 (Int.ofNat 1)))) w19, .p (o1 mvG r19) w10])))))))
 (.seq
 (.reg [.p (o1 mvG r3) w20, .p (o1 mvG r20) w2])
 .ret)))) }
theorem kf30_ok : (compFn Try.prog Try.f30 [[3], [3, 8, 9, 10], [3, 8, 9, 10], [3, 8, 9, 10]]).bind (toKFn 1) = some kf30 := by kernel_rfl
noncomputable def kf31 : KFn := { params := [w0, w1, w2], res := [(.s r6)], body :=
 (.seq
 (.reg [.p (o1 boxG r1) w4, .p (o1 mvG (ctK (.int .i64 (Int.ofNat 0)))) w6])
 (.seq
 (.reg [.p (o1 mvG r0) w14, .p (o1 nilckG r14) w15, .p (o1 (faddrG 1) r15) w16, .p (o1 load1G r16) w17, .p (o2 (binG addB) r17 (ctK (.int .i64 (Int.ofNat 1)))) w18, .p (o1 nilckG r14) w19, .p (o1 (faddrG 1) r19) w20, .p (o2 (storeG 1) r20 r18) noW])
 (.seq
 (.drw [.p (o1 mvG r0) w22, .p (o1 nilckG r22) w23, .p (o1 (faddrG 0) r23) w24, .p (o1 load1G r24) w25, .p (o1 (faddrG 1) r4) w26, .p (o1 load1G r26) w27, .p (o2 (lookupG (.one .s) (.agg [(.int .i64 (Int.ofNat 0)), (.str 0 0), .snil, .snil]) true) r25 r27) w28, .p (o1 mvG r28) w21, .p (o1 (extG 0) r21) w29, .p (o1 (extG 1) r21) w30, .p (allocO [(.int .i64 (Int.ofNat 0)), (.str 0 0), .snil, .snil]) w7, .p (o2 (storeG 4) r7 r29) noW, .p (o1 mvG r30) w8] [])
 (.seq
 (.reg [.p (o1 (faddrG 0) r4) w31, .p (o1 load1G r31) w32, .p (o2 (eqG eqIV false) r32 (ctK (.int .i64 (Int.ofNat 7)))) w33, .p (o1 mvG r33) w34, .g r34 false false none (o1 (faddrG 0) r4) w35, .g r34 false false none (o1 load1G r35) w36, .g r34 false false none (o2 (eqG eqIV false) r36 (ctK (.int .i64 (Int.ofNat 8)))) w37, .p (o3 pickG r34 (ctK (.bool true)) r37) w38, .p (o1 mvG r38) w9])
 (.seq
 (.block 0
 (.seq
 (.reg [.p (o1 mvG r0) w40, .p (o1 nilckG r40) w41, .p (o1 (faddrG 1) r41) w42, .p (o1 load1G r42) w43, .p (o2 (binG (cmpB .gtr gtI)) r43 (ctK (.int .i64 (Int.ofNat 400)))) w44, .p (o1 mvG r44) w39])
 (.cond r39
 (.seq
 (.reg [.p (o1 mvG (ctK (.int .i64 (Int.ofNat 3)))) w6])
 .ret)
 (.seq
 (.reg [.p (o1 mvG r2) w46, .p (o2 (binG (cmpB .gtr gtI)) r46 (ctK (.int .i64 (Int.ofNat 12)))) w47, .p (o1 mvG r47) w45])
 (.cond r45
 (.seq
 (.reg [.p (o1 mvG (ctK (.int .i64 (Int.ofNat 13)))) w6])
 .ret)
 (.seq
 (.reg [.p (o1 (faddrG 0) r4) w49, .p (o1 load1G r49) w50, .p (o2 (binG (cmpB .lss ltI)) r50 (ctK (.int .i64 (Int.ofNat 1)))) w51, .p (o1 mvG r51) w52, .g r52 false false none (o1 (faddrG 0) r4) w53, .g r52 false false none (o1 load1G r53) w54, .g r52 false false none (o2 (binG (cmpB .gtr gtI)) r54 (ctK (.int .i64 (Int.ofNat 9)))) w55, .p (o3 pickG r52 (ctK (.bool true)) r55) w56, .p (o1 mvG r56) w48])
 (.cond r48
 (.seq
 (.reg [.p (o1 mvG (ctK (.int .i64 (Int.ofNat 1)))) w6])
 .ret)
 (.seq
 (.drw [.p (o1 (faddrG 3) r4) w58, .p (o1 load1G r58) w59, .p (o1 lenLG r59) w60, .p (o1 (loadnG 4) r4) w61, .m (callO 43 [r61]) w62 (some [58]), .p (o2 (eqG eqIV true) r60 r62) w63, .p (o1 mvG r63) w64, .g r64 false false none (o1 (faddrG 1) r4) w65, .g r64 false false none (o1 load1G r65) w66, .g r64 false false none (o2 (eqG eqSV true) r66 (ctK (.str 0 0))) w67, .g r64 false false none (o1 mvG r67) w68, .g r68 true false none (o1 (faddrG 0) r4) w69, .g r68 true false none (o1 load1G r69) w70, .g r68 true false none (o2 (eqG eqIV true) r70 (ctK (.int .i64 (Int.ofNat 9)))) w71, .g r64 false false none (o3 pickG r68 r71 (ctK (.bool false))) w72, .p (o3 pickG r64 (ctK (.bool true)) r72) w73, .p (o1 mvG r73) w74, .g r74 false false none (o1 (faddrG 2) r4) w75, .g r74 false false none (o1 load1G r75) w76, .g r74 false false none (o1 lenLG r76) w77, .g r74 false false none (o2 (binG (cmpB .gtr gtI)) r77 (ctK (.int .i64 (Int.ofNat 0)))) w78, .g r74 false false none (o1 mvG r78) w79, .g r79 true false none (o1 mvG r9) w80, .g r79 true false none (o1 notG r80) w81, .g r74 false false none (o3 pickG r79 r81 (ctK (.bool false))) w82, .p (o3 pickG r74 (ctK (.bool true)) r82) w83, .p (o1 mvG r83) w57] [])
 (.cond r57
 (.seq
 (.reg [.p (o1 mvG (ctK (.int .i64 (Int.ofNat 12)))) w6])
 .ret)
 (.seq
 (.reg [.p (o1 (faddrG 0) r4) w85, .p (o1 load1G r85) w86, .p (o2 (eqG eqIV false) r86 (ctK (.int .i64 (Int.ofNat 9)))) w87, .p (o1 mvG r87) w88, .g r88 true false none (o1 mvG r8) w89, .g r88 true false none (o1 notG r89) w90, .p (o3 pickG r88 r90 (ctK (.bool false))) w91, .p (o1 mvG r91) w84])
 (.cond r84
 (.seq
 (.reg [.p (o1 mvG (ctK (.int .i64 (Int.ofNat 15)))) w6])
 .ret)
 .skip)))))))))))
 (.seq
 (.seq
 (.reg [.p (o1 (loadnG 4) r4) w92, .p (callO 44 [r92]) w93, .p (o1 mvG r93) w10])
 (.seq
 (.reg [.p (o1 mvG r10) w94, .p (o2 (eqG eqIV true) r94 (ctK (.int .i64 (Int.ofNat 0)))) w95])
 (.cond r95
 (.seq
 (.reg [.p (o1 mvG r10) w96, .p (o1 mvG r96) w6])
 .ret)
 .skip)))
 (.seq
 (.seq
 (.reg [.p (o1 (faddrG 3) r4) w97, .p (o1 load1G r97) w98, .p (o1 lenLG r98) w99, .p (o1 mvG (ctK (.int .i64 (Int.ofNat 0)))) w100])
 (.block 1
 (.loop
 (.seq
 (.reg [.p (o2 (binG (cmpB .lss ltI)) r100 r99) w101])
 (.seq
 (.cond r101
 .skip
 (.exit 1))
 (.seq
 (.block 2
 (.seq
 (.reg [.p (o2 (iaddrG 4) r98 r100) w102, .p (o1 (loadnG 4) r102) w103, .p (allocO [(.int .i64 (Int.ofNat 0)), (.str 0 0), .snil, .snil]) w12, .p (o2 (storeG 4) r12 r103) noW])
 (.seq
 (.reg [.p (o1 mvG r0) w104, .p (o1 (loadnG 4) r12) w105, .p (o1 mvG r2) w106, .p (o2 (binG addB) r106 (ctK (.int .i64 (Int.ofNat 1)))) w107, .p (callO 31 [r104, r105, r107]) w108, .p (o1 mvG r108) w13])
 (.seq
 (.reg [.p (o1 mvG r13) w109, .p (o2 (eqG eqIV true) r109 (ctK (.int .i64 (Int.ofNat 0)))) w110])
 (.cond r110
 (.seq
 (.reg [.p (o1 mvG r13) w111, .p (o1 mvG r111) w6])
 .ret)
 .skip)))))
 (.reg [.p (o2 (binG addB) r100 (ctK (.int .i64 (Int.ofNat 1)))) w112, .p (o1 mvG r112) w100])))))))
 (.seq
 (.reg [.p (o1 mvG (ctK (.int .i64 (Int.ofNat 0)))) w6])
 .ret)))))))) }
theorem kf31_ok : (compFn Try.prog Try.f31 [[0, 2, 4], [0, 2, 4], [], [0, 2, 98, 99, 100], [0, 2, 98, 99, 100], [0, 2, 98, 99, 100]]).bind (toKFn 3) = some kf31 := by kernel_rfl
noncomputable def kf43 : KFn := { params := [w0], res := [(.s r2)], body :=
 (.seq
 (.reg [.p (o1 boxG r0) w1, .p (o1 mvG (ctK (.int .i64 (Int.ofNat 0)))) w2])
 (.seq
 (.seq
 (.reg [.p (o1 (faddrG 0) r1) w3, .p (o1 load1G r3) w4])
 (.block 0
 (.seq
 (.seq
 (.reg [.p (o2 (eqG eqIV false) r4 (ctK (.int .i64 (Int.ofNat 4)))) w6, .p (o1 mvG r6) w5])
 (.cond r5
 .skip
 (.seq
 (.reg [.p (o2 (eqG eqIV false) r4 (ctK (.int .i64 (Int.ofNat 5)))) w7, .p (o1 mvG r7) w5])
 (.cond r5
 .skip
 (.reg [.p (o2 (eqG eqIV false) r4 (ctK (.int .i64 (Int.ofNat 6)))) w8, .p (o1 mvG r8) w5])))))
 (.cond r5
 (.seq
 (.reg [.p (o1 mvG (ctK (.int .i64 (Int.ofNat 1)))) w2])
 .ret)
 (.seq
 (.seq
 (.reg [.p (o2 (eqG eqIV false) r4 (ctK (.int .i64 (Int.ofNat 7)))) w10, .p (o1 mvG r10) w9])
 (.cond r9
 .skip
 (.reg [.p (o2 (eqG eqIV false) r4 (ctK (.int .i64 (Int.ofNat 8)))) w11, .p (o1 mvG r11) w9])))
 (.cond r9
 (.seq
 (.reg [.p (o1 (faddrG 2) r1) w12, .p (o1 load1G r12) w13, .p (o1 lenLG r13) w14, .p (o1 mvG r14) w2])
 .ret)
 .skip))))))
 (.seq
 (.reg [.p (o1 mvG (ctK (.int .i64 (Int.ofNat 0)))) w2])
 .ret))) }
theorem kf43_ok : (compFn Try.prog Try.f43 [[], [1, 4, 5], [1, 9]]).bind (toKFn 1) = some kf43 := by kernel_rfl
noncomputable def kf44 : KFn := { params := [w0], res := [(.s r2)], body :=
 (.seq
 (.reg [.p (o1 boxG r0) w1, .p (o1 mvG (ctK (.int .i64 (Int.ofNat 0)))) w2])
 (.seq
 (.seq
 (.reg [.p (o1 (faddrG 2) r1) w5, .p (o1 load1G r5) w6, .p (o1 lenLG r6) w7, .p (o2 (binG (cmpB .gtr gtI)) r7 (ctK (.int .i64 (Int.ofNat 8)))) w8])
 (.cond r8
 (.seq
 (.reg [.p (o1 mvG (ctK (.int .i64 (Int.ofNat 3)))) w2])
 .ret)
 .skip))
 (.seq
 (.seq
 (.reg [.p (o1 (faddrG 2) r1) w9, .p (o1 load1G r9) w10, .p (o1 lenLG r10) w11, .p (o1 mvG (ctK (.int .i64 (Int.ofNat 0)))) w12])
 (.block 0
 (.loop
 (.seq
 (.reg [.p (o2 (binG (cmpB .lss ltI)) r12 r11) w13])
 (.seq
 (.cond r13
 .skip
 (.exit 0))
 (.seq
 (.block 1
 (.seq
 (.reg [.p (o1 mvG r12) w14, .p (o2 (iaddrG 1) r10 r12) w15, .p (o1 load1G r15) w16, .p (o1 mvG r14) w3, .p (o1 mvG r16) w4])
 (.block 2
 (.seq
 (.reg [.p (o1 mvG r4) w18, .p (callO 41 [r18]) w19, .p (o1 notG r19) w20, .p (o1 mvG r20) w17])
 (.cond r17
 (.seq
 (.reg [.p (o1 mvG (ctK (.int .i64 (Int.ofNat 15)))) w2])
 .ret)
 (.seq
 (.reg [.p (o1 mvG r3) w22, .p (o2 (binG (cmpB .gtr gtI)) r22 (ctK (.int .i64 (Int.ofNat 0)))) w23, .p (o1 mvG r23) w24, .g r24 true false none (o1 (faddrG 2) r1) w25, .g r24 true false none (o1 load1G r25) w26, .g r24 true false none (o1 mvG r3) w27, .g r24 true false none (o2 (binG subB) r27 (ctK (.int .i64 (Int.ofNat 1)))) w28, .g r24 true false none (o2 (iaddrG 1) r26 r28) w29, .g r24 true false none (o1 load1G r29) w30, .g r24 true false none (o1 mvG r4) w31, .g r24 true false none (o2 (binG (cmpB .geq geI)) r30 r31) w32, .p (o3 pickG r24 r32 (ctK (.bool false))) w33, .p (o1 mvG r33) w21])
 (.cond r21
 (.seq
 (.reg [.p (o1 mvG (ctK (.int .i64 (Int.ofNat 6)))) w2])
 .ret)
 .skip)))))))
 (.reg [.p (o2 (binG addB) r12 (ctK (.int .i64 (Int.ofNat 1)))) w34, .p (o1 mvG r34) w12])))))))
 (.seq
 (.seq
 (.reg [.p (o1 (faddrG 0) r1) w35, .p (o1 load1G r35) w36, .p (o2 (eqG eqIV false) r36 (ctK (.int .i64 (Int.ofNat 8)))) w37, .p (o1 mvG r37) w38, .g r38 true false none (o1 (faddrG 2) r1) w39, .g r38 true false none (o1 load1G r39) w40, .g r38 true false none (o1 lenLG r40) w41, .g r38 true false none (o2 (eqG eqIV false) r41 (ctK (.int .i64 (Int.ofNat 0)))) w42, .p (o3 pickG r38 r42 (ctK (.bool false))) w43])
 (.cond r43
 (.seq
 (.reg [.p (o1 mvG (ctK (.int .i64 (Int.ofNat 12)))) w2])
 .ret)
 .skip))
 (.seq
 (.reg [.p (o1 mvG (ctK (.int .i64 (Int.ofNat 0)))) w2])
 .ret))))) }
theorem kf44_ok : (compFn Try.prog Try.f44 [[1], [1], [1, 10, 11, 12], [1, 10, 11, 12], [1, 10, 11, 12], []]).bind (toKFn 1) = some kf44 := by kernel_rfl
noncomputable def kf32 : KFn := { params := [w0, w1], res := [(.s r4)], body :=
 (.seq
 (.reg [.p (o1 mvG (ctK (.int .i64 (Int.ofNat 0)))) w4])
 (.seq
 (.seq
 (.reg [.p (o1 mvG r1) w8, .p (o1 lenLG r8) w9, .p (o1 mvG (ctK (.int .i64 (Int.ofNat 0)))) w10])
 (.block 0
 (.loop
 (.seq
 (.reg [.p (o2 (binG (cmpB .lss ltI)) r10 r9) w11])
 (.seq
 (.cond r11
 .skip
 (.exit 0))
 (.seq
 (.block 1
 (.seq
 (.reg [.p (o1 mvG r10) w12, .p (o2 (iaddrG 6) r8 r10) w13, .p (o1 (loadnG 6) r13) w14, .p (allocO [(.str 0 0), .snil, (.int .i64 (Int.ofNat 0)), (.str 0 0), .snil, .snil]) w6, .p (o1 mvG r12) w5, .p (o2 (storeG 6) r6 r14) noW])
 (.seq
 (.block 2
 (.seq
 (.reg [.p (o1 (faddrG 0) r6) w16, .p (o1 load1G r16) w17, .p (callO 41 [r17]) w18, .p (o1 notG r18) w19, .p (o1 mvG r19) w20, .g r20 false false none (o1 (faddrG 0) r6) w21, .g r20 false false none (o1 load1G r21) w22, .g r20 false false none (callO 45 [r22]) w23, .p (o3 pickG r20 (ctK (.bool true)) r23) w24, .p (o1 mvG r24) w15])
 (.cond r15
 (.seq
 (.reg [.p (o1 mvG (ctK (.int .i64 (Int.ofNat 15)))) w4])
 .ret)
 (.seq
 (.drw [.p (o1 mvG r5) w26, .p (o2 (binG (cmpB .gtr gtI)) r26 (ctK (.int .i64 (Int.ofNat 0)))) w27, .p (o1 mvG r27) w28, .g r28 true false none (o1 mvG r1) w29, .g r28 true false none (o1 mvG r5) w30, .g r28 true false none (o2 (binG subB) r30 (ctK (.int .i64 (Int.ofNat 1)))) w31, .g r28 true false none (o2 (iaddrG 6) r29 r31) w32, .g r28 true false none (o1 (faddrG 0) r32) w33, .g r28 true false none (o1 load1G r33) w34, .g r28 true false none (o1 (faddrG 0) r6) w35, .g r28 true false none (o1 load1G r35) w36, .g r28 true false none (o2 (binG (cmpB .geq geI)) r34 r36) w37, .p (o3 pickG r28 r37 (ctK (.bool false))) w38, .p (o1 mvG r38) w25] [])
 (.cond r25
 (.seq
 (.reg [.p (o1 mvG (ctK (.int .i64 (Int.ofNat 6)))) w4])
 .ret)
 (.seq
 (.reg [.p (o1 (faddrG 1) r6) w40, .p (o1 load1G r40) w41, .p (o1 lenLG r41) w42, .p (o2 (binG (cmpB .gtr gtI)) r42 (ctK (.int .i64 (Int.ofNat 4)))) w43, .p (o1 mvG r43) w39])
 (.cond r39
 (.seq
 (.reg [.p (o1 mvG (ctK (.int .i64 (Int.ofNat 18)))) w4])
 .ret)
 .skip)))))))
 (.seq
 (.drw [.p (o1 mvG r0) w44, .p (o1 (faddrG 1) r6) w45, .p (o1 load1G r45) w46, .m (callO 21 [r46]) w47 none, .p (o1 (faddrG 2) r6) w48, .p (o1 (loadnG 4) r48) w49, .p (bslO 4 1 [(.int .i64 (Int.ofNat 0)), (.str 0 0), .snil, .snil] [(0, 4, r49)]) w50, .p (o2 (appG 4) r47 r50) w51, .m (callO 46 [r44, r51]) w52 (some []), .p (o1 mvG r52) w7] [])
 (.seq
 (.reg [.p (o1 mvG r7) w53, .p (o2 (eqG eqIV true) r53 (ctK (.int .i64 (Int.ofNat 0)))) w54])
 (.cond r54
 (.seq
 (.reg [.p (o1 mvG r7) w55, .p (o1 mvG r55) w4])
 .ret)
 .skip))))))
 (.reg [.p (o2 (binG addB) r10 (ctK (.int .i64 (Int.ofNat 1)))) w56, .p (o1 mvG r56) w10])))))))
 (.seq
 (.reg [.p (o1 mvG (ctK (.int .i64 (Int.ofNat 0)))) w4])
 .ret))) }
theorem kf32_ok : (compFn Try.prog Try.f32 [[], [0, 1, 8, 9, 10], [0, 1, 8, 9, 10], [0, 1, 8, 9, 10], [0, 1, 6, 8, 9, 10]]).bind (toKFn 2) = some kf32 := by kernel_rfl
noncomputable def kf45 : KFn := { params := [w0], res := [(.s r2)], body :=
 (.seq
 (.reg [.p (o1 mvG (ctK (.bool false))) w2])
 (.seq
 (.reg [.p (o1 mvG r0) w3, .p (callO 41 [r3]) w4, .p (o1 mvG r4) w5, .g r5 true false none (o1 mvG r0) w6, .g r5 true false none (o2 (binG addB) (ctK (.str 1 32)) r6) w7, .g r5 true false none (o2 (binG addB) r7 (ctK (.str 1 32))) w8, .g r5 true false none (callO 42 [(ctK (.str 91 178686683887446287100313889210838612883293650169161782699781515008887049184836398825504385070224074575899429074951214181473750552558099404030661262664651392350738735132031991416282501624620935436484047697889576312204320)), r8]) w9, .p (o3 pickG r5 r9 (ctK (.bool false))) w10, .p (o1 mvG r10) w2])
 .ret)) }
theorem kf45_ok : (compFn Try.prog Try.f45 []).bind (toKFn 1) = some kf45 := by kernel_rfl
noncomputable def kf21 : KFn := { params := [w0], res := [(.s r2)], body :=
 (.seq
 (.reg [.p (o1 mvG (ctK .snil)) w2])
 (.seq
 (.seq
 (.reg [.p (o1 mvG r0) w3, .p (o2 (eqG (slowEq (.one .l)) false) r3 (ctK .snil)) w4])
 (.cond r4
 (.seq
 (.reg [.p (o1 mvG (ctK .snil)) w2])
 .ret)
 .skip))
 (.seq
 (.reg [.p (bslO 4 0 [] []) w5, .p (o1 mvG r0) w6, .p (o2 (appG 4) r5 r6) w7, .p (o1 mvG r7) w2])
 .ret))) }
theorem kf21_ok : (compFn Try.prog Try.f21 [[0]]).bind (toKFn 1) = some kf21 := by kernel_rfl
noncomputable def kf46 : KFn := { params := [w0, w1], res := [(.s r4)], body :=
 (.seq
 (.reg [.p (o1 mvG (ctK (.int .i64 (Int.ofNat 0)))) w4])
 (.seq
 (.seq
 (.reg [.p (o1 mvG r1) w8, .p (o1 lenLG r8) w9, .p (o1 mvG (ctK (.int .i64 (Int.ofNat 0)))) w10])
 (.block 0
 (.loop
 (.seq
 (.reg [.p (o2 (binG (cmpB .lss ltI)) r10 r9) w11])
 (.seq
 (.cond r11
 .skip
 (.exit 0))
 (.seq
 (.block 1
 (.seq
 (.reg [.p (o2 (iaddrG 4) r8 r10) w12, .p (o1 (loadnG 4) r12) w13, .p (allocO [(.int .i64 (Int.ofNat 0)), (.str 0 0), .snil, .snil]) w6, .p (o2 (storeG 4) r6 r13) noW])
 (.seq
 (.reg [.p (o1 mvG r0) w14, .p (o1 (loadnG 4) r6) w15, .p (callO 31 [r14, r15, (ctK (.int .i64 (Int.ofNat 1)))]) w16, .p (o1 mvG r16) w7])
 (.seq
 (.reg [.p (o1 mvG r7) w17, .p (o2 (eqG eqIV true) r17 (ctK (.int .i64 (Int.ofNat 0)))) w18])
 (.cond r18
 (.seq
 (.reg [.p (o1 mvG r7) w19, .p (o1 mvG r19) w4])
 .ret)
 .skip)))))
 (.reg [.p (o2 (binG addB) r10 (ctK (.int .i64 (Int.ofNat 1)))) w20, .p (o1 mvG r20) w10])))))))
 (.seq
 (.reg [.p (o1 mvG (ctK (.int .i64 (Int.ofNat 0)))) w4])
 .ret))) }
theorem kf46_ok : (compFn Try.prog Try.f46 [[], [0, 8, 9, 10], [0, 8, 9, 10], [0, 8, 9, 10]]).bind (toKFn 2) = some kf46 := by kernel_rfl
noncomputable def kf33 : KFn := { params := [w0, w1], res := [(.s r4)], body :=
 (.seq
 (.reg [.p (o1 boxG r0) w2, .p (o1 boxG r1) w3, .p (o1 mvG (ctK (.bool false))) w4])
 (.seq
 (.reg [.p (o1 (loadnG 6) r2) w11, .p (callO 30 [r11]) w12, .p (buildO [.mnil, (.int .i64 (Int.ofNat 0))] [(0, 1, r12)]) w13, .p (o1 boxG r13) w14, .p (o1 mvG r14) w5])
 (.seq
 (.seq
 (.reg [.p (o1 (faddrG 4) r2) w15, .p (o1 load1G r15) w16, .p (o1 lenLG r16) w17, .p (o1 mvG (ctK (.int .i64 (Int.ofNat 0)))) w18])
 (.block 0
 (.loop
 (.seq
 (.reg [.p (o2 (binG (cmpB .lss ltI)) r18 r17) w19])
 (.seq
 (.cond r19
 .skip
 (.exit 0))
 (.seq
 (.block 1
 (.seq
 (.reg [.p (o2 (iaddrG 5) r16 r18) w20, .p (o1 (loadnG 5) r20) w21, .p (allocO [(.str 0 0), (.int .i64 (Int.ofNat 0)), (.str 0 0), .snil, .snil]) w7, .p (o2 (storeG 5) r7 r21) noW])
 (.seq
 (.reg [.p (o1 mvG r5) w22, .p (o1 (faddrG 1) r7) w23, .p (o1 (loadnG 4) r23) w24, .p (callO 31 [r22, r24, (ctK (.int .i64 (Int.ofNat 1)))]) w25, .p (o2 (eqG eqIV true) r25 (ctK (.int .i64 (Int.ofNat 0)))) w26])
 (.cond r26
 (.seq
 (.reg [.p (o1 mvG (ctK (.bool false))) w4])
 .ret)
 .skip))))
 (.reg [.p (o2 (binG addB) r18 (ctK (.int .i64 (Int.ofNat 1)))) w27, .p (o1 mvG r27) w18])))))))
 (.seq
 (.reg [.p (o1 mvG r5) w28, .p (o1 nilckG r28) w29, .p (o1 (faddrG 1) r29) w30, .p (o2 (storeG 1) r30 (ctK (.int .i64 (Int.ofNat 0)))) noW])
 (.seq
 (.seq
 (.reg [.p (o1 mvG r5) w31, .p (o1 (loadnG 4) r3) w32, .p (callO 31 [r31, r32, (ctK (.int .i64 (Int.ofNat 1)))]) w33, .p (o2 (eqG eqIV true) r33 (ctK (.int .i64 (Int.ofNat 0)))) w34])
 (.cond r34
 (.seq
 (.reg [.p (o1 mvG (ctK (.bool false))) w4])
 .ret)
 .skip))
 (.seq
 (.reg [.p mkmapO w35, .p (o1 mvG r35) w8])
 (.seq
 (.seq
 (.reg [.p (o1 (faddrG 4) r2) w36, .p (o1 load1G r36) w37, .p (o1 lenLG r37) w38, .p (o1 mvG (ctK (.int .i64 (Int.ofNat 0)))) w39])
 (.block 2
 (.loop
 (.seq
 (.reg [.p (o2 (binG (cmpB .lss ltI)) r39 r38) w40])
 (.seq
 (.cond r40
 .skip
 (.exit 2))
 (.seq
 (.block 3
 (.seq
 (.reg [.p (o1 (faddrG 4) r2) w41, .p (o1 load1G r41) w42, .p (o1 lenLG r42) w43, .p (o1 mvG (ctK (.int .i64 (Int.ofNat 0)))) w44])
 (.block 4
 (.loop
 (.seq
 (.reg [.p (o2 (binG (cmpB .lss ltI)) r44 r43) w45])
 (.seq
 (.cond r45
 .skip
 (.exit 4))
 (.seq
 (.block 5
 (.seq
 (.reg [.p (o2 (iaddrG 5) r42 r44) w46, .p (o1 (loadnG 5) r46) w47, .p (allocO [(.str 0 0), (.int .i64 (Int.ofNat 0)), (.str 0 0), .snil, .snil]) w10, .p (o2 (storeG 5) r10 r47) noW])
 (.drw [.p (o1 mvG r8) w48, .p (o1 (faddrG 0) r10) w49, .p (o1 load1G r49) w50, .p (o1 mvG r8) w51, .p (o1 (faddrG 0) r10) w52, .p (o1 load1G r52) w53, .p (o2 (lookupG (.one .s) (.bool false) false) r51 r53) w54, .p (o1 mvG r54) w55, .g r55 false false none (o1 (faddrG 1) r10) w56, .g r55 false false none (o1 (loadnG 4) r56) w57, .g r55 false false none (o1 mvG r8) w58, .g r55 false true (some [49]) (callO 47 [r57, r58, (ctK (.int .i64 (Int.ofNat 1)))]) w59, .p (o3 pickG r55 (ctK (.bool true)) r59) w60, .p (o3 (mupdG (.one .s)) r48 r50 r60) noW] [])))
 (.reg [.p (o2 (binG addB) r44 (ctK (.int .i64 (Int.ofNat 1)))) w61, .p (o1 mvG r61) w44]))))))))
 (.reg [.p (o2 (binG addB) r39 (ctK (.int .i64 (Int.ofNat 1)))) w62, .p (o1 mvG r62) w39])))))))
 (.seq
 (.reg [.p (o1 (loadnG 4) r3) w63, .p (o1 mvG r8) w64, .p (callO 47 [r63, r64, (ctK (.int .i64 (Int.ofNat 1)))]) w65, .p (o1 mvG r65) w4])
 .ret)))))))) }
theorem kf33_ok : (compFn Try.prog Try.f33 [[2, 3, 5], [2, 3, 5, 16, 17, 18], [2, 3, 5, 16, 17, 18], [2, 3, 5, 16, 17, 18], [2, 3], [3, 8], [2, 3, 8, 38, 39], [2, 3, 8, 38, 39], [2, 3, 8, 38, 39], [2, 3, 8, 38, 39, 42, 43, 44], [2, 3, 8, 38, 39, 42, 43, 44], [2, 3, 8, 38, 39, 42, 43, 44]]).bind (toKFn 2) = some kf33 := by kernel_rfl
noncomputable def kf47 : KFn := { params := [w0, w1, w2], res := [(.s r6)], body :=
 (.seq
 (.reg [.p (o1 boxG r0) w3, .p (o1 boxG r1) w4, .p (o1 boxG r2) w5, .p (o1 mvG (ctK (.bool false))) w6])
 (.seq
 (.seq
 (.reg [.p (o1 load1G r5) w8, .p (o2 (binG (cmpB .gtr gtI)) r8 (ctK (.int .i64 (Int.ofNat 12)))) w9])
 (.cond r9
 (.seq
 (.reg [.p (o1 mvG (ctK (.bool false))) w6])
 .ret)
 .skip))
 (.seq
 (.reg [.p (mkfnO 56 [] [r4, r5]) w10, .p (allocO [.fnil]) w7, .p (o2 (storeG 1) r7 r10) noW])
 (.seq
 (.seq
 (.reg [.p (o1 (faddrG 0) r3) w11, .p (o1 load1G r11) w12])
 (.block 0
 (.seq
 (.reg [.p (o2 (eqG eqIV false) r12 (ctK (.int .i64 (Int.ofNat 9)))) w14, .p (o1 mvG r14) w13])
 (.cond r13
 (.seq
 (.reg [.p (o1 load1G r4) w15, .p (o1 (faddrG 1) r3) w16, .p (o1 load1G r16) w17, .p (o2 (lookupG (.one .s) (.bool false) false) r15 r17) w18, .p (o1 mvG r18) w6])
 .ret)
 (.seq
 (.reg [.p (o2 (eqG eqIV false) r12 (ctK (.int .i64 (Int.ofNat 8)))) w20, .p (o1 mvG r20) w19])
 (.cond r19
 (.seq
 (.reg [.p (o1 (faddrG 3) r3) w21, .p (o1 load1G r21) w22, .p (o1 load1G r7) w23, .p (callO 34 [r22, r23]) w24, .p (o1 mvG r24) w6])
 .ret)
 (.seq
 (.reg [.p (o2 (eqG eqIV false) r12 (ctK (.int .i64 (Int.ofNat 7)))) w26, .p (o1 mvG r26) w25])
 (.cond r25
 (.seq
 (.reg [.p (o1 (faddrG 3) r3) w27, .p (o1 load1G r27) w28, .p (mkfnO 57 [] [r7]) w29, .p (callO 34 [r28, r29]) w30, .p (o1 notG r30) w31, .p (o1 mvG r31) w6])
 .ret)
 .skip))))))))
 (.seq
 (.reg [.p (o1 mvG (ctK (.bool true))) w6])
 .ret))))) }
theorem kf47_ok : (compFn Try.prog Try.f47 [[3, 4, 5], []]).bind (toKFn 3) = some kf47 := by kernel_rfl
noncomputable def kf56 : KFn := { params := [w0, w1, w2], res := [(.s r4)], body :=
 (.seq
 (.reg [.p (o1 boxG r0) w3, .p (o1 mvG (ctK (.bool false))) w4])
 (.seq
 (.reg [.p (o1 (loadnG 4) r3) w5, .p (o1 load1G r1) w6, .p (o1 load1G r2) w7, .p (o2 (binG addB) r7 (ctK (.int .i64 (Int.ofNat 1)))) w8, .p (callO 47 [r5, r6, r8]) w9, .p (o1 mvG r9) w4])
 .ret)) }
theorem kf56_ok : (compFn Try.prog Try.f56 []).bind (toKFn 3) = some kf56 := by kernel_rfl
noncomputable def kf34 : KFn := { params := [w0, w1], res := [(.s r4)], body :=
 (.seq
 (.reg [.p (o1 mvG (ctK (.bool false))) w4])
 (.seq
 (.reg [.p (o1 mvG r0) w5, .p (o1 mvG r1) w6, .p (callO 48 [r5, r6]) w7, .p (o2 (binG (cmpB .geq geI)) r7 (ctK (.int .i64 (Int.ofNat 0)))) w8, .p (o1 mvG r8) w4])
 .ret)) }
theorem kf34_ok : (compFn Try.prog Try.f34 []).bind (toKFn 2) = some kf34 := by kernel_rfl
noncomputable def kf48 : KFn := { params := [w0, w1], res := [(.s r4)], body :=
 (.seq
 (.reg [.p (o1 mvG (ctK (.int .i64 (Int.ofNat 0)))) w4])
 (.seq
 (.seq
 (.reg [.p (o1 mvG r0) w6, .p (o1 lenLG r6) w7, .p (o1 mvG (ctK (.int .i64 (Int.ofNat 0)))) w8])
 (.block 0
 (.loop
 (.seq
 (.reg [.p (o2 (binG (cmpB .lss ltI)) r8 r7) w9])
 (.seq
 (.cond r9
 .skip
 (.exit 0))
 (.seq
 (.block 1
 (.seq
 (.reg [.p (o1 mvG r8) w10, .p (o1 mvG r10) w5])
 (.seq
 (.reg [.p (o1 mvG r1) w11, .p (o1 mvG r0) w12, .p (o1 mvG r5) w13, .p (o2 (iaddrG 4) r12 r13) w14, .p (o1 (loadnG 4) r14) w15, .p (callvO r11 [r15]) w16])
 (.cond r16
 (.seq
 (.reg [.p (o1 mvG r5) w17, .p (o1 mvG r17) w4])
 .ret)
 .skip))))
 (.reg [.p (o2 (binG addB) r8 (ctK (.int .i64 (Int.ofNat 1)))) w18, .p (o1 mvG r18) w8])))))))
 (.seq
 (.reg [.p (o1 mvG (ctK (.int .i64 (Int.negSucc 0)))) w4])
 .ret))) }
theorem kf48_ok : (compFn Try.prog Try.f48 [[], [0, 1, 7, 8], [0, 1, 7, 8], [0, 1, 7, 8]]).bind (toKFn 2) = some kf48 := by kernel_rfl
noncomputable def kf57 : KFn := { params := [w0, w1], res := [(.s r3)], body :=
 (.seq
 (.reg [.p (o1 boxG r0) w2, .p (o1 mvG (ctK (.bool false))) w3])
 (.seq
 (.reg [.p (o1 load1G r1) w4, .p (o1 (loadnG 4) r2) w5, .p (callvO r4 [r5]) w6, .p (o1 notG r6) w7, .p (o1 mvG r7) w3])
 .ret)) }
theorem kf57_ok : (compFn Try.prog Try.f57 []).bind (toKFn 2) = some kf57 := by kernel_rfl
noncomputable def kf35 : KFn := { params := [w0], res := [(.s r2)], body :=
 (.seq
 (.reg [.p (o1 boxG r0) w1, .p (o1 mvG (ctK .snil)) w2])
 (.seq
 (.reg [.p (o1 mvG (ctK .snil)) w3])
 (.seq
 (.seq
 (.reg [.p (o1 (faddrG 4) r1) w8, .p (o1 load1G r8) w9, .p (o1 lenLG r9) w10, .p (o1 mvG (ctK (.int .i64 (Int.ofNat 0)))) w11])
 (.block 0
 (.loop
 (.seq
 (.reg [.p (o2 (binG (cmpB .lss ltI)) r11 r10) w12])
 (.seq
 (.cond r12
 .skip
 (.exit 0))
 (.seq
 (.block 1
 (.seq
 (.reg [.p (o2 (iaddrG 5) r9 r11) w13, .p (o1 (loadnG 5) r13) w14, .p (allocO [(.str 0 0), (.int .i64 (Int.ofNat 0)), (.str 0 0), .snil, .snil]) w5, .p (o2 (storeG 5) r5 r14) noW])
 (.reg [.p (o1 mvG r3) w15, .p (o1 (faddrG 1) r5) w16, .p (o1 (loadnG 4) r16) w17, .p (bslO 4 1 [(.int .i64 (Int.ofNat 0)), (.str 0 0), .snil, .snil] [(0, 4, r17)]) w18, .p (o2 (appG 4) r15 r18) w19, .p (o1 mvG r19) w3])))
 (.reg [.p (o2 (binG addB) r11 (ctK (.int .i64 (Int.ofNat 1)))) w20, .p (o1 mvG r20) w11])))))))
 (.seq
 (.reg [.p (o1 mvG r3) w21, .p (o1 (faddrG 0) r1) w22, .p (o1 (loadnG 4) r22) w23, .p (bslO 4 1 [(.int .i64 (Int.ofNat 0)), (.str 0 0), .snil, .snil] [(0, 4, r23)]) w24, .p (o2 (appG 4) r21 r24) w25, .p (o1 mvG r25) w3])
 (.seq
 (.seq
 (.reg [.p (o1 (faddrG 5) r1) w26, .p (o1 load1G r26) w27, .p (o1 lenLG r27) w28, .p (o1 mvG (ctK (.int .i64 (Int.ofNat 0)))) w29])
 (.block 2
 (.loop
 (.seq
 (.reg [.p (o2 (binG (cmpB .lss ltI)) r29 r28) w30])
 (.seq
 (.cond r30
 .skip
 (.exit 2))
 (.seq
 (.block 3
 (.seq
 (.reg [.p (o2 (iaddrG 6) r27 r29) w31, .p (o1 (loadnG 6) r31) w32, .p (allocO [(.str 0 0), .snil, (.int .i64 (Int.ofNat 0)), (.str 0 0), .snil, .snil]) w7, .p (o2 (storeG 6) r7 r32) noW])
 (.drw [.p (o1 mvG r3) w33, .p (o1 (faddrG 1) r7) w34, .p (o1 load1G r34) w35, .p (o2 (appG 4) r33 r35) w36, .p (o1 (faddrG 2) r7) w37, .p (o1 (loadnG 4) r37) w38, .p (bslO 4 1 [(.int .i64 (Int.ofNat 0)), (.str 0 0), .snil, .snil] [(0, 4, r38)]) w39, .p (o2 (appG 4) r36 r39) w40, .p (o1 mvG r40) w3] [([33], [37])])))
 (.reg [.p (o2 (binG addB) r29 (ctK (.int .i64 (Int.ofNat 1)))) w41, .p (o1 mvG r41) w29])))))))
 (.seq
 (.reg [.p (o1 mvG r3) w42, .p (o1 mvG r42) w2])
 .ret)))))) }
theorem kf35_ok : (compFn Try.prog Try.f35 [[1, 3], [1, 3, 9, 10, 11], [1, 3, 9, 10, 11], [1, 3, 9, 10, 11], [3], [3, 27, 28, 29], [3, 27, 28, 29], [3, 27, 28, 29]]).bind (toKFn 1) = some kf35 := by kernel_rfl
noncomputable def kf36 : KFn := { params := [w0, w1], res := [(.s r4)], body :=
 (.seq
 (.reg [.p (o1 boxG r1) w3, .p (o1 mvG (ctK (.bool false))) w4])
 (.seq
 (.seq
 (.reg [.p (o1 (faddrG 0) r3) w6, .p (o1 load1G r6) w7, .p (o2 (eqG eqIV false) r7 (ctK (.int .i64 (Int.ofNat 6)))) w8, .p (o1 mvG r8) w9, .g r9 true false none (o1 (faddrG 3) r3) w10, .g r9 true false none (o1 load1G r10) w11, .g r9 true false none (o1 lenLG r11) w12, .g r9 true false none (o2 (eqG eqIV false) r12 (ctK (.int .i64 (Int.ofNat 1)))) w13, .p (o3 pickG r9 r13 (ctK (.bool false))) w14])
 (.cond r14
 (.seq
 (.reg [.p (o1 (faddrG 3) r3) w15, .p (o1 load1G r15) w16, .p (o2 (iaddrG 4) r16 (ctK (.int .i64 (Int.ofNat 0)))) w17, .p (o1 (loadnG 4) r17) w18, .p (allocO [(.int .i64 (Int.ofNat 0)), (.str 0 0), .snil, .snil]) w5, .p (o2 (storeG 4) r5 r18) noW])
 (.seq
 (.seq
 (.reg [.p (o1 mvG r0) w19, .p (o1 nilckG r19) w20, .p (o1 (faddrG 0) r20) w21, .p (o1 load1G r21) w22, .p (o1 rngMG r22) w23])
 (.block 0
 (.loop
 (.seq
 (.reg [.p (o1 nextMG r23) w24, .p (o1 (extG 0) r24) w25])
 (.seq
 (.cond r25
 .skip
 (.exit 0))
 (.block 1
 (.seq
 (.reg [.p (o1 (faddrG 0) r5) w27, .p (o1 load1G r27) w28, .p (o2 (eqG eqIV false) r28 (ctK (.int .i64 (Int.ofNat 9)))) w29])
 (.cond r29
 (.drw [.p (o1 mvG r0) w30, .p (o1 nilckG r30) w31, .p (o1 (faddrG 0) r31) w32, .p (o1 load1G r32) w33, .p (o1 (faddrG 1) r5) w34, .p (o1 load1G r34) w35, .p (o2 (lookupG (.one .s) (.agg [(.int .i64 (Int.ofNat 0)), (.str 0 0), .snil, .snil]) false) r33 r35) w36, .p (o2 (storeG 4) r5 r36) noW] [])
 .skip))))))))
 (.seq
 (.reg [.p (o1 (faddrG 0) r5) w37, .p (o1 load1G r37) w38, .p (o2 (eqG eqIV false) r38 (ctK (.int .i64 (Int.ofNat 6)))) w39])
 (.cond r39
 (.seq
 (.reg [.p (o1 mvG (ctK (.bool true))) w4])
 .ret)
 .skip))))
 .skip))
 (.seq
 (.reg [.p (o1 (faddrG 3) r3) w40, .p (o1 load1G r40) w41, .p (o1 mvG r0) w42, .p (mkfnO 36 [r42] []) w43, .p (callO 34 [r41, r43]) w44, .p (o1 mvG r44) w4])
 .ret))) }
theorem kf36_ok : (compFn Try.prog Try.f36 [[0, 3], [0, 3, 5], [0, 3, 5, 23], [0, 3, 5, 23]]).bind (toKFn 2) = some kf36 := by kernel_rfl
noncomputable def kf13 : KFn := { params := [w0, w1], res := [(.s r4), (.s r5)], body :=
 (.seq
 (.reg [.p (o1 boxG r1) w3, .p (o1 mvG (ctK (.int .i64 (Int.ofNat 0)))) w4, .p (o1 mvG (ctK (.int .i64 (Int.ofNat 0)))) w5])
 (.seq
 (.reg [.p (allocO [(.int .i64 (Int.ofNat 0))]) w6, .p (o2 (storeG 1) r6 (ctK (.int .i64 (Int.ofNat 400)))) noW])
 (.seq
 (.reg [.p (o1 mvG r0) w7, .p (o1 (loadnG 4) r3) w8, .p (callO 22 [r7, r8, r6]) w9, .p (o1 (extG 0) r9) w10, .p (o1 (extG 1) r9) w11, .p (o1 mvG r10) w4, .p (o1 mvG r11) w5])
 .ret))) }
theorem kf13_ok : (compFn Try.prog Try.f13 []).bind (toKFn 2) = some kf13 := by kernel_rfl
noncomputable def kf22 : KFn := { params := [w0, w1, w2], res := [(.s r6), (.s r7)], body :=
 (.seq
 (.reg [.p (o1 boxG r1) w4, .p (o1 mvG (ctK (.int .i64 (Int.ofNat 0)))) w6, .p (o1 mvG (ctK (.int .i64 (Int.ofNat 0)))) w7])
 (.seq
 (.reg [.p (o1 mvG r2) w13, .p (o1 nilckG r13) w14, .p (o1 load1G r14) w15, .p (o2 (binG subB) r15 (ctK (.int .i64 (Int.ofNat 1)))) w16, .p (o1 nilckG r13) w17, .p (o2 (storeG 1) r17 r16) noW])
 (.seq
 (.seq
 (.reg [.p (o1 mvG r2) w18, .p (o1 nilckG r18) w19, .p (o1 load1G r19) w20, .p (o2 (binG (cmpB .lss ltI)) r20 (ctK (.int .i64 (Int.ofNat 0)))) w21, .p (o1 mvG r21) w22, .g r22 false false none (o1 (faddrG 3) r4) w23, .g r22 false false none (o1 load1G r23) w24, .g r22 false false none (o1 lenLG r24) w25, .g r22 false false none (o2 (binG (cmpB .gtr gtI)) r25 (ctK (.int .i64 (Int.ofNat 8)))) w26, .p (o3 pickG r22 (ctK (.bool true)) r26) w27, .p (o1 mvG r27) w28, .g r28 false false none (o1 (faddrG 2) r4) w29, .g r28 false false none (o1 load1G r29) w30, .g r28 false false none (o1 lenLG r30) w31, .g r28 false false none (o2 (binG (cmpB .gtr gtI)) r31 (ctK (.int .i64 (Int.ofNat 8)))) w32, .p (o3 pickG r28 (ctK (.bool true)) r32) w33])
 (.cond r33
 (.seq
 (.reg [.p (o1 mvG (ctK (.int .i64 (Int.ofNat 0)))) w6, .p (o1 mvG (ctK (.int .i64 (Int.ofNat 20)))) w7])
 .ret)
 .skip))
 (.seq
 (.reg [.p (o1 (faddrG 0) r4) w34, .p (o1 load1G r34) w35, .p (o1 (faddrG 1) r4) w36, .p (o1 load1G r36) w37, .p (o1 (faddrG 2) r4) w38, .p (o1 load1G r38) w39, .p (buildO [(.int .i64 (Int.ofNat 0)), (.str 0 0), .snil, .snil] [(0, 1, r35), (1, 1, r37), (2, 1, r39)]) w40, .p (allocO [(.int .i64 (Int.ofNat 0)), (.str 0 0), .snil, .snil]) w8, .p (o2 (storeG 4) r8 r40) noW])
 (.seq
 (.seq
 (.reg [.p (o1 (faddrG 3) r4) w41, .p (o1 load1G r41) w42, .p (o1 lenLG r42) w43, .p (o1 mvG (ctK (.int .i64 (Int.ofNat 0)))) w44])
 (.block 0
 (.loop
 (.seq
 (.reg [.p (o2 (binG (cmpB .lss ltI)) r44 r43) w45])
 (.seq
 (.cond r45
 .skip
 (.exit 0))
 (.seq
 (.block 1
 (.seq
 (.reg [.p (o2 (iaddrG 4) r42 r44) w46, .p (o1 (loadnG 4) r46) w47, .p (allocO [(.int .i64 (Int.ofNat 0)), (.str 0 0), .snil, .snil]) w10, .p (o2 (storeG 4) r10 r47) noW])
 (.seq
 (.reg [.p (o1 mvG r0) w49, .p (o1 (loadnG 4) r10) w50, .p (o1 mvG r2) w51, .p (callO 22 [r49, r50, r51]) w52, .p (o1 mvG r52) w48, .p (o1 (extG 0) r48) w53, .p (o1 (extG 1) r48) w54, .p (o1 mvG r53) w11, .p (o1 mvG r54) w12])
 (.seq
 (.seq
 (.reg [.p (o1 mvG r12) w55, .p (o2 (eqG eqIV true) r55 (ctK (.int .i64 (Int.ofNat 0)))) w56])
 (.cond r56
 (.seq
 (.reg [.p (o1 mvG r12) w57, .p (o1 mvG (ctK (.int .i64 (Int.ofNat 0)))) w6, .p (o1 mvG r57) w7])
 .ret)
 .skip))
 (.reg [.p (o1 (faddrG 3) r8) w58, .p (o1 load1G r58) w59, .p (o1 mvG r11) w60, .p (bslO 1 1 [(.int .i64 (Int.ofNat 0))] [(0, 1, r60)]) w61, .p (o2 (appG 1) r59 r61) w62, .p (o1 (faddrG 3) r8) w63, .p (o2 (storeG 1) r63 r62) noW])))))
 (.reg [.p (o2 (binG addB) r44 (ctK (.int .i64 (Int.ofNat 1)))) w64, .p (o1 mvG r64) w44])))))))
 (.seq
 (.reg [.p (o1 mvG r0) w65, .p (o1 (loadnG 4) r8) w66, .p (callO 24 [r65, r66]) w67, .p (o1 (extG 0) r67) w68, .p (o1 (extG 1) r67) w69, .p (o1 mvG r68) w6, .p (o1 mvG r69) w7])
 .ret)))))) }
theorem kf22_ok : (compFn Try.prog Try.f22 [[0, 2, 4], [0, 8], [0, 2, 8, 42, 43, 44], [0, 2, 8, 42, 43, 44], [0, 2, 8, 42, 43, 44], [0, 2, 8, 11, 42, 43, 44]]).bind (toKFn 3) = some kf22 := by kernel_rfl
noncomputable def kf24 : KFn := { params := [w0, w1], res := [(.s r4), (.s r5)], body :=
 (.seq
 (.reg [.p (o1 boxG r1) w3, .p (o1 mvG (ctK (.int .i64 (Int.ofNat 0)))) w4, .p (o1 mvG (ctK (.int .i64 (Int.ofNat 0)))) w5])
 (.seq
 (.reg [.p (o1 (loadnG 4) r3) w9, .p (callO 38 [r9]) w10, .p (allocO [(.int .i64 (Int.ofNat 0)), (.int .i64 (Int.ofNat 0)), (.int .i64 (Int.ofNat 0)), (.str 0 0), (.str 0 0), (.str 0 0), (.str 0 0), (.str 0 0), (.str 0 0), (.str 0 0), (.str 0 0), (.str 0 0), (.int .i64 (Int.ofNat 0)), (.int .i64 (Int.ofNat 0)), (.int .i64 (Int.ofNat 0)), (.int .i64 (Int.ofNat 0)), (.int .i64 (Int.ofNat 0)), (.int .i64 (Int.ofNat 0)), (.int .i64 (Int.ofNat 0)), (.int .i64 (Int.ofNat 0))]) w6, .p (o2 (storeG 20) r6 r10) noW])
 (.seq
 (.seq
 (.drw [.p (o1 mvG r0) w12, .p (o1 nilckG r12) w13, .p (o1 (faddrG 1) r13) w14, .p (o1 load1G r14) w15, .p (o1 (loadnG 20) r6) w16, .p (o2 (lookupG (.many [.i, .i, .i, .s, .s, .s, .s, .s, .s, .s, .s, .s, .i, .i, .i, .i, .i, .i, .i, .i]) (.int .i64 (Int.ofNat 0)) true) r15 r16) w17, .p (o1 mvG r17) w11, .p (o1 (extG 0) r11) w18, .p (o1 (extG 1) r11) w19, .p (o1 mvG r18) w7, .p (o1 mvG r19) w8] [])
 (.seq
 (.drw [.p (o1 mvG r8) w20, .p (o1 mvG r20) w21, .g r21 true false none (o1 mvG r0) w22, .g r21 true false none (o1 nilckG r22) w23, .g r21 true false none (o1 (faddrG 0) r23) w24, .g r21 true false none (o1 load1G r24) w25, .g r21 true false none (o1 mvG r7) w26, .g r21 true false none (o2 (iaddrG 4) r25 r26) w27, .g r21 true false none (o1 (loadnG 4) r27) w28, .g r21 true true none (callO 38 [r28]) w29, .g r21 true false none (o1 (fldnG 12 8) r29) w30, .g r21 true false none (o1 (faddrG 12) r6) w31, .g r21 true false none (o1 (loadnG 8) r31) w32, .g r21 true false none (o2 (eqG (slowEq (.many [.i, .i, .i, .i, .i, .i, .i, .i])) false) r30 r32) w33, .p (o3 pickG r21 r33 (ctK (.bool false))) w34] [])
 (.cond r34
 (.seq
 (.reg [.p (o1 mvG r7) w35, .p (o1 mvG r35) w4, .p (o1 mvG (ctK (.int .i64 (Int.ofNat 0)))) w5])
 .ret)
 .skip)))
 (.seq
 (.seq
 (.reg [.p (o1 mvG r0) w36, .p (o1 nilckG r36) w37, .p (o1 (faddrG 0) r37) w38, .p (o1 load1G r38) w39, .p (o1 lenLG r39) w40, .p (o2 (binG (cmpB .geq geI)) r40 (ctK (.int .i64 (Int.ofNat 120)))) w41])
 (.cond r41
 (.seq
 (.reg [.p (o1 mvG (ctK (.int .i64 (Int.ofNat 0)))) w4, .p (o1 mvG (ctK (.int .i64 (Int.ofNat 20)))) w5])
 .ret)
 .skip))
 (.seq
 (.drw [.p (o1 (faddrG 2) r3) w42, .p (o1 load1G r42) w43, .m (callO 39 [r43]) w44 none, .p (o1 (faddrG 3) r3) w45, .p (o1 load1G r45) w46, .m (callO 40 [r46]) w47 (some []), .p (o1 (faddrG 2) r3) w48, .p (o2 (storeG 1) r48 r44) noW, .p (o1 (faddrG 3) r3) w49, .p (o2 (storeG 1) r49 r47) noW] [])
 (.seq
 (.drw [.p (o1 mvG r0) w50, .p (o1 nilckG r50) w51, .p (o1 (faddrG 1) r51) w52, .p (o1 load1G r52) w53, .p (o1 (loadnG 20) r6) w54, .p (o1 mvG r0) w55, .p (o1 nilckG r55) w56, .p (o1 (faddrG 0) r56) w57, .p (o1 load1G r57) w58, .p (o1 lenLG r58) w59, .p (o3 (mupdG (.many [.i, .i, .i, .s, .s, .s, .s, .s, .s, .s, .s, .s, .i, .i, .i, .i, .i, .i, .i, .i])) r53 r54 r59) noW] [])
 (.seq
 (.drw [.p (o1 mvG r0) w60, .p (o1 mvG r0) w61, .p (o1 nilckG r61) w62, .p (o1 (faddrG 0) r62) w63, .p (o1 load1G r63) w64, .p (o1 (loadnG 4) r3) w65, .p (bslO 4 1 [(.int .i64 (Int.ofNat 0)), (.str 0 0), .snil, .snil] [(0, 4, r65)]) w66, .p (o2 (appG 4) r64 r66) w67, .p (o1 nilckG r60) w68, .p (o1 (faddrG 0) r68) w69, .p (o2 (storeG 1) r69 r67) noW] [])
 (.seq
 (.reg [.p (o1 mvG r0) w70, .p (o1 nilckG r70) w71, .p (o1 (faddrG 0) r71) w72, .p (o1 load1G r72) w73, .p (o1 lenLG r73) w74, .p (o2 (binG subB) r74 (ctK (.int .i64 (Int.ofNat 1)))) w75, .p (o1 mvG r75) w4, .p (o1 mvG (ctK (.int .i64 (Int.ofNat 0)))) w5])
 .ret)))))))) }
theorem kf24_ok : (compFn Try.prog Try.f24 [[0, 3, 6], [0, 3, 6]]).bind (toKFn 2) = some kf24 := by kernel_rfl
noncomputable def kf38 : KFn := { params := [w0], res := [(.cn r2 20)], body :=
 (.seq
 (.reg [.p (o1 boxG r0) w1, .p (allocO [(.int .i64 (Int.ofNat 0)), (.int .i64 (Int.ofNat 0)), (.int .i64 (Int.ofNat 0)), (.str 0 0), (.str 0 0), (.str 0 0), (.str 0 0), (.str 0 0), (.str 0 0), (.str 0 0), (.str 0 0), (.str 0 0), (.int .i64 (Int.ofNat 0)), (.int .i64 (Int.ofNat 0)), (.int .i64 (Int.ofNat 0)), (.int .i64 (Int.ofNat 0)), (.int .i64 (Int.ofNat 0)), (.int .i64 (Int.ofNat 0)), (.int .i64 (Int.ofNat 0)), (.int .i64 (Int.ofNat 0))]) w2])
 (.seq
 (.reg [.p (o1 (faddrG 0) r1) w4, .p (o1 load1G r4) w5, .p (o1 (faddrG 2) r1) w6, .p (o1 load1G r6) w7, .p (o1 lenLG r7) w8, .p (o1 (faddrG 3) r1) w9, .p (o1 load1G r9) w10, .p (o1 lenLG r10) w11, .p (o1 (faddrG 1) r1) w12, .p (o1 load1G r12) w13, .p (buildO [(.int .i64 (Int.ofNat 0)), (.int .i64 (Int.ofNat 0)), (.int .i64 (Int.ofNat 0)), (.str 0 0), (.str 0 0), (.str 0 0), (.str 0 0), (.str 0 0), (.str 0 0), (.str 0 0), (.str 0 0), (.str 0 0), (.int .i64 (Int.ofNat 0)), (.int .i64 (Int.ofNat 0)), (.int .i64 (Int.ofNat 0)), (.int .i64 (Int.ofNat 0)), (.int .i64 (Int.ofNat 0)), (.int .i64 (Int.ofNat 0)), (.int .i64 (Int.ofNat 0)), (.int .i64 (Int.ofNat 0))] [(0, 1, r5), (1, 1, r8), (2, 1, r11), (3, 1, r13)]) w14, .p (allocO [(.int .i64 (Int.ofNat 0)), (.int .i64 (Int.ofNat 0)), (.int .i64 (Int.ofNat 0)), (.str 0 0), (.str 0 0), (.str 0 0), (.str 0 0), (.str 0 0), (.str 0 0), (.str 0 0), (.str 0 0), (.str 0 0), (.int .i64 (Int.ofNat 0)), (.int .i64 (Int.ofNat 0)), (.int .i64 (Int.ofNat 0)), (.int .i64 (Int.ofNat 0)), (.int .i64 (Int.ofNat 0)), (.int .i64 (Int.ofNat 0)), (.int .i64 (Int.ofNat 0)), (.int .i64 (Int.ofNat 0))]) w3, .p (o2 (storeG 20) r3 r14) noW])
 (.seq
 (.drw [.p (o1 (faddrG 4) r3) w15, .p (cutAO 8 1 r15 none none none) w16, .p (o1 (faddrG 2) r1) w17, .p (o1 load1G r17) w18, .p (o2 (copyG 1) r16 r18) w19] [])
 (.seq
 (.drw [.p (o1 (faddrG 12) r3) w20, .p (cutAO 8 1 r20 none none none) w21, .p (o1 (faddrG 3) r1) w22, .p (o1 load1G r22) w23, .p (o2 (copyG 1) r21 r23) w24] [])
 (.seq
 (.reg [.p (o1 (loadnG 20) r3) w25, .p (o2 (storeG 20) r2 r25) noW])
 .ret))))) }
theorem kf38_ok : (compFn Try.prog Try.f38 []).bind (toKFn 1) = some kf38 := by kernel_rfl
noncomputable def kf39 : KFn := { params := [w0], res := [(.s r2)], body :=
 (.seq
 (.reg [.p (o1 mvG (ctK .snil)) w2])
 (.seq
 (.seq
 (.reg [.p (o1 mvG r0) w3, .p (o2 (eqG (slowEq (.one .l)) false) r3 (ctK .snil)) w4])
 (.cond r4
 (.seq
 (.reg [.p (o1 mvG (ctK .snil)) w2])
 .ret)
 .skip))
 (.seq
 (.reg [.p (bslO 1 0 [] []) w5, .p (o1 mvG r0) w6, .p (o2 (appG 1) r5 r6) w7, .p (o1 mvG r7) w2])
 .ret))) }
theorem kf39_ok : (compFn Try.prog Try.f39 [[0]]).bind (toKFn 1) = some kf39 := by kernel_rfl
noncomputable def kf40 : KFn := { params := [w0], res := [(.s r2)], body :=
 (.seq
 (.reg [.p (o1 mvG (ctK .snil)) w2])
 (.seq
 (.seq
 (.reg [.p (o1 mvG r0) w3, .p (o2 (eqG (slowEq (.one .l)) false) r3 (ctK .snil)) w4])
 (.cond r4
 (.seq
 (.reg [.p (o1 mvG (ctK .snil)) w2])
 .ret)
 .skip))
 (.seq
 (.reg [.p (bslO 1 0 [] []) w5, .p (o1 mvG r0) w6, .p (o2 (appG 1) r5 r6) w7, .p (o1 mvG r7) w2])
 .ret))) }
theorem kf40_ok : (compFn Try.prog Try.f40 [[0]]).bind (toKFn 1) = some kf40 := by kernel_rfl
noncomputable def kf15 : KFn := { params := [w0], res := [(.s r2)], body :=
 (.seq
 (.reg [.p (o1 mvG (ctK (.int .i64 (Int.ofNat 0)))) w2])
 (.seq
 (.reg [.p (o1 mvG r0) w3, .p (o1 nilckG r3) w4, .p (o1 (faddrG 3) r4) w5, .p (o1 load1G r5) w6, .p (o1 mvG r6) w2])
 .ret)) }
theorem kf15_ok : (compFn Try.prog Try.f15 []).bind (toKFn 1) = some kf15 := by kernel_rfl
noncomputable def kf14 : KFn := { params := [w0, w1, w2], res := [(.s r6), (.s r7)], body :=
 (.seq
 (.reg [.p (o1 mvG (ctK (.bool false))) w6, .p (o1 mvG (ctK (.int .i64 (Int.ofNat 0)))) w7])
 (.seq
 (.seq
 (.reg [.p (o1 mvG r1) w10, .p (o2 (binG (cmpB .lss ltI)) r10 (ctK (.int .i64 (Int.ofNat 0)))) w11, .p (o1 mvG r11) w12, .g r12 false false none (o1 mvG r1) w13, .g r12 false false none (o1 mvG r0) w14, .g r12 false false none (callO 16 [r14]) w15, .g r12 false false none (o2 (binG (cmpB .geq geI)) r13 r15) w16, .p (o3 pickG r12 (ctK (.bool true)) r16) w17, .p (o1 mvG r17) w18, .g r18 false false none (o1 mvG r2) w19, .g r18 false false none (o2 (binG (cmpB .lss ltI)) r19 (ctK (.int .i64 (Int.ofNat 0)))) w20, .p (o3 pickG r18 (ctK (.bool true)) r20) w21, .p (o1 mvG r21) w22, .g r22 false false none (o1 mvG r2) w23, .g r22 false false none (o1 mvG r0) w24, .g r22 false false none (callO 16 [r24]) w25, .g r22 false false none (o2 (binG (cmpB .geq geI)) r23 r25) w26, .p (o3 pickG r22 (ctK (.bool true)) r26) w27])
 (.cond r27
 (.seq
 (.reg [.p (o1 mvG (ctK (.bool false))) w6, .p (o1 mvG (ctK (.int .i64 (Int.ofNat 0)))) w7])
 .ret)
 .skip))
 (.seq
 (.reg [.p (o1 mvG r0) w28, .p mkmapO w29, .p (buildO [.pnil, .mnil] [(0, 1, r28), (1, 1, r29)]) w30, .p (o1 boxG r30) w31, .p (o1 mvG r31) w8])
 (.seq
 (.reg [.p (o1 mvG r8) w32, .p (o1 mvG r1) w33, .p (o1 mvG r2) w34, .p (callO 23 [r32, r33, r34]) w35, .p (o1 mvG r35) w9])
 (.seq
 (.reg [.p (o1 mvG r9) w36, .p (o1 mvG r8) w37, .p (o1 nilckG r37) w38, .p (o1 (faddrG 1) r38) w39, .p (o1 load1G r39) w40, .p (o1 lenMG r40) w41, .p (o1 mvG r36) w6, .p (o1 mvG r41) w7])
 .ret))))) }
theorem kf14_ok : (compFn Try.prog Try.f14 [[0, 1, 2]]).bind (toKFn 3) = some kf14 := by kernel_rfl
noncomputable def kf16 : KFn := { params := [w0], res := [(.s r2)], body :=
 (.seq
 (.reg [.p (o1 mvG (ctK (.int .i64 (Int.ofNat 0)))) w2])
 (.seq
 (.reg [.p (o1 mvG r0) w3, .p (o1 nilckG r3) w4, .p (o1 (faddrG 0) r4) w5, .p (o1 load1G r5) w6, .p (o1 lenLG r6) w7, .p (o1 mvG r7) w2])
 .ret)) }
theorem kf16_ok : (compFn Try.prog Try.f16 []).bind (toKFn 1) = some kf16 := by kernel_rfl
noncomputable def kf23 : KFn := { params := [w0, w1, w2], res := [(.s r6)], body :=
 (.seq
 (.reg [.p (o1 mvG (ctK (.bool false))) w6])
 (.seq
 (.reg [.p (o1 mvG r1) w8, .p (o1 mvG r2) w9, .p (buildO [(.int .i64 (Int.ofNat 0)), (.int .i64 (Int.ofNat 0))] [(0, 1, r8), (1, 1, r9)]) w10, .p (allocO [(.int .i64 (Int.ofNat 0)), (.int .i64 (Int.ofNat 0))]) w7, .p (o2 (storeG 2) r7 r10) noW])
 (.seq
 (.seq
 (.drw [.p (o1 mvG r1) w11, .p (o1 mvG r2) w12, .p (o2 (eqG eqIV false) r11 r12) w13, .p (o1 mvG r13) w14, .g r14 false false none (o1 mvG r0) w15, .g r14 false false none (o1 nilckG r15) w16, .g r14 false false none (o1 (faddrG 1) r16) w17, .g r14 false false none (o1 load1G r17) w18, .g r14 false false none (o1 (loadnG 2) r7) w19, .g r14 false false none (o2 (lookupG (.many [.i, .i]) (.int .i64 (Int.ofNat 0)) false) r18 r19) w20, .g r14 false false none (o2 (binG (cmpB .gtr gtI)) r20 (ctK (.int .i64 (Int.ofNat 0)))) w21, .p (o3 pickG r14 (ctK (.bool true)) r21) w22] [])
 (.cond r22
 (.seq
 (.reg [.p (o1 mvG (ctK (.bool true))) w6])
 .ret)
 .skip))
 (.seq
 (.drw [.p (o1 mvG r0) w23, .p (o1 nilckG r23) w24, .p (o1 (faddrG 1) r24) w25, .p (o1 load1G r25) w26, .p (o1 (loadnG 2) r7) w27, .p (o2 (lookupG (.many [.i, .i]) (.int .i64 (Int.ofNat 0)) false) r26 r27) w28, .p (o2 (binG addB) r28 (ctK (.int .i64 (Int.ofNat 1)))) w29, .p (o2 (mentG (.many [.i, .i]) (.int .i64 (Int.ofNat 0))) r26 r27) w30, .p (o1 (extG 1) r30) w31, .p (o3 estsG r26 r31 r29) noW] [])
 (.seq
 (.reg [.p (o1 mvG r0) w32, .p (o1 mvG r1) w33, .p (o1 mvG r2) w34, .p (callO 37 [r32, r33, r34]) w35, .p (o1 mvG r35) w6])
 .ret))))) }
theorem kf23_ok : (compFn Try.prog Try.f23 [[0, 1, 2, 7]]).bind (toKFn 3) = some kf23 := by kernel_rfl
noncomputable def kf37 : KFn := { params := [w0, w1, w2], res := [(.s r6)], body :=
 (.seq
 (.reg [.p (o1 mvG (ctK (.bool false))) w6])
 (.seq
 (.reg [.p (o1 mvG r0) w14, .p (o1 nilckG r14) w15, .p (o1 (faddrG 0) r15) w16, .p (o1 load1G r16) w17, .p (o1 mvG r1) w18, .p (callO 49 [r17, r18]) w19, .p (o1 mvG r19) w13, .p (o1 (extG 0) r13) w20, .p (o1 (extG 1) r13) w21, .p (o1 mvG r20) w1, .p (o1 mvG r21) w7])
 (.seq
 (.reg [.p (o1 mvG r0) w23, .p (o1 nilckG r23) w24, .p (o1 (faddrG 0) r24) w25, .p (o1 load1G r25) w26, .p (o1 mvG r2) w27, .p (callO 49 [r26, r27]) w28, .p (o1 mvG r28) w22, .p (o1 (extG 0) r22) w29, .p (o1 (extG 1) r22) w30, .p (o1 mvG r29) w2, .p (o1 mvG r30) w8])
 (.seq
 (.seq
 (.reg [.p (o1 mvG r7) w31, .p (o1 notG r31) w32, .p (o1 mvG r32) w33, .g r33 false false none (o1 mvG r8) w34, .g r33 false false none (o1 notG r34) w35, .p (o3 pickG r33 (ctK (.bool true)) r35) w36])
 (.cond r36
 (.seq
 (.reg [.p (o1 mvG (ctK (.bool false))) w6])
 .ret)
 .skip))
 (.seq
 (.reg [.p (o1 mvG r0) w38, .p (o1 nilckG r38) w39, .p (o1 (faddrG 0) r39) w40, .p (o1 load1G r40) w41, .p (o1 mvG r1) w42, .p (callO 50 [r41, r42]) w43, .p (o1 mvG r43) w37, .p (o1 (extG 0) r37) w44, .p (o1 (extG 1) r37) w45, .p (allocO [(.int .i64 (Int.ofNat 0)), (.str 0 0), .snil, .snil]) w9, .p (o2 (storeG 4) r9 r44) noW, .p (o1 mvG r45) w10])
 (.seq
 (.reg [.p (o1 mvG r0) w47, .p (o1 nilckG r47) w48, .p (o1 (faddrG 0) r48) w49, .p (o1 load1G r49) w50, .p (o1 mvG r2) w51, .p (callO 50 [r50, r51]) w52, .p (o1 mvG r52) w46, .p (o1 (extG 0) r46) w53, .p (o1 (extG 1) r46) w54, .p (allocO [(.int .i64 (Int.ofNat 0)), (.str 0 0), .snil, .snil]) w11, .p (o2 (storeG 4) r11 r53) noW, .p (o1 mvG r54) w12])
 (.seq
 (.block 0
 (.seq
 (.reg [.p (o1 (faddrG 0) r11) w56, .p (o1 load1G r56) w57, .p (o2 (eqG eqIV false) r57 (ctK (.int .i64 (Int.ofNat 6)))) w58, .p (o1 mvG r58) w59, .g r59 true false none (o1 (faddrG 0) r9) w60, .g r59 true false none (o1 load1G r60) w61, .g r59 true false none (o2 (eqG eqIV true) r61 (ctK (.int .i64 (Int.ofNat 6)))) w62, .p (o3 pickG r59 r62 (ctK (.bool false))) w63, .p (o1 mvG r63) w64, .g r64 true false none (o1 (faddrG 3) r11) w65, .g r64 true false none (o1 load1G r65) w66, .g r64 true false none (o1 lenLG r66) w67, .g r64 true false none (o2 (eqG eqIV false) r67 (ctK (.int .i64 (Int.ofNat 1)))) w68, .p (o3 pickG r64 r68 (ctK (.bool false))) w69, .p (o1 mvG r69) w55])
 (.cond r55
 (.seq
 (.reg [.p (o1 mvG r0) w70, .p (o1 mvG r1) w71, .p (o1 (faddrG 3) r11) w72, .p (o1 load1G r72) w73, .p (o2 (iaddrG 1) r73 (ctK (.int .i64 (Int.ofNat 0)))) w74, .p (o1 load1G r74) w75, .p (callO 23 [r70, r71, r75]) w76, .p (o1 mvG r76) w6])
 .ret)
 (.seq
 (.reg [.p (o1 (faddrG 0) r9) w78, .p (o1 load1G r78) w79, .p (o1 (faddrG 0) r11) w80, .p (o1 load1G r80) w81, .p (o2 (eqG eqIV true) r79 r81) w82, .p (o1 mvG r82) w77])
 (.cond r77
 (.seq
 (.reg [.p (o1 mvG (ctK (.bool false))) w6])
 .ret)
 (.seq
 (.reg [.p (o1 (faddrG 0) r11) w84, .p (o1 load1G r84) w85, .p (o2 (eqG eqIV false) r85 (ctK (.int .i64 (Int.ofNat 7)))) w86, .p (o1 mvG r86) w83])
 (.cond r83
 (.seq
 (.reg [.p (o1 mvG r0) w87, .p (o1 (loadnG 4) r9) w88, .p (o1 (loadnG 4) r11) w89, .p (callO 51 [r87, r88, r89, (ctK (.bool true))]) w90, .p (o1 mvG r90) w6])
 .ret)
 (.seq
 (.reg [.p (o1 (faddrG 0) r11) w92, .p (o1 load1G r92) w93, .p (o2 (eqG eqIV false) r93 (ctK (.int .i64 (Int.ofNat 8)))) w94, .p (o1 mvG r94) w91])
 (.cond r91
 (.seq
 (.reg [.p (o1 mvG r0) w95, .p (o1 (loadnG 4) r11) w96, .p (o1 (loadnG 4) r9) w97, .p (callO 51 [r95, r96, r97, (ctK (.bool false))]) w98, .p (o1 mvG r98) w6])
 .ret)
 .skip)))))))))
 (.seq
 (.reg [.p (o1 mvG r0) w99, .p (o1 (loadnG 4) r9) w100, .p (o1 (loadnG 4) r11) w101, .p (callO 52 [r99, r100, r101]) w102, .p (o1 mvG r102) w6])
 .ret)))))))) }
theorem kf37_ok : (compFn Try.prog Try.f37 [[0, 1, 2], [0, 9, 11]]).bind (toKFn 3) = some kf37 := by kernel_rfl
noncomputable def kf49 : KFn := { params := [w0, w1], res := [(.s r4), (.s r5)], body :=
 (.seq
 (.reg [.p (o1 mvG (ctK (.int .i64 (Int.ofNat 0)))) w4, .p (o1 mvG (ctK (.bool false))) w5])
 (.seq
 (.seq
 (.reg [.p (o1 mvG r0) w8, .p (o1 nilckG r8) w9, .p (o1 (faddrG 0) r9) w10, .p (o1 load1G r10) w11, .p (o1 lenLG r11) w12, .p (o2 (binG addB) r12 (ctK (.int .i64 (Int.ofNat 1)))) w13, .p (o1 mvG (ctK (.int .i64 (Int.ofNat 0)))) w14])
 (.block 0
 (.loop
 (.seq
 (.reg [.p (o2 (binG (cmpB .lss ltI)) r14 r13) w15])
 (.seq
 (.cond r15
 .skip
 (.exit 0))
 (.seq
 (.block 1
 (.seq
 (.seq
 (.reg [.p (o1 mvG r1) w16, .p (o2 (binG (cmpB .lss ltI)) r16 (ctK (.int .i64 (Int.ofNat 0)))) w17, .p (o1 mvG r17) w18, .g r18 false false none (o1 mvG r1) w19, .g r18 false false none (o1 mvG r0) w20, .g r18 false false none (o1 nilckG r20) w21, .g r18 false false none (o1 (faddrG 0) r21) w22, .g r18 false false none (o1 load1G r22) w23, .g r18 false false none (o1 lenLG r23) w24, .g r18 false false none (o2 (binG (cmpB .geq geI)) r19 r24) w25, .p (o3 pickG r18 (ctK (.bool true)) r25) w26])
 (.cond r26
 (.seq
 (.reg [.p (o1 mvG (ctK (.int .i64 (Int.ofNat 0)))) w4, .p (o1 mvG (ctK (.bool false))) w5])
 .ret)
 .skip))
 (.seq
 (.seq
 (.reg [.p (o1 mvG r0) w27, .p (o1 nilckG r27) w28, .p (o1 (faddrG 0) r28) w29, .p (o1 load1G r29) w30, .p (o1 mvG r1) w31, .p (o2 (iaddrG 4) r30 r31) w32, .p (o1 (faddrG 0) r32) w33, .p (o1 load1G r33) w34, .p (o2 (eqG eqIV true) r34 (ctK (.int .i64 (Int.ofNat 9)))) w35])
 (.cond r35
 (.seq
 (.reg [.p (o1 mvG r1) w36, .p (o1 mvG r36) w4, .p (o1 mvG (ctK (.bool true))) w5])
 .ret)
 .skip))
 (.seq
 (.drw [.p (o1 mvG r0) w38, .p (o1 nilckG r38) w39, .p (o1 (faddrG 2) r39) w40, .p (o1 load1G r40) w41, .p (o1 mvG r0) w42, .p (o1 nilckG r42) w43, .p (o1 (faddrG 0) r43) w44, .p (o1 load1G r44) w45, .p (o1 mvG r1) w46, .p (o2 (iaddrG 4) r45 r46) w47, .p (o1 (faddrG 1) r47) w48, .p (o1 load1G r48) w49, .p (o2 (lookupG (.one .s) (.int .i64 (Int.ofNat 0)) true) r41 r49) w50, .p (o1 mvG r50) w37, .p (o1 (extG 0) r37) w51, .p (o1 (extG 1) r37) w52, .p (o1 mvG r51) w6, .p (o1 mvG r52) w7] [])
 (.seq
 (.seq
 (.reg [.p (o1 mvG r7) w53, .p (o1 notG r53) w54])
 (.cond r54
 (.reg [.p (o1 mvG (ctK (.int .i64 (Int.negSucc 0)))) w6])
 .skip))
 (.reg [.p (o1 mvG r6) w55, .p (o1 mvG r55) w1]))))))
 (.reg [.p (o2 (binG addB) r14 (ctK (.int .i64 (Int.ofNat 1)))) w56, .p (o1 mvG r56) w14])))))))
 (.seq
 (.reg [.p (o1 mvG (ctK (.int .i64 (Int.ofNat 0)))) w4, .p (o1 mvG (ctK (.bool false))) w5])
 .ret))) }
theorem kf49_ok : (compFn Try.prog Try.f49 [[], [0, 1, 13, 14], [0, 1, 13, 14], [0, 1, 13, 14], [0, 1, 13, 14], [0, 1, 13, 14], [0, 6, 13, 14]]).bind (toKFn 2) = some kf49 := by kernel_rfl
noncomputable def kf50 : KFn := { params := [w0, w1], res := [(.cn r4 4), (.s r5)], body :=
 (.seq
 (.reg [.p (allocO [(.int .i64 (Int.ofNat 0)), (.str 0 0), .snil, .snil]) w4, .p (o1 mvG (ctK (.bool false))) w5])
 (.seq
 (.seq
 (.reg [.p (o1 mvG r1) w7, .p (o2 (binG (cmpB .lss ltI)) r7 (ctK (.int .i64 (Int.ofNat 0)))) w8, .p (o1 mvG r8) w9, .g r9 false false none (o1 mvG r1) w10, .g r9 false false none (o1 mvG r0) w11, .g r9 false false none (o1 nilckG r11) w12, .g r9 false false none (o1 (faddrG 0) r12) w13, .g r9 false false none (o1 load1G r13) w14, .g r9 false false none (o1 lenLG r14) w15, .g r9 false false none (o2 (binG (cmpB .geq geI)) r10 r15) w16, .p (o3 pickG r9 (ctK (.bool true)) r16) w17])
 (.cond r17
 (.seq
 (.reg [.p (buildO [(.int .i64 (Int.ofNat 0)), (.str 0 0), .snil, .snil] []) w18, .p (o2 (storeG 4) r4 r18) noW, .p (o1 mvG (ctK (.bool false))) w5])
 .ret)
 .skip))
 (.seq
 (.reg [.p (o1 mvG r0) w19, .p (o1 nilckG r19) w20, .p (o1 (faddrG 0) r20) w21, .p (o1 load1G r21) w22, .p (o1 mvG r1) w23, .p (o2 (iaddrG 4) r22 r23) w24, .p (o1 (loadnG 4) r24) w25, .p (allocO [(.int .i64 (Int.ofNat 0)), (.str 0 0), .snil, .snil]) w6, .p (o2 (storeG 4) r6 r25) noW])
 (.seq
 (.drw [.p (o1 (faddrG 2) r6) w26, .p (o1 load1G r26) w27, .m (callO 39 [r27]) w28 none, .p (o1 (faddrG 3) r6) w29, .p (o1 load1G r29) w30, .m (callO 40 [r30]) w31 (some []), .p (o1 (faddrG 2) r6) w32, .p (o2 (storeG 1) r32 r28) noW, .p (o1 (faddrG 3) r6) w33, .p (o2 (storeG 1) r33 r31) noW] [])
 (.seq
 (.reg [.p (o1 (loadnG 4) r6) w34, .p (o2 (storeG 4) r4 r34) noW, .p (o1 mvG (ctK (.bool true))) w5])
 .ret))))) }
theorem kf50_ok : (compFn Try.prog Try.f50 [[0, 1, 4]]).bind (toKFn 2) = some kf50 := by kernel_rfl
noncomputable def kf51 : KFn := { params := [w0, w1, w2, w3], res := [(.s r8)], body :=
 (.seq
 (.reg [.p (o1 boxG r1) w5, .p (o1 boxG r2) w6, .p (o1 mvG (ctK (.bool false))) w8])
 (.seq
 (.seq
 (.reg [.p (o1 (faddrG 2) r6) w14, .p (o1 load1G r14) w15, .p (o1 lenLG r15) w16, .p (o1 mvG (ctK (.int .i64 (Int.ofNat 0)))) w17])
 (.block 0
 (.loop
 (.seq
 (.reg [.p (o2 (binG (cmpB .lss ltI)) r17 r16) w18])
 (.seq
 (.cond r18
 .skip
 (.exit 0))
 (.seq
 (.block 1
 (.seq
 (.reg [.p (o1 mvG r17) w19, .p (o2 (iaddrG 1) r15 r17) w20, .p (o1 load1G r20) w21, .p (o1 mvG r19) w9, .p (o1 mvG r21) w10])
 (.seq
 (.reg [.p (o1 (faddrG 2) r5) w22, .p (o1 load1G r22) w23, .p (o1 mvG r10) w24, .p (callO 58 [r23, r24]) w25, .p (o1 mvG r25) w11])
 (.seq
 (.seq
 (.reg [.p (o1 mvG r11) w26, .p (o2 (binG (cmpB .lss ltI)) r26 (ctK (.int .i64 (Int.ofNat 0)))) w27, .p (o1 mvG r27) w28, .g r28 false false none (o1 mvG r11) w29, .g r28 false false none (o1 (faddrG 3) r5) w30, .g r28 false false none (o1 load1G r30) w31, .g r28 false false none (o1 lenLG r31) w32, .g r28 false false none (o2 (binG (cmpB .geq geI)) r29 r32) w33, .p (o3 pickG r28 (ctK (.bool true)) r33) w34, .p (o1 mvG r34) w35, .g r35 false false none (o1 mvG r9) w36, .g r35 false false none (o1 (faddrG 3) r6) w37, .g r35 false false none (o1 load1G r37) w38, .g r35 false false none (o1 lenLG r38) w39, .g r35 false false none (o2 (binG (cmpB .geq geI)) r36 r39) w40, .p (o3 pickG r35 (ctK (.bool true)) r40) w41])
 (.cond r41
 (.seq
 (.reg [.p (o1 mvG (ctK (.bool false))) w8])
 .ret)
 .skip))
 (.seq
 (.drw [.p (o1 (faddrG 3) r5) w42, .p (o1 load1G r42) w43, .p (o1 mvG r11) w44, .p (o2 (iaddrG 1) r43 r44) w45, .p (o1 load1G r45) w46, .p (o1 (faddrG 3) r6) w47, .p (o1 load1G r47) w48, .p (o1 mvG r9) w49, .p (o2 (iaddrG 1) r48 r49) w50, .p (o1 load1G r50) w51, .p (o1 mvG r46) w12, .p (o1 mvG r51) w13] [])
 (.seq
 (.seq
 (.reg [.p (o1 mvG r3) w52, .p (o1 notG r52) w53])
 (.cond r53
 (.reg [.p (o1 mvG r13) w54, .p (o1 mvG r12) w55, .p (o1 mvG r54) w12, .p (o1 mvG r55) w13])
 .skip))
 (.seq
 (.reg [.p (o1 mvG r0) w56, .p (o1 mvG r12) w57, .p (o1 mvG r13) w58, .p (callO 23 [r56, r57, r58]) w59, .p (o1 notG r59) w60])
 (.cond r60
 (.seq
 (.reg [.p (o1 mvG (ctK (.bool false))) w8])
 .ret)
 .skip))))))))
 (.reg [.p (o2 (binG addB) r17 (ctK (.int .i64 (Int.ofNat 1)))) w61, .p (o1 mvG r61) w17])))))))
 (.seq
 (.reg [.p (o1 mvG (ctK (.bool true))) w8])
 .ret))) }
theorem kf51_ok : (compFn Try.prog Try.f51 [[], [0, 3, 5, 6, 15, 16, 17], [0, 3, 5, 6, 15, 16, 17], [0, 3, 5, 6, 15, 16, 17], [0, 3, 5, 6, 9, 11, 15, 16, 17], [0, 3, 5, 6, 12, 13, 15, 16, 17]]).bind (toKFn 4) = some kf51 := by kernel_rfl
noncomputable def kf58 : KFn := { params := [w0, w1], res := [(.s r4)], body :=
 (.seq
 (.reg [.p (o1 mvG (ctK (.int .i64 (Int.ofNat 0)))) w4])
 (.seq
 (.seq
 (.reg [.p (o1 mvG r0) w6, .p (o1 lenLG r6) w7, .p (o1 mvG (ctK (.int .i64 (Int.ofNat 0)))) w8])
 (.block 0
 (.loop
 (.seq
 (.reg [.p (o2 (binG (cmpB .lss ltI)) r8 r7) w9])
 (.seq
 (.cond r9
 .skip
 (.exit 0))
 (.seq
 (.block 1
 (.seq
 (.reg [.p (o1 mvG r8) w10, .p (o1 mvG r10) w5])
 (.seq
 (.reg [.p (o1 mvG r1) w11, .p (o1 mvG r0) w12, .p (o1 mvG r5) w13, .p (o2 (iaddrG 1) r12 r13) w14, .p (o1 load1G r14) w15, .p (o2 (eqG eqSV false) r11 r15) w16])
 (.cond r16
 (.seq
 (.reg [.p (o1 mvG r5) w17, .p (o1 mvG r17) w4])
 .ret)
 .skip))))
 (.reg [.p (o2 (binG addB) r8 (ctK (.int .i64 (Int.ofNat 1)))) w18, .p (o1 mvG r18) w8])))))))
 (.seq
 (.reg [.p (o1 mvG (ctK (.int .i64 (Int.negSucc 0)))) w4])
 .ret))) }
theorem kf58_ok : (compFn Try.prog Try.f58 [[], [0, 1, 7, 8], [0, 1, 7, 8], [0, 1, 7, 8]]).bind (toKFn 2) = some kf58 := by kernel_rfl
noncomputable def kf52 : KFn := { params := [w0, w1, w2], res := [(.s r6)], body :=
 (.seq
 (.reg [.p (o1 boxG r1) w4, .p (o1 boxG r2) w5, .p (o1 mvG (ctK (.bool false))) w6])
 (.seq
 (.seq
 (.reg [.p (o1 (faddrG 3) r4) w8, .p (o1 load1G r8) w9, .p (o1 lenLG r9) w10, .p (o1 mvG (ctK (.int .i64 (Int.ofNat 0)))) w11])
 (.block 0
 (.loop
 (.seq
 (.reg [.p (o2 (binG (cmpB .lss ltI)) r11 r10) w12])
 (.seq
 (.cond r12
 .skip
 (.exit 0))
 (.seq
 (.block 1
 (.seq
 (.reg [.p (o1 mvG r11) w13, .p (o1 mvG r13) w7])
 (.seq
 (.drw [.p (o1 mvG r7) w14, .p (o1 (faddrG 3) r5) w15, .p (o1 load1G r15) w16, .p (o1 lenLG r16) w17, .p (o2 (binG (cmpB .geq geI)) r14 r17) w18, .p (o1 mvG r18) w19, .g r19 false false none (o1 mvG r0) w20, .g r19 false false none (o1 (faddrG 3) r4) w21, .g r19 false false none (o1 load1G r21) w22, .g r19 false false none (o1 mvG r7) w23, .g r19 false false none (o2 (iaddrG 1) r22 r23) w24, .g r19 false false none (o1 load1G r24) w25, .g r19 false false none (o1 (faddrG 3) r5) w26, .g r19 false false none (o1 load1G r26) w27, .g r19 false false none (o1 mvG r7) w28, .g r19 false false none (o2 (iaddrG 1) r27 r28) w29, .g r19 false false none (o1 load1G r29) w30, .g r19 false true (some []) (callO 23 [r20, r25, r30]) w31, .g r19 false false none (o1 notG r31) w32, .p (o3 pickG r19 (ctK (.bool true)) r32) w33] [])
 (.cond r33
 (.seq
 (.reg [.p (o1 mvG (ctK (.bool false))) w6])
 .ret)
 .skip))))
 (.reg [.p (o2 (binG addB) r11 (ctK (.int .i64 (Int.ofNat 1)))) w34, .p (o1 mvG r34) w11])))))))
 (.seq
 (.reg [.p (o1 mvG (ctK (.bool true))) w6])
 .ret))) }
theorem kf52_ok : (compFn Try.prog Try.f52 [[], [0, 4, 5, 10, 11], [0, 4, 5, 10, 11], [0, 4, 5, 10, 11]]).bind (toKFn 3) = some kf52 := by kernel_rfl

theorem within11_calls (a n : Int) (w : World) (h0 : 0 < n) (h1 : n < 1000000) : Calls Try.prog 11 #[.int .i64 a, .int .i64 n] w fun e w' => e = .returned (.int .i64 (a % n)) ∧ Below w.heap.size w w' := by
  have hn : ¬n = 0 := by omega
  go_enter Try.func11, Try.ntmps11
  go_wp2
  all_goals go_ret
  all_goals refine ⟨?_, Below.refl _ _⟩
  all_goals have hb1 := Int.emod_nonneg a hn
  all_goals have hb2 := Int.emod_lt_of_pos a h0
  all_goals have hw : wrap64 (a % n) = a % n := by unfold wrap64; omega
  all_goals rename_i hc
  all_goals rcases tmod_cases a h0 with ⟨h3, h4⟩ | ⟨h3, h4⟩
  · exact absurd hc (by omega)
  · show Ending.returned (.int .i64 (wrap64 (a.tmod n + n))) = _
    rw [h4, hw]
  · show Ending.returned (.int .i64 (a.tmod n)) = _
    rw [h4]
  · exact absurd hc (by omega)
theorem mixed : Try.prog.follows .mixedOrders = true := by kernel_rfl
noncomputable def tabA : BT :=
  (.node 38 (.node 23 (.node 15 (.node 12 (.node 10 (.leaf 10 (compE 100000 Try.prog Try.f10 [[3, 4]] kf10))
  (.leaf 12 (compE 100000 Try.prog Try.f12 [[1], [1, 5], [1, 5, 30, 31, 32], [1, 5, 30, 31, 32], [1, 5, 30, 31, 32], [1, 5, 7, 8, 30, 31, 32], [1, 5, 10], [5], [5, 69, 70, 71], [5, 69, 70, 71], [5, 69, 70, 71], [5, 13, 14, 69, 70, 71], [5, 13, 14, 69, 70, 71, 86, 87, 88], [5, 13, 14, 69, 70, 71, 86, 87, 88], [5, 13, 14, 69, 70, 71, 86, 87, 88], [5, 13, 14, 17, 69, 70, 71, 86, 87, 88]] kf12)))
  (.node 13 (.leaf 13 (compE 100000 Try.prog Try.f13 [] kf13))
  (.node 14 (.leaf 14 (compE 100000 Try.prog Try.f14 [[0, 1, 2]] kf14))
  (.leaf 15 (compE 100000 Try.prog Try.f15 [] kf15)))))
  (.node 20 (.node 16 (.leaf 16 (compE 100000 Try.prog Try.f16 [] kf16))
  (.leaf 20 (compE 100000 Try.prog Try.f20 [[1], [1], [1, 4], [1, 4, 33, 34, 35], [1, 4, 33, 34, 35], [1, 4, 33, 34, 35], [1, 4], [1, 4], [1, 4], [1, 4, 62, 63, 64], [1, 4, 62, 63, 64], [1, 4, 62, 63, 64], []] kf20)))
  (.node 21 (.leaf 21 (compE 100000 Try.prog Try.f21 [[0]] kf21))
  (.node 22 (.leaf 22 (compE 100000 Try.prog Try.f22 [[0, 2, 4], [0, 8], [0, 2, 8, 42, 43, 44], [0, 2, 8, 42, 43, 44], [0, 2, 8, 42, 43, 44], [0, 2, 8, 11, 42, 43, 44]] kf22))
  (.leaf 23 (compE 100000 Try.prog Try.f23 [[0, 1, 2, 7]] kf23))))))
  (.node 32 (.node 29 (.node 24 (.leaf 24 (compE 100000 Try.prog Try.f24 [[0, 3, 6], [0, 3, 6]] kf24))
  (.leaf 29 (compE 100000 Try.prog Try.f29 [[], [0, 5, 6, 7], [0, 5, 6, 7], [0, 5, 6, 7]] kf29)))
  (.node 30 (.leaf 30 (compE 100000 Try.prog Try.f30 [[3], [3, 8, 9, 10], [3, 8, 9, 10], [3, 8, 9, 10]] kf30))
  (.node 31 (.leaf 31 (compE 100000 Try.prog Try.f31 [[0, 2, 4], [0, 2, 4], [], [0, 2, 98, 99, 100], [0, 2, 98, 99, 100], [0, 2, 98, 99, 100]] kf31))
  (.leaf 32 (compE 100000 Try.prog Try.f32 [[], [0, 1, 8, 9, 10], [0, 1, 8, 9, 10], [0, 1, 8, 9, 10], [0, 1, 6, 8, 9, 10]] kf32)))))
  (.node 35 (.node 33 (.leaf 33 (compE 100000 Try.prog Try.f33 [[2, 3, 5], [2, 3, 5, 16, 17, 18], [2, 3, 5, 16, 17, 18], [2, 3, 5, 16, 17, 18], [2, 3], [3, 8], [2, 3, 8, 38, 39], [2, 3, 8, 38, 39], [2, 3, 8, 38, 39], [2, 3, 8, 38, 39, 42, 43, 44], [2, 3, 8, 38, 39, 42, 43, 44], [2, 3, 8, 38, 39, 42, 43, 44]] kf33))
  (.node 34 (.leaf 34 (compE 100000 Try.prog Try.f34 [] kf34))
  (.leaf 35 (compE 100000 Try.prog Try.f35 [[1, 3], [1, 3, 9, 10, 11], [1, 3, 9, 10, 11], [1, 3, 9, 10, 11], [3], [3, 27, 28, 29], [3, 27, 28, 29], [3, 27, 28, 29]] kf35))))
  (.node 36 (.leaf 36 (compE 100000 Try.prog Try.f36 [[0, 3], [0, 3, 5], [0, 3, 5, 23], [0, 3, 5, 23]] kf36))
  (.node 37 (.leaf 37 (compE 100000 Try.prog Try.f37 [[0, 1, 2], [0, 9, 11]] kf37))
  (.leaf 38 (compE 100000 Try.prog Try.f38 [] kf38)))))))
  (.node 49 (.node 43 (.node 40 (.node 39 (.leaf 39 (compE 100000 Try.prog Try.f39 [[0]] kf39))
  (.leaf 40 (compE 100000 Try.prog Try.f40 [[0]] kf40)))
  (.node 41 (.leaf 41 (compE 100000 Try.prog Try.f41 [] kf41))
  (.node 42 (.leaf 42 containsE)
  (.leaf 43 (compE 100000 Try.prog Try.f43 [[], [1, 4, 5], [1, 9]] kf43)))))
  (.node 46 (.node 44 (.leaf 44 (compE 100000 Try.prog Try.f44 [[1], [1], [1, 10, 11, 12], [1, 10, 11, 12], [1, 10, 11, 12], []] kf44))
  (.node 45 (.leaf 45 (compE 100000 Try.prog Try.f45 [] kf45))
  (.leaf 46 (compE 100000 Try.prog Try.f46 [[], [0, 8, 9, 10], [0, 8, 9, 10], [0, 8, 9, 10]] kf46))))
  (.node 47 (.leaf 47 (compE 100000 Try.prog Try.f47 [[3, 4, 5], []] kf47))
  (.node 48 (.leaf 48 (compE 100000 Try.prog Try.f48 [[], [0, 1, 7, 8], [0, 1, 7, 8], [0, 1, 7, 8]] kf48))
  (.leaf 49 (compE 100000 Try.prog Try.f49 [[], [0, 1, 13, 14], [0, 1, 13, 14], [0, 1, 13, 14], [0, 1, 13, 14], [0, 1, 13, 14], [0, 6, 13, 14]] kf49))))))
  (.node 54 (.node 51 (.node 50 (.leaf 50 (compE 100000 Try.prog Try.f50 [[0, 1, 4]] kf50))
  (.leaf 51 (compE 100000 Try.prog Try.f51 [[], [0, 3, 5, 6, 15, 16, 17], [0, 3, 5, 6, 15, 16, 17], [0, 3, 5, 6, 15, 16, 17], [0, 3, 5, 6, 9, 11, 15, 16, 17], [0, 3, 5, 6, 12, 13, 15, 16, 17]] kf51)))
  (.node 52 (.leaf 52 (compE 100000 Try.prog Try.f52 [[], [0, 4, 5, 10, 11], [0, 4, 5, 10, 11], [0, 4, 5, 10, 11]] kf52))
  (.node 53 (.leaf 53 (compE 100000 Try.prog Try.f53 [] kf53))
  (.leaf 54 (compE 100000 Try.prog Try.f54 [] kf54)))))
  (.node 58 (.node 56 (.leaf 56 (compE 100000 Try.prog Try.f56 [] kf56))
  (.node 57 (.leaf 57 (compE 100000 Try.prog Try.f57 [] kf57))
  (.leaf 58 (compE 100000 Try.prog Try.f58 [[], [0, 1, 7, 8], [0, 1, 7, 8], [0, 1, 7, 8]] kf58))))
  (.node 59 (.leaf 59 (compE 100000 Try.prog Try.f59 [[0], [0, 1, 7], [0, 1, 7, 8]] kf59))
  (.node 60 (.leaf 60 (compE 100000 Try.prog Try.f60 [] kf60))
  (.leaf 61 (compE 100000 Try.prog Try.f61 [] kf61))))))))
theorem tabA_K : tabA.all fun _ e => BodyKOK e.k e.b := ⟨⟨⟨⟨⟨compE_K kf10_ok, compE_K kf12_ok⟩, ⟨compE_K kf13_ok, ⟨compE_K kf14_ok, compE_K kf15_ok⟩⟩⟩, ⟨⟨compE_K kf16_ok, compE_K kf20_ok⟩, ⟨compE_K kf21_ok, ⟨compE_K kf22_ok, compE_K kf23_ok⟩⟩⟩⟩, ⟨⟨⟨compE_K kf24_ok, compE_K kf29_ok⟩, ⟨compE_K kf30_ok, ⟨compE_K kf31_ok, compE_K kf32_ok⟩⟩⟩, ⟨⟨compE_K kf33_ok, ⟨compE_K kf34_ok, compE_K kf35_ok⟩⟩, ⟨compE_K kf36_ok, ⟨compE_K kf37_ok, compE_K kf38_ok⟩⟩⟩⟩⟩, ⟨⟨⟨⟨compE_K kf39_ok, compE_K kf40_ok⟩, ⟨compE_K kf41_ok, ⟨containsE_K, compE_K kf43_ok⟩⟩⟩, ⟨⟨compE_K kf44_ok, ⟨compE_K kf45_ok, compE_K kf46_ok⟩⟩, ⟨compE_K kf47_ok, ⟨compE_K kf48_ok, compE_K kf49_ok⟩⟩⟩⟩, ⟨⟨⟨compE_K kf50_ok, compE_K kf51_ok⟩, ⟨compE_K kf52_ok, ⟨compE_K kf53_ok, compE_K kf54_ok⟩⟩⟩, ⟨⟨compE_K kf56_ok, ⟨compE_K kf57_ok, compE_K kf58_ok⟩⟩, ⟨compE_K kf59_ok, ⟨compE_K kf60_ok, compE_K kf61_ok⟩⟩⟩⟩⟩⟩
theorem tabA_B {ρ : Nat → Value} {W : World} (hρ : ∀ i, (ρ i).oneCell' = true) (hm : hasM 0 W) : tabA.all fun i e => BodyOK Try.prog ρ ⟨W.heap.size, W⟩ i e.b :=
  have hh : HypOK ρ [] := hyp_nil ρ
  ⟨⟨⟨⟨⟨compE_B kf10_ok Try.func10 (by decide) hρ mixed, compE_B kf12_ok Try.func12 (by decide) hρ mixed⟩, ⟨compE_B kf13_ok Try.func13 (by decide) hρ mixed, ⟨compE_B kf14_ok Try.func14 (by decide) hρ mixed, compE_B kf15_ok Try.func15 (by decide) hρ mixed⟩⟩⟩, ⟨⟨compE_B kf16_ok Try.func16 (by decide) hρ mixed, compE_B kf20_ok Try.func20 (by decide) hρ mixed⟩, ⟨compE_B kf21_ok Try.func21 (by decide) hρ mixed, ⟨compE_B kf22_ok Try.func22 (by decide) hρ mixed, compE_B kf23_ok Try.func23 (by decide) hρ mixed⟩⟩⟩⟩, ⟨⟨⟨compE_B kf24_ok Try.func24 (by decide) hρ mixed, compE_B kf29_ok Try.func29 (by decide) hρ mixed⟩, ⟨compE_B kf30_ok Try.func30 (by decide) hρ mixed, ⟨compE_B kf31_ok Try.func31 (by decide) hρ mixed, compE_B kf32_ok Try.func32 (by decide) hρ mixed⟩⟩⟩, ⟨⟨compE_B kf33_ok Try.func33 (by decide) hρ mixed, ⟨compE_B kf34_ok Try.func34 (by decide) hρ mixed, compE_B kf35_ok Try.func35 (by decide) hρ mixed⟩⟩, ⟨compE_B kf36_ok Try.func36 (by decide) hρ mixed, ⟨compE_B kf37_ok Try.func37 (by decide) hρ mixed, compE_B kf38_ok Try.func38 (by decide) hρ mixed⟩⟩⟩⟩⟩, ⟨⟨⟨⟨compE_B kf39_ok Try.func39 (by decide) hρ mixed, compE_B kf40_ok Try.func40 (by decide) hρ mixed⟩, ⟨compE_B kf41_ok Try.func41 (by decide) hρ mixed, ⟨containsE_B Try.func42 (by kernel_rfl) (by decide) hm fun s sub m w hs hm => Try.strings_Contains s sub m w hs hm, compE_B kf43_ok Try.func43 (by decide) hρ mixed⟩⟩⟩, ⟨⟨compE_B kf44_ok Try.func44 (by decide) hρ mixed, ⟨compE_B kf45_ok Try.func45 (by decide) hρ mixed, compE_B kf46_ok Try.func46 (by decide) hρ mixed⟩⟩, ⟨compE_B kf47_ok Try.func47 (by decide) hρ mixed, ⟨compE_B kf48_ok Try.func48 (by decide) hρ mixed, compE_B kf49_ok Try.func49 (by decide) hρ mixed⟩⟩⟩⟩, ⟨⟨⟨compE_B kf50_ok Try.func50 (by decide) hρ mixed, compE_B kf51_ok Try.func51 (by decide) hρ mixed⟩, ⟨compE_B kf52_ok Try.func52 (by decide) hρ mixed, ⟨compE_B kf53_ok Try.func53 (by decide) hρ mixed, compE_B kf54_ok Try.func54 (by decide) hρ mixed⟩⟩⟩, ⟨⟨compE_B kf56_ok Try.func56 (by decide) hρ mixed, ⟨compE_B kf57_ok Try.func57 (by decide) hρ mixed, compE_B kf58_ok Try.func58 (by decide) hρ mixed⟩⟩, ⟨compE_B kf59_ok Try.func59 (by decide) hρ mixed, ⟨compE_B kf60_ok Try.func60 (by decide) hρ mixed, compE_B kf61_ok Try.func61 (by decide) hρ mixed⟩⟩⟩⟩⟩⟩
theorem known_check : check tabA 1000 10 [] = true := by kernel_rfl
theorem known_calls (w : World) (hm : hasM 0 w) : Calls Try.prog 10 #[] w fun e w' => e = .returned (.bool true) ∧ Below w.heap.size w w' :=
  check_call (ρ := fun _ => .bool false) tabA_K (tabA_B (fun _ => rfl) hm) known_check (xs := []) rfl
noncomputable def tab (hyp : List (Nat × Nat × Nat)) : BT :=
  (.node 37 (.node 22 (.node 13 (.node 10 (.node 5 (.leaf 5 (compE 100000 Try.prog Try.f5 [[0, 1], [0, 5], [0, 1, 5, 6], [0, 1, 5, 6], [0, 1, 5, 6], [0, 1, 5, 6, 7], [0, 1, 5, 6, 7], [0, 1, 5, 6, 9], [0, 10]] kf5))
  (.leaf 10 (hookE trueG)))
  (.node 11 (.leaf 11 (hookE (withinG hyp)))
  (.node 12 (.leaf 12 (compE 100000 Try.prog Try.f12 [[1], [1, 5], [1, 5, 30, 31, 32], [1, 5, 30, 31, 32], [1, 5, 30, 31, 32], [1, 5, 7, 8, 30, 31, 32], [1, 5, 10], [5], [5, 69, 70, 71], [5, 69, 70, 71], [5, 69, 70, 71], [5, 13, 14, 69, 70, 71], [5, 13, 14, 69, 70, 71, 86, 87, 88], [5, 13, 14, 69, 70, 71, 86, 87, 88], [5, 13, 14, 69, 70, 71, 86, 87, 88], [5, 13, 14, 17, 69, 70, 71, 86, 87, 88]] kf12))
  (.leaf 13 (compE 100000 Try.prog Try.f13 [] kf13)))))
  (.node 16 (.node 14 (.leaf 14 (compE 100000 Try.prog Try.f14 [[0, 1, 2]] kf14))
  (.node 15 (.leaf 15 (compE 100000 Try.prog Try.f15 [] kf15))
  (.leaf 16 (compE 100000 Try.prog Try.f16 [] kf16))))
  (.node 20 (.leaf 20 (compE 100000 Try.prog Try.f20 [[1], [1], [1, 4], [1, 4, 33, 34, 35], [1, 4, 33, 34, 35], [1, 4, 33, 34, 35], [1, 4], [1, 4], [1, 4], [1, 4, 62, 63, 64], [1, 4, 62, 63, 64], [1, 4, 62, 63, 64], []] kf20))
  (.node 21 (.leaf 21 (compE 100000 Try.prog Try.f21 [[0]] kf21))
  (.leaf 22 (compE 100000 Try.prog Try.f22 [[0, 2, 4], [0, 8], [0, 2, 8, 42, 43, 44], [0, 2, 8, 42, 43, 44], [0, 2, 8, 42, 43, 44], [0, 2, 8, 11, 42, 43, 44]] kf22))))))
  (.node 31 (.node 24 (.node 23 (.leaf 23 (compE 100000 Try.prog Try.f23 [[0, 1, 2, 7]] kf23))
  (.leaf 24 (compE 100000 Try.prog Try.f24 [[0, 3, 6], [0, 3, 6]] kf24)))
  (.node 29 (.leaf 29 (compE 100000 Try.prog Try.f29 [[], [0, 5, 6, 7], [0, 5, 6, 7], [0, 5, 6, 7]] kf29))
  (.node 30 (.leaf 30 (compE 100000 Try.prog Try.f30 [[3], [3, 8, 9, 10], [3, 8, 9, 10], [3, 8, 9, 10]] kf30))
  (.leaf 31 (compE 100000 Try.prog Try.f31 [[0, 2, 4], [0, 2, 4], [], [0, 2, 98, 99, 100], [0, 2, 98, 99, 100], [0, 2, 98, 99, 100]] kf31)))))
  (.node 34 (.node 32 (.leaf 32 (compE 100000 Try.prog Try.f32 [[], [0, 1, 8, 9, 10], [0, 1, 8, 9, 10], [0, 1, 8, 9, 10], [0, 1, 6, 8, 9, 10]] kf32))
  (.node 33 (.leaf 33 (compE 100000 Try.prog Try.f33 [[2, 3, 5], [2, 3, 5, 16, 17, 18], [2, 3, 5, 16, 17, 18], [2, 3, 5, 16, 17, 18], [2, 3], [3, 8], [2, 3, 8, 38, 39], [2, 3, 8, 38, 39], [2, 3, 8, 38, 39], [2, 3, 8, 38, 39, 42, 43, 44], [2, 3, 8, 38, 39, 42, 43, 44], [2, 3, 8, 38, 39, 42, 43, 44]] kf33))
  (.leaf 34 (compE 100000 Try.prog Try.f34 [] kf34))))
  (.node 35 (.leaf 35 (compE 100000 Try.prog Try.f35 [[1, 3], [1, 3, 9, 10, 11], [1, 3, 9, 10, 11], [1, 3, 9, 10, 11], [3], [3, 27, 28, 29], [3, 27, 28, 29], [3, 27, 28, 29]] kf35))
  (.node 36 (.leaf 36 (compE 100000 Try.prog Try.f36 [[0, 3], [0, 3, 5], [0, 3, 5, 23], [0, 3, 5, 23]] kf36))
  (.leaf 37 (compE 100000 Try.prog Try.f37 [[0, 1, 2], [0, 9, 11]] kf37)))))))
  (.node 48 (.node 42 (.node 39 (.node 38 (.leaf 38 (compE 100000 Try.prog Try.f38 [] kf38))
  (.leaf 39 (compE 100000 Try.prog Try.f39 [[0]] kf39)))
  (.node 40 (.leaf 40 (compE 100000 Try.prog Try.f40 [[0]] kf40))
  (.node 41 (.leaf 41 (compE 100000 Try.prog Try.f41 [] kf41))
  (.leaf 42 containsE))))
  (.node 45 (.node 43 (.leaf 43 (compE 100000 Try.prog Try.f43 [[], [1, 4, 5], [1, 9]] kf43))
  (.node 44 (.leaf 44 (compE 100000 Try.prog Try.f44 [[1], [1], [1, 10, 11, 12], [1, 10, 11, 12], [1, 10, 11, 12], []] kf44))
  (.leaf 45 (compE 100000 Try.prog Try.f45 [] kf45))))
  (.node 46 (.leaf 46 (compE 100000 Try.prog Try.f46 [[], [0, 8, 9, 10], [0, 8, 9, 10], [0, 8, 9, 10]] kf46))
  (.node 47 (.leaf 47 (compE 100000 Try.prog Try.f47 [[3, 4, 5], []] kf47))
  (.leaf 48 (compE 100000 Try.prog Try.f48 [[], [0, 1, 7, 8], [0, 1, 7, 8], [0, 1, 7, 8]] kf48))))))
  (.node 54 (.node 51 (.node 49 (.leaf 49 (compE 100000 Try.prog Try.f49 [[], [0, 1, 13, 14], [0, 1, 13, 14], [0, 1, 13, 14], [0, 1, 13, 14], [0, 1, 13, 14], [0, 6, 13, 14]] kf49))
  (.node 50 (.leaf 50 (compE 100000 Try.prog Try.f50 [[0, 1, 4]] kf50))
  (.leaf 51 (compE 100000 Try.prog Try.f51 [[], [0, 3, 5, 6, 15, 16, 17], [0, 3, 5, 6, 15, 16, 17], [0, 3, 5, 6, 15, 16, 17], [0, 3, 5, 6, 9, 11, 15, 16, 17], [0, 3, 5, 6, 12, 13, 15, 16, 17]] kf51))))
  (.node 52 (.leaf 52 (compE 100000 Try.prog Try.f52 [[], [0, 4, 5, 10, 11], [0, 4, 5, 10, 11], [0, 4, 5, 10, 11]] kf52))
  (.node 53 (.leaf 53 (compE 100000 Try.prog Try.f53 [] kf53))
  (.leaf 54 (compE 100000 Try.prog Try.f54 [] kf54)))))
  (.node 58 (.node 56 (.leaf 56 (compE 100000 Try.prog Try.f56 [] kf56))
  (.node 57 (.leaf 57 (compE 100000 Try.prog Try.f57 [] kf57))
  (.leaf 58 (compE 100000 Try.prog Try.f58 [[], [0, 1, 7, 8], [0, 1, 7, 8], [0, 1, 7, 8]] kf58))))
  (.node 59 (.leaf 59 (compE 100000 Try.prog Try.f59 [[0], [0, 1, 7], [0, 1, 7, 8]] kf59))
  (.node 60 (.leaf 60 (compE 100000 Try.prog Try.f60 [] kf60))
  (.leaf 61 (compE 100000 Try.prog Try.f61 [] kf61))))))))
theorem tab_K (hyp : List (Nat × Nat × Nat)) : (tab hyp).all fun _ e => BodyKOK e.k e.b := ⟨⟨⟨⟨⟨compE_K kf5_ok, hookE_K _⟩, ⟨hookE_K _, ⟨compE_K kf12_ok, compE_K kf13_ok⟩⟩⟩, ⟨⟨compE_K kf14_ok, ⟨compE_K kf15_ok, compE_K kf16_ok⟩⟩, ⟨compE_K kf20_ok, ⟨compE_K kf21_ok, compE_K kf22_ok⟩⟩⟩⟩, ⟨⟨⟨compE_K kf23_ok, compE_K kf24_ok⟩, ⟨compE_K kf29_ok, ⟨compE_K kf30_ok, compE_K kf31_ok⟩⟩⟩, ⟨⟨compE_K kf32_ok, ⟨compE_K kf33_ok, compE_K kf34_ok⟩⟩, ⟨compE_K kf35_ok, ⟨compE_K kf36_ok, compE_K kf37_ok⟩⟩⟩⟩⟩, ⟨⟨⟨⟨compE_K kf38_ok, compE_K kf39_ok⟩, ⟨compE_K kf40_ok, ⟨compE_K kf41_ok, containsE_K⟩⟩⟩, ⟨⟨compE_K kf43_ok, ⟨compE_K kf44_ok, compE_K kf45_ok⟩⟩, ⟨compE_K kf46_ok, ⟨compE_K kf47_ok, compE_K kf48_ok⟩⟩⟩⟩, ⟨⟨⟨compE_K kf49_ok, ⟨compE_K kf50_ok, compE_K kf51_ok⟩⟩, ⟨compE_K kf52_ok, ⟨compE_K kf53_ok, compE_K kf54_ok⟩⟩⟩, ⟨⟨compE_K kf56_ok, ⟨compE_K kf57_ok, compE_K kf58_ok⟩⟩, ⟨compE_K kf59_ok, ⟨compE_K kf60_ok, compE_K kf61_ok⟩⟩⟩⟩⟩⟩
theorem tab_B {ρ : Nat → Value} {W : World} {hyp : List (Nat × Nat × Nat)} (hρ : ∀ i, (ρ i).oneCell' = true) (hm : hasM 0 W) (hh : HypOK ρ hyp) : (tab hyp).all fun i e => BodyOK Try.prog ρ ⟨W.heap.size, W⟩ i e.b :=
  ⟨⟨⟨⟨⟨compE_B kf5_ok Try.func5 (by decide) hρ mixed, trueE_B Try.func10 (by kernel_rfl) (by decide) hm known_calls⟩, ⟨withinE_B Try.func11 (by kernel_rfl) (by decide) hh within11_calls, ⟨compE_B kf12_ok Try.func12 (by decide) hρ mixed, compE_B kf13_ok Try.func13 (by decide) hρ mixed⟩⟩⟩, ⟨⟨compE_B kf14_ok Try.func14 (by decide) hρ mixed, ⟨compE_B kf15_ok Try.func15 (by decide) hρ mixed, compE_B kf16_ok Try.func16 (by decide) hρ mixed⟩⟩, ⟨compE_B kf20_ok Try.func20 (by decide) hρ mixed, ⟨compE_B kf21_ok Try.func21 (by decide) hρ mixed, compE_B kf22_ok Try.func22 (by decide) hρ mixed⟩⟩⟩⟩, ⟨⟨⟨compE_B kf23_ok Try.func23 (by decide) hρ mixed, compE_B kf24_ok Try.func24 (by decide) hρ mixed⟩, ⟨compE_B kf29_ok Try.func29 (by decide) hρ mixed, ⟨compE_B kf30_ok Try.func30 (by decide) hρ mixed, compE_B kf31_ok Try.func31 (by decide) hρ mixed⟩⟩⟩, ⟨⟨compE_B kf32_ok Try.func32 (by decide) hρ mixed, ⟨compE_B kf33_ok Try.func33 (by decide) hρ mixed, compE_B kf34_ok Try.func34 (by decide) hρ mixed⟩⟩, ⟨compE_B kf35_ok Try.func35 (by decide) hρ mixed, ⟨compE_B kf36_ok Try.func36 (by decide) hρ mixed, compE_B kf37_ok Try.func37 (by decide) hρ mixed⟩⟩⟩⟩⟩, ⟨⟨⟨⟨compE_B kf38_ok Try.func38 (by decide) hρ mixed, compE_B kf39_ok Try.func39 (by decide) hρ mixed⟩, ⟨compE_B kf40_ok Try.func40 (by decide) hρ mixed, ⟨compE_B kf41_ok Try.func41 (by decide) hρ mixed, containsE_B Try.func42 (by kernel_rfl) (by decide) hm fun s sub m w hs hm => Try.strings_Contains s sub m w hs hm⟩⟩⟩, ⟨⟨compE_B kf43_ok Try.func43 (by decide) hρ mixed, ⟨compE_B kf44_ok Try.func44 (by decide) hρ mixed, compE_B kf45_ok Try.func45 (by decide) hρ mixed⟩⟩, ⟨compE_B kf46_ok Try.func46 (by decide) hρ mixed, ⟨compE_B kf47_ok Try.func47 (by decide) hρ mixed, compE_B kf48_ok Try.func48 (by decide) hρ mixed⟩⟩⟩⟩, ⟨⟨⟨compE_B kf49_ok Try.func49 (by decide) hρ mixed, ⟨compE_B kf50_ok Try.func50 (by decide) hρ mixed, compE_B kf51_ok Try.func51 (by decide) hρ mixed⟩⟩, ⟨compE_B kf52_ok Try.func52 (by decide) hρ mixed, ⟨compE_B kf53_ok Try.func53 (by decide) hρ mixed, compE_B kf54_ok Try.func54 (by decide) hρ mixed⟩⟩⟩, ⟨⟨compE_B kf56_ok Try.func56 (by decide) hρ mixed, ⟨compE_B kf57_ok Try.func57 (by decide) hρ mixed, compE_B kf58_ok Try.func58 (by decide) hρ mixed⟩⟩, ⟨compE_B kf59_ok Try.func59 (by decide) hρ mixed, ⟨compE_B kf60_ok Try.func60 (by decide) hρ mixed, compE_B kf61_ok Try.func61 (by decide) hρ mixed⟩⟩⟩⟩⟩⟩
end Go.Proofs.Ytjblgoefcobkgaa
