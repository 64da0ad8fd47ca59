/- The code of the law and of all that it calls, for the evaluator; what stands in for the library's. No condition. -/
import Derived.Test.YthhmgleopaojiaaRows
import Derived.Test.YthhmgleopaojiaaShelf
import Derived.WalkKit
import Derived.Test.YthhmgleopaojiaaEva6
namespace Go.Proofs.Ythhmgleopaojiaa
open Eva Go.RowKit
set_option linter.unusedVariables false
noncomputable def kf5 : KFn := { params := [w0, w1, w2], res := [(.s r6)], body :=
 (.seq
 (.reg [.p (o1 mvG (ctK (.bool false))) w6])
 (.seq
 (.seq
 (.reg [.p (callO 9 []) w22, .p (o1 notG r22) w23])
 (.cond r23
 (.seq
 (.reg [.p (o1 mvG (ctK (.bool false))) w6])
 .ret)
 .skip))
 (.seq
 (.reg [.p (buildO [(.int .i64 (Int.ofNat 0)), (.str 0 0), .snil, .snil] [(0, 1, (ctK (.int .i64 (Int.ofNat 3))))]) w24, .p (allocO [(.int .i64 (Int.ofNat 0)), (.str 0 0), .snil, .snil]) w7, .p (o2 (storeG 4) r7 r24) noW])
 (.seq
 (.reg [.p (buildO [(.int .i64 (Int.ofNat 0)), (.str 0 0), .snil, .snil] [(0, 1, (ctK (.int .i64 (Int.ofNat 2))))]) w25, .p (buildO [(.int .i64 (Int.ofNat 0)), (.str 0 0), .snil, .snil] [(0, 1, (ctK (.int .i64 (Int.ofNat 2))))]) w26, .p (buildO [(.str 0 0), (.int .i64 (Int.ofNat 0)), (.str 0 0), .snil, .snil] [(0, 1, (ctK (.str 1 78))), (1, 4, r26)]) w27, .p (bslO 5 1 [(.str 0 0), (.int .i64 (Int.ofNat 0)), (.str 0 0), .snil, .snil] [(0, 5, r27)]) w28, .p (buildO [(.int .i64 (Int.ofNat 0)), (.str 0 0), .snil, .snil] [(0, 1, (ctK (.int .i64 (Int.ofNat 1))))]) w29, .p (o1 (loadnG 4) r7) w30, .p (o1 (loadnG 4) r7) w31, .p (bslO 4 1 [(.int .i64 (Int.ofNat 0)), (.str 0 0), .snil, .snil] [(0, 4, r31)]) w32, .p (buildO [(.int .i64 (Int.ofNat 0)), (.str 0 0), .snil, .snil] [(0, 1, (ctK (.int .i64 (Int.ofNat 4)))), (3, 1, r32)]) w33, .p (buildO [(.int .i64 (Int.ofNat 0)), (.str 0 0), .snil, .snil] [(0, 1, (ctK (.int .i64 (Int.ofNat 9)))), (1, 1, (ctK (.str 1 78)))]) w34, .p (bslO 4 4 [(.int .i64 (Int.ofNat 0)), (.str 0 0), .snil, .snil, (.int .i64 (Int.ofNat 0)), (.str 0 0), .snil, .snil, (.int .i64 (Int.ofNat 0)), (.str 0 0), .snil, .snil, (.int .i64 (Int.ofNat 0)), (.str 0 0), .snil, .snil] [(0, 4, r29), (4, 4, r30), (8, 4, r33), (12, 4, r34)]) w35, .p (o1 (loadnG 4) r7) w36, .p (buildO [(.str 0 0), .snil, (.int .i64 (Int.ofNat 0)), (.str 0 0), .snil, .snil] [(0, 1, (ctK (.str 1 102))), (1, 1, r35), (2, 4, r36)]) w37, .p (bslO 6 1 [(.str 0 0), .snil, (.int .i64 (Int.ofNat 0)), (.str 0 0), .snil, .snil] [(0, 6, r37)]) w38, .p (buildO [(.int .i64 (Int.ofNat 0)), (.str 0 0), .snil, .snil, .snil, .snil] [(0, 4, r25), (4, 1, r28), (5, 1, r38)]) w39, .p (allocO [(.int .i64 (Int.ofNat 0)), (.str 0 0), .snil, .snil, .snil, .snil]) w8, .p (o2 (storeG 6) r8 r39) noW])
 (.seq
 (.reg [.p (o1 (loadnG 6) r8) w41, .p (callO 10 [r41]) w42, .p (o1 mvG r42) w40, .p (o1 (extG 0) r40) w43, .p (o1 (extG 1) r40) w44, .p (o1 mvG r43) w9, .p (o1 mvG r44) w10])
 (.seq
 (.seq
 (.reg [.p (o1 mvG r10) w45, .p (o2 (eqG eqIV true) r45 (ctK (.int .i64 (Int.ofNat 0)))) w46])
 (.cond r46
 (.seq
 (.reg [.p (o1 mvG (ctK (.bool false))) w6])
 .ret)
 .skip))
 (.seq
 (.reg [.p (o1 mvG r9) w48, .p (callO 19 [r48, (ctK (.str 1 102))]) w49, .p (o1 mvG r49) w47, .p (o1 (extG 0) r47) w50, .p (o1 (extG 1) r47) w51, .p (o1 (extG 2) r47) w52, .p (o1 mvG r50) w11, .p (o1 mvG r51) w12, .p (o1 mvG r52) w13])
 (.seq
 (.reg [.p (o1 mvG r1) w53, .p (callO 12 [r53, (ctK (.int .i64 (Int.ofNat 5)))]) w54, .p (o1 mvG r2) w55, .p (callO 12 [r55, (ctK (.int .i64 (Int.ofNat 5)))]) w56, .p (o1 mvG r54) w1, .p (o1 mvG r56) w2])
 (.seq
 (.drw [.p (o1 mvG r9) w57, .m (callO 21 [r57]) w58 none, .p (o1 mvG r11) w59, .p (o2 (iaddrG 1) r59 (ctK (.int .i64 (Int.ofNat 0)))) w60, .p (o1 load1G r60) w61, .p (o1 mvG r11) w62, .p (o2 (iaddrG 1) r62 (ctK (.int .i64 (Int.ofNat 1)))) w63, .p (o1 load1G r63) w64, .p (o1 mvG r11) w65, .p (o2 (iaddrG 1) r65 (ctK (.int .i64 (Int.ofNat 2)))) w66, .p (o1 load1G r66) w67, .p (o1 mvG r11) w68, .p (o2 (iaddrG 1) r68 (ctK (.int .i64 (Int.ofNat 3)))) w69, .p (o1 load1G r69) w70, .p (bslO 1 5 [(.int .i64 (Int.ofNat 0)), (.int .i64 (Int.ofNat 0)), (.int .i64 (Int.ofNat 0)), (.int .i64 (Int.ofNat 0)), (.int .i64 (Int.ofNat 0))] [(0, 1, r58), (1, 1, r61), (2, 1, r64), (3, 1, r67), (4, 1, r70)]) w71, .p (o1 mvG r71) w14] [])
 (.seq
 (.reg [.p (bslO 1 5 [(.bool false), (.bool false), (.bool false), (.bool false), (.bool false)] [(0, 1, (ctK (.bool true))), (1, 1, (ctK (.bool false))), (2, 1, (ctK (.bool false))), (3, 1, (ctK (.bool false))), (4, 1, (ctK (.bool true)))]) w72, .p (o1 mvG r72) w15])
 (.seq
 (.reg [.p (bslO 1 6 [(.str 0 0), (.str 0 0), (.str 0 0), (.str 0 0), (.str 0 0), (.str 0 0)] [(0, 1, (ctK (.str 2 14441))), (1, 1, (ctK (.str 3 3551593))), (2, 1, (ctK (.str 3 3289961))), (3, 1, (ctK (.str 2 14453))), (4, 1, (ctK (.str 3 3551605))), (5, 1, (ctK (.str 3 3289973)))]) w73, .p (o1 mvG r0) w74, .p (callO 12 [r74, (ctK (.int .i64 (Int.ofNat 6)))]) w75, .p (o2 (iaddrG 1) r73 r75) w76, .p (o1 load1G r76) w77, .p (o1 mvG r77) w16])
 (.seq
 (.reg [.p (bslO 1 5 [(.str 0 0), (.str 0 0), (.str 0 0), (.str 0 0), (.str 0 0)] [(0, 1, (ctK (.str 3 6579297))), (1, 1, (ctK (.str 3 6452595))), (2, 1, (ctK (.str 3 7107949))), (3, 1, (ctK (.str 3 7104627))), (4, 1, (ctK (.str 3 7497843)))]) w78, .p (o1 mvG r0) w79, .p (callO 12 [r79, (ctK (.int .i64 (Int.ofNat 5)))]) w80, .p (o2 (iaddrG 1) r78 r80) w81, .p (o1 load1G r81) w82, .p (o1 mvG r82) w17])
 (.seq
 (.reg [.p (o1 mvG r9) w84, .p (o1 mvG r16) w85, .p (o1 mvG r14) w86, .p (o1 mvG r1) w87, .p (o2 (iaddrG 1) r86 r87) w88, .p (o1 load1G r88) w89, .p (bslO 1 1 [(.int .i64 (Int.ofNat 0))] [(0, 1, r89)]) w90, .p (callO 13 [r84, r85, r90]) w91, .p (o1 mvG r91) w83, .p (o1 (extG 0) r83) w92, .p (o1 (extG 1) r83) w93, .p (o1 mvG r92) w18, .p (o1 mvG r93) w19])
 (.seq
 (.drw [.p (o1 mvG r9) w95, .p (o1 mvG r17) w96, .p (o1 mvG r14) w97, .p (o1 mvG r1) w98, .p (o2 (iaddrG 1) r97 r98) w99, .p (o1 load1G r99) w100, .p (o1 mvG r14) w101, .p (o1 mvG r2) w102, .p (o2 (iaddrG 1) r101 r102) w103, .p (o1 load1G r103) w104, .p (bslO 1 2 [(.int .i64 (Int.ofNat 0)), (.int .i64 (Int.ofNat 0))] [(0, 1, r100), (1, 1, r104)]) w105, .m (callO 13 [r95, r96, r105]) w106 (some []), .p (o1 mvG r106) w94, .p (o1 (extG 0) r94) w107, .p (o1 (extG 1) r94) w108, .p (o1 mvG r107) w20, .p (o1 mvG r108) w21] [])
 (.seq
 (.seq
 (.reg [.p (o1 mvG r15) w109, .p (o1 mvG r1) w110, .p (o2 (iaddrG 1) r109 r110) w111, .p (o1 load1G r111) w112, .p (o1 mvG r19) w113, .p (o2 (eqG eqIV false) r113 (ctK (.int .i64 (Int.ofNat 0)))) w114, .p (o2 (eqG (slowEq (.one .b)) true) r112 r114) w115, .p (o1 mvG r115) w116, .g r116 false false none (o1 mvG r15) w117, .g r116 false false none (o1 mvG r1) w118, .g r116 false false none (o2 (iaddrG 1) r117 r118) w119, .g r116 false false none (o1 load1G r119) w120, .g r116 false false none (o1 mvG r120) w121, .g r121 true false none (o1 mvG r15) w122, .g r121 true false none (o1 mvG r2) w123, .g r121 true false none (o2 (iaddrG 1) r122 r123) w124, .g r121 true false none (o1 load1G r124) w125, .g r116 false false none (o3 pickG r121 r125 (ctK (.bool false))) w126, .g r116 false false none (o1 mvG r21) w127, .g r116 false false none (o2 (eqG eqIV false) r127 (ctK (.int .i64 (Int.ofNat 0)))) w128, .g r116 false false none (o2 (eqG (slowEq (.one .b)) true) r126 r128) w129, .p (o3 pickG r116 (ctK (.bool true)) r129) w130])
 (.cond r130
 (.seq
 (.reg [.p (o1 mvG (ctK (.bool false))) w6])
 .ret)
 .skip))
 (.seq
 (.reg [.p (o1 mvG r19) w131, .p (o2 (eqG eqIV true) r131 (ctK (.int .i64 (Int.ofNat 0)))) w132, .p (o1 mvG r132) w133, .g r133 true false none (o1 mvG r19) w134, .g r133 true false none (o2 (eqG eqIV false) r134 (ctK (.int .i64 (Int.ofNat 17)))) w135, .p (o3 pickG r133 r135 (ctK (.bool false))) w136, .p (o1 mvG r136) w137, .g r137 false false none (o1 mvG r18) w138, .g r137 false false none (o1 mvG r9) w139, .g r137 false false none (callO 21 [r139]) w140, .g r137 false false none (o2 (eqG eqIV false) r138 r140) w141, .p (o3 pickG r137 (ctK (.bool true)) r141) w142, .p (o1 mvG r142) w143, .g r143 true false none (o1 mvG r21) w144, .g r143 true false none (o2 (eqG eqIV true) r144 (ctK (.int .i64 (Int.ofNat 0)))) w145, .g r143 true false none (o1 mvG r145) w146, .g r146 true false none (o1 mvG r21) w147, .g r146 true false none (o2 (eqG eqIV false) r147 (ctK (.int .i64 (Int.ofNat 17)))) w148, .g r143 true false none (o3 pickG r146 r148 (ctK (.bool false))) w149, .g r143 true false none (o1 mvG r149) w150, .g r150 false false none (o1 mvG r20) w151, .g r150 false false none (o1 mvG r9) w152, .g r150 false false none (callO 21 [r152]) w153, .g r150 false false none (o2 (eqG eqIV false) r151 r153) w154, .g r143 true false none (o3 pickG r150 (ctK (.bool true)) r154) w155, .p (o3 pickG r143 r155 (ctK (.bool false))) w156, .p (o1 mvG r156) w6])
 .ret)))))))))))))))) }
theorem kf5_ok : (compFn Try.prog Try.f5 [[0, 1, 2], [0, 1, 2, 9], [9, 18, 19, 20, 21]]).bind (toKFn 3) = some kf5 := by kernel_rfl
noncomputable def kf9 : KFn := { params := [], res := [(.s r0)], body :=
 (.seq
 (.reg [.p (o1 mvG (ctK (.bool false))) w0])
 (.seq
 (.reg [.p (buildO [(.int .i64 (Int.ofNat 0)), (.str 0 0), .snil, .snil] [(0, 1, (ctK (.int .i64 (Int.ofNat 2))))]) w8, .p (buildO [(.int .i64 (Int.ofNat 0)), (.str 0 0), .snil, .snil, .snil, .snil] [(0, 4, r8)]) w9, .p (callO 10 [r9]) w10, .p (o1 mvG r10) w7, .p (o1 (extG 0) r7) w11, .p (o1 (extG 1) r7) w12, .p (o1 mvG r11) w1, .p (o1 mvG r12) w2])
 (.seq
 (.seq
 (.reg [.p (o1 mvG r1) w13, .p (o2 (eqG (slowEq (.one .p)) false) r13 (ctK .pnil)) w14])
 (.cond r14
 (.seq
 (.reg [.p (o1 mvG (ctK (.bool false))) w0])
 .ret)
 .skip))
 (.seq
 (.reg [.p (o1 mvG r1) w16, .p (bslO 1 1 [(.int .i64 (Int.ofNat 0))] [(0, 1, (ctK (.int .i64 (Int.ofNat 0))))]) w17, .p (callO 13 [r16, (ctK (.str 3 7234924)), r17]) w18, .p (o1 mvG r18) w15, .p (o1 (extG 0) r15) w19, .p (o1 (extG 1) r15) w20, .p (o1 mvG r19) w3, .p (o1 mvG r20) w4])
 (.seq
 (.reg [.p (o1 mvG r1) w22, .p (bslO 1 2 [(.int .i64 (Int.ofNat 0)), (.int .i64 (Int.ofNat 0))] [(0, 1, (ctK (.int .i64 (Int.ofNat 0)))), (1, 1, (ctK (.int .i64 (Int.ofNat 0))))]) w23, .p (callO 13 [r22, (ctK (.str 3 6579297)), r23]) w24, .p (o1 mvG r24) w21, .p (o1 (extG 0) r21) w25, .p (o1 (extG 1) r21) w26, .p (o1 mvG r25) w5, .p (o1 mvG r26) w6])
 (.seq
 (.reg [.p (o1 mvG r4) w27, .p (o2 (eqG eqIV false) r27 (ctK (.int .i64 (Int.ofNat 17)))) w28, .p (o1 mvG r28) w29, .g r29 true false none (o1 mvG r6) w30, .g r29 true false none (o2 (eqG eqIV false) r30 (ctK (.int .i64 (Int.ofNat 0)))) w31, .p (o3 pickG r29 r31 (ctK (.bool false))) w32, .p (o1 mvG r32) w33, .g r33 true false none (o1 mvG r5) w34, .g r33 true false none (o2 (eqG eqIV false) r34 (ctK (.int .i64 (Int.ofNat 0)))) w35, .p (o3 pickG r33 r35 (ctK (.bool false))) w36, .p (o1 mvG r36) w0])
 .ret)))))) }
theorem kf9_ok : (compFn Try.prog Try.f9 [[1]]).bind (toKFn 0) = some kf9 := by kernel_rfl
noncomputable def kf10 : KFn := { params := [w0], res := [(.s r2), (.s r3)], body :=
 (.seq
 (.reg [.p (o1 boxG r0) w1, .p (o1 mvG (ctK .pnil)) w2, .p (o1 mvG (ctK (.int .i64 (Int.ofNat 0)))) w3])
 (.seq
 (.seq
 (.reg [.p (o1 (loadnG 6) r1) w19, .p (callO 24 [r19]) w20, .p (o1 mvG r20) w4])
 (.seq
 (.reg [.p (o1 mvG r4) w21, .p (o2 (eqG eqIV true) r21 (ctK (.int .i64 (Int.ofNat 0)))) w22])
 (.cond r22
 (.seq
 (.reg [.p (o1 mvG r4) w23, .p (o1 mvG (ctK .pnil)) w2, .p (o1 mvG r23) w3])
 .ret)
 .skip)))
 (.seq
 (.reg [.p mkmapO w24, .p mkmapO w25, .p mkmapO w26, .p (buildO [.snil, .mnil, .mnil, (.int .i64 (Int.ofNat 0)), .mnil] [(1, 1, r24), (2, 1, r25), (4, 1, r26)]) w27, .p (o1 boxG r27) w28, .p (o1 mvG r28) w5])
 (.seq
 (.seq
 (.reg [.p (o1 (faddrG 4) r1) w29, .p (o1 load1G r29) w30, .p (o1 lenLG r30) w31, .p (o1 mvG (ctK (.int .i64 (Int.ofNat 0)))) w32])
 (.block 0
 (.loop
 (.seq
 (.reg [.p (o2 (binG (cmpB .lss ltI)) r32 r31) w33])
 (.seq
 (.cond r33
 .skip
 (.exit 0))
 (.seq
 (.block 1
 (.seq
 (.reg [.p (o2 (iaddrG 5) r30 r32) w34, .p (o1 (loadnG 5) r34) w35, .p (allocO [(.str 0 0), (.int .i64 (Int.ofNat 0)), (.str 0 0), .snil, .snil]) w7, .p (o2 (storeG 5) r7 r35) noW])
 (.seq
 (.reg [.p (o1 mvG r5) w37, .p (o1 (faddrG 1) r7) w38, .p (o1 (loadnG 4) r38) w39, .p (callO 22 [r37, r39]) w40, .p (o1 mvG r40) w36, .p (o1 (extG 0) r36) w41, .p (o1 (extG 1) r36) w42, .p (o1 mvG r41) w8, .p (o1 mvG r42) w9])
 (.seq
 (.seq
 (.reg [.p (o1 mvG r9) w43, .p (o2 (eqG eqIV true) r43 (ctK (.int .i64 (Int.ofNat 0)))) w44])
 (.cond r44
 (.seq
 (.reg [.p (o1 mvG r9) w45, .p (o1 mvG (ctK .pnil)) w2, .p (o1 mvG r45) w3])
 .ret)
 .skip))
 (.drw [.p (o1 mvG r5) w46, .p (o1 nilckG r46) w47, .p (o1 (faddrG 2) r47) w48, .p (o1 load1G r48) w49, .p (o1 (faddrG 0) r7) w50, .p (o1 load1G r50) w51, .p (o1 mvG r8) w52, .p (o3 (mupdG (.one .s)) r49 r51 r52) noW] [])))))
 (.reg [.p (o2 (binG addB) r32 (ctK (.int .i64 (Int.ofNat 1)))) w53, .p (o1 mvG r53) w32])))))))
 (.seq
 (.reg [.p (o1 mvG r5) w55, .p (o1 (faddrG 0) r1) w56, .p (o1 (loadnG 4) r56) w57, .p (callO 22 [r55, r57]) w58, .p (o1 mvG r58) w54, .p (o1 (extG 0) r54) w59, .p (o1 (extG 1) r54) w60, .p (o1 mvG r59) w10, .p (o1 mvG r60) w11])
 (.seq
 (.seq
 (.reg [.p (o1 mvG r11) w61, .p (o2 (eqG eqIV true) r61 (ctK (.int .i64 (Int.ofNat 0)))) w62])
 (.cond r62
 (.seq
 (.reg [.p (o1 mvG r11) w63, .p (o1 mvG (ctK .pnil)) w2, .p (o1 mvG r63) w3])
 .ret)
 .skip))
 (.seq
 (.reg [.p (o1 mvG r5) w64, .p (o1 mvG r10) w65, .p (o1 nilckG r64) w66, .p (o1 (faddrG 3) r66) w67, .p (o2 (storeG 1) r67 r65) noW])
 (.seq
 (.seq
 (.reg [.p (o1 (faddrG 5) r1) w68, .p (o1 load1G r68) w69, .p (o1 lenLG r69) w70, .p (o1 mvG (ctK (.int .i64 (Int.ofNat 0)))) w71])
 (.block 2
 (.loop
 (.seq
 (.reg [.p (o2 (binG (cmpB .lss ltI)) r71 r70) w72])
 (.seq
 (.cond r72
 .skip
 (.exit 2))
 (.seq
 (.block 3
 (.seq
 (.reg [.p (o2 (iaddrG 6) r69 r71) w73, .p (o1 (loadnG 6) r73) w74, .p (allocO [(.str 0 0), .snil, (.int .i64 (Int.ofNat 0)), (.str 0 0), .snil, .snil]) w13, .p (o2 (storeG 6) r13 r74) noW])
 (.seq
 (.reg [.p (o1 (faddrG 1) r13) w75, .p (o1 load1G r75) w76, .p (o1 lenLG r76) w77, .p (o2 (binG addB) r77 (ctK (.int .i64 (Int.ofNat 1)))) w78, .p (o2 (mkslG 1 [(.int .i64 (Int.ofNat 0))]) (ctK (.int .i64 (Int.ofNat 0))) r78) w79, .p (o1 mvG r79) w14])
 (.seq
 (.seq
 (.drw [.p (o1 (faddrG 1) r13) w80, .p (o1 load1G r80) w81, .m (callO 25 [r81]) w82 none, .p (o1 (faddrG 2) r13) w83, .p (o1 (loadnG 4) r83) w84, .p (bslO 4 1 [(.int .i64 (Int.ofNat 0)), (.str 0 0), .snil, .snil] [(0, 4, r84)]) w85, .p (o2 (appG 4) r82 r85) w86, .p (o1 lenLG r86) w87, .p (o1 mvG (ctK (.int .i64 (Int.ofNat 0)))) w88] [])
 (.block 4
 (.loop
 (.seq
 (.reg [.p (o2 (binG (cmpB .lss ltI)) r88 r87) w89])
 (.seq
 (.cond r89
 .skip
 (.exit 4))
 (.seq
 (.block 5
 (.seq
 (.reg [.p (o2 (iaddrG 4) r86 r88) w90, .p (o1 (loadnG 4) r90) w91, .p (allocO [(.int .i64 (Int.ofNat 0)), (.str 0 0), .snil, .snil]) w16, .p (o2 (storeG 4) r16 r91) noW])
 (.seq
 (.reg [.p (o1 mvG r5) w93, .p (o1 (loadnG 4) r16) w94, .p (callO 22 [r93, r94]) w95, .p (o1 mvG r95) w92, .p (o1 (extG 0) r92) w96, .p (o1 (extG 1) r92) w97, .p (o1 mvG r96) w17, .p (o1 mvG r97) w18])
 (.seq
 (.seq
 (.reg [.p (o1 mvG r18) w98, .p (o2 (eqG eqIV true) r98 (ctK (.int .i64 (Int.ofNat 0)))) w99])
 (.cond r99
 (.seq
 (.reg [.p (o1 mvG r18) w100, .p (o1 mvG (ctK .pnil)) w2, .p (o1 mvG r100) w3])
 .ret)
 .skip))
 (.reg [.p (o1 mvG r14) w101, .p (o1 mvG r17) w102, .p (bslO 1 1 [(.int .i64 (Int.ofNat 0))] [(0, 1, r102)]) w103, .p (o2 (appG 1) r101 r103) w104, .p (o1 mvG r104) w14])))))
 (.reg [.p (o2 (binG addB) r88 (ctK (.int .i64 (Int.ofNat 1)))) w105, .p (o1 mvG r105) w88])))))))
 (.drw [.p (o1 mvG r5) w106, .p (o1 nilckG r106) w107, .p (o1 (faddrG 4) r107) w108, .p (o1 load1G r108) w109, .p (o1 (faddrG 0) r13) w110, .p (o1 load1G r110) w111, .p (o1 mvG r14) w112, .p (o3 (mupdG (.one .s)) r109 r111 r112) noW] [])))))
 (.reg [.p (o2 (binG addB) r71 (ctK (.int .i64 (Int.ofNat 1)))) w113, .p (o1 mvG r113) w71])))))))
 (.seq
 (.reg [.p (o1 mvG r5) w114, .p (o1 mvG r114) w2, .p (o1 mvG (ctK (.int .i64 (Int.ofNat 0)))) w3])
 .ret))))))))) }
theorem kf10_ok : (compFn Try.prog Try.f10 [[1], [1, 5], [1, 5, 30, 31, 32], [1, 5, 30, 31, 32], [1, 5, 30, 31, 32], [1, 5, 7, 8, 30, 31, 32], [1, 5, 10], [5], [5, 69, 70, 71], [5, 69, 70, 71], [5, 69, 70, 71], [5, 13, 14, 69, 70, 71], [5, 13, 14, 69, 70, 71, 86, 87, 88], [5, 13, 14, 69, 70, 71, 86, 87, 88], [5, 13, 14, 69, 70, 71, 86, 87, 88], [5, 13, 14, 17, 69, 70, 71, 86, 87, 88]]).bind (toKFn 1) = some kf10 := by kernel_rfl
noncomputable def kf24 : KFn := { params := [w0], res := [(.s r2)], body :=
 (.seq
 (.reg [.p (o1 boxG r0) w1, .p (o1 mvG (ctK (.int .i64 (Int.ofNat 0)))) w2])
 (.seq
 (.seq
 (.reg [.p (o1 (faddrG 4) r1) w12, .p (o1 load1G r12) w13, .p (o1 lenLG r13) w14, .p (o2 (binG (cmpB .gtr gtI)) r14 (ctK (.int .i64 (Int.ofNat 12)))) w15, .p (o1 mvG r15) w16, .g r16 false false none (o1 (faddrG 5) r1) w17, .g r16 false false none (o1 load1G r17) w18, .g r16 false false none (o1 lenLG r18) w19, .g r16 false false none (o2 (binG (cmpB .gtr gtI)) r19 (ctK (.int .i64 (Int.ofNat 12)))) w20, .p (o3 pickG r16 (ctK (.bool true)) r20) w21])
 (.cond r21
 (.seq
 (.reg [.p (o1 mvG (ctK (.int .i64 (Int.ofNat 3)))) w2])
 .ret)
 .skip))
 (.seq
 (.seq
 (.reg [.p (o1 (faddrG 4) r1) w22, .p (o1 load1G r22) w23, .p (callO 41 [r23]) w24, .p (o1 mvG r24) w3])
 (.seq
 (.reg [.p (o1 mvG r3) w25, .p (o2 (eqG eqIV true) r25 (ctK (.int .i64 (Int.ofNat 0)))) w26])
 (.cond r26
 (.seq
 (.reg [.p (o1 mvG r3) w27, .p (o1 mvG r27) w2])
 .ret)
 .skip)))
 (.seq
 (.reg [.p (o1 (loadnG 6) r1) w28, .p (callO 42 [r28]) w29, .p (buildO [.mnil, (.int .i64 (Int.ofNat 0))] [(0, 1, r29)]) w30, .p (o1 boxG r30) w31, .p (o1 mvG r31) w4])
 (.seq
 (.seq
 (.reg [.p (o1 (faddrG 4) r1) w32, .p (o1 load1G r32) w33, .p (o1 lenLG r33) w34, .p (o1 mvG (ctK (.int .i64 (Int.ofNat 0)))) w35])
 (.block 0
 (.loop
 (.seq
 (.reg [.p (o2 (binG (cmpB .lss ltI)) r35 r34) w36])
 (.seq
 (.cond r36
 .skip
 (.exit 0))
 (.seq
 (.block 1
 (.seq
 (.reg [.p (o2 (iaddrG 5) r33 r35) w37, .p (o1 (loadnG 5) r37) w38, .p (allocO [(.str 0 0), (.int .i64 (Int.ofNat 0)), (.str 0 0), .snil, .snil]) w6, .p (o2 (storeG 5) r6 r38) noW])
 (.seq
 (.reg [.p (o1 mvG r4) w39, .p (o1 (faddrG 1) r6) w40, .p (o1 (loadnG 4) r40) w41, .p (callO 43 [r39, r41, (ctK (.int .i64 (Int.ofNat 1)))]) w42, .p (o1 mvG r42) w7])
 (.seq
 (.reg [.p (o1 mvG r7) w43, .p (o2 (eqG eqIV true) r43 (ctK (.int .i64 (Int.ofNat 0)))) w44])
 (.cond r44
 (.seq
 (.reg [.p (o1 mvG r7) w45, .p (o1 mvG r45) w2])
 .ret)
 .skip)))))
 (.reg [.p (o2 (binG addB) r35 (ctK (.int .i64 (Int.ofNat 1)))) w46, .p (o1 mvG r46) w35])))))))
 (.seq
 (.seq
 (.reg [.p (o1 mvG r4) w47, .p (o1 (faddrG 0) r1) w48, .p (o1 (loadnG 4) r48) w49, .p (callO 43 [r47, r49, (ctK (.int .i64 (Int.ofNat 1)))]) w50, .p (o1 mvG r50) w8])
 (.seq
 (.reg [.p (o1 mvG r8) w51, .p (o2 (eqG eqIV true) r51 (ctK (.int .i64 (Int.ofNat 0)))) w52])
 (.cond r52
 (.seq
 (.reg [.p (o1 mvG r8) w53, .p (o1 mvG r53) w2])
 .ret)
 .skip)))
 (.seq
 (.seq
 (.reg [.p (o1 mvG r4) w54, .p (o1 (faddrG 5) r1) w55, .p (o1 load1G r55) w56, .p (callO 44 [r54, r56]) w57, .p (o1 mvG r57) w9])
 (.seq
 (.reg [.p (o1 mvG r9) w58, .p (o2 (eqG eqIV true) r58 (ctK (.int .i64 (Int.ofNat 0)))) w59])
 (.cond r59
 (.seq
 (.reg [.p (o1 mvG r9) w60, .p (o1 mvG r60) w2])
 .ret)
 .skip)))
 (.seq
 (.seq
 (.reg [.p (o1 (faddrG 4) r1) w61, .p (o1 load1G r61) w62, .p (o1 lenLG r62) w63, .p (o1 mvG (ctK (.int .i64 (Int.ofNat 0)))) w64])
 (.block 2
 (.loop
 (.seq
 (.reg [.p (o2 (binG (cmpB .lss ltI)) r64 r63) w65])
 (.seq
 (.cond r65
 .skip
 (.exit 2))
 (.seq
 (.block 3
 (.seq
 (.reg [.p (o2 (iaddrG 5) r62 r64) w66, .p (o1 (loadnG 5) r66) w67, .p (allocO [(.str 0 0), (.int .i64 (Int.ofNat 0)), (.str 0 0), .snil, .snil]) w11, .p (o2 (storeG 5) r11 r67) noW])
 (.seq
 (.reg [.p (o1 (loadnG 6) r1) w68, .p (o1 (faddrG 1) r11) w69, .p (o1 (loadnG 4) r69) w70, .p (callO 45 [r68, r70]) w71, .p (o1 notG r71) w72])
 (.cond r72
 (.seq
 (.reg [.p (o1 mvG (ctK (.int .i64 (Int.ofNat 14)))) w2])
 .ret)
 .skip))))
 (.reg [.p (o2 (binG addB) r64 (ctK (.int .i64 (Int.ofNat 1)))) w73, .p (o1 mvG r73) w64])))))))
 (.seq
 (.seq
 (.reg [.p (o1 (loadnG 6) r1) w74, .p (callO 47 [r74]) w75, .p (o1 mvG r4) w76, .p (mkfnO 48 [r76] []) w77, .p (callO 46 [r75, r77]) w78])
 (.cond r78
 (.seq
 (.reg [.p (o1 mvG (ctK (.int .i64 (Int.ofNat 17)))) w2])
 .ret)
 .skip))
 (.seq
 (.reg [.p (o1 mvG (ctK (.int .i64 (Int.ofNat 0)))) w2])
 .ret)))))))))) }
theorem kf24_ok : (compFn Try.prog Try.f24 [[1], [1], [1, 4], [1, 4, 33, 34, 35], [1, 4, 33, 34, 35], [1, 4, 33, 34, 35], [1, 4], [1, 4], [1, 4], [1, 4, 62, 63, 64], [1, 4, 62, 63, 64], [1, 4, 62, 63, 64], []]).bind (toKFn 1) = some kf24 := by kernel_rfl
noncomputable def kf41 : KFn := { params := [w0], res := [(.s r2)], body :=
 (.seq
 (.reg [.p (o1 mvG (ctK (.int .i64 (Int.ofNat 0)))) w2])
 (.seq
 (.seq
 (.reg [.p (o1 mvG r0) w5, .p (o1 lenLG r5) w6, .p (o1 mvG (ctK (.int .i64 (Int.ofNat 0)))) w7])
 (.block 0
 (.loop
 (.seq
 (.reg [.p (o2 (binG (cmpB .lss ltI)) r7 r6) w8])
 (.seq
 (.cond r8
 .skip
 (.exit 0))
 (.seq
 (.block 1
 (.seq
 (.reg [.p (o1 mvG r7) w9, .p (o2 (iaddrG 5) r5 r7) w10, .p (o1 (loadnG 5) r10) w11, .p (allocO [(.str 0 0), (.int .i64 (Int.ofNat 0)), (.str 0 0), .snil, .snil]) w4, .p (o1 mvG r9) w3, .p (o2 (storeG 5) r4 r11) noW])
 (.block 2
 (.seq
 (.reg [.p (o1 (faddrG 0) r4) w13, .p (o1 load1G r13) w14, .p (callO 49 [r14]) w15, .p (o1 notG r15) w16, .p (o1 mvG r16) w17, .g r17 false false none (o1 (faddrG 0) r4) w18, .g r17 false false none (o1 load1G r18) w19, .g r17 false false none (o2 (binG addB) (ctK (.str 1 32)) r19) w20, .g r17 false false none (o2 (binG addB) r20 (ctK (.str 1 32))) w21, .g r17 false false none (callO 50 [(ctK (.str 34 961356317854820710213059487311157994386979551947476703340595819215633401072534048)), r21]) w22, .p (o3 pickG r17 (ctK (.bool true)) r22) w23, .p (o1 mvG r23) w12])
 (.cond r12
 (.seq
 (.reg [.p (o1 mvG (ctK (.int .i64 (Int.ofNat 15)))) w2])
 .ret)
 (.seq
 (.drw [.p (o1 mvG r3) w25, .p (o2 (binG (cmpB .gtr gtI)) r25 (ctK (.int .i64 (Int.ofNat 0)))) w26, .p (o1 mvG r26) w27, .g r27 true false none (o1 mvG r0) w28, .g r27 true false none (o1 mvG r3) w29, .g r27 true false none (o2 (binG subB) r29 (ctK (.int .i64 (Int.ofNat 1)))) w30, .g r27 true false none (o2 (iaddrG 5) r28 r30) w31, .g r27 true false none (o1 (faddrG 0) r31) w32, .g r27 true false none (o1 load1G r32) w33, .g r27 true false none (o1 (faddrG 0) r4) w34, .g r27 true false none (o1 load1G r34) w35, .g r27 true false none (o2 (binG (cmpB .geq geI)) r33 r35) w36, .p (o3 pickG r27 r36 (ctK (.bool false))) w37, .p (o1 mvG r37) w24] [])
 (.cond r24
 (.seq
 (.reg [.p (o1 mvG (ctK (.int .i64 (Int.ofNat 6)))) w2])
 .ret)
 .skip)))))))
 (.reg [.p (o2 (binG addB) r7 (ctK (.int .i64 (Int.ofNat 1)))) w38, .p (o1 mvG r38) w7])))))))
 (.seq
 (.reg [.p (o1 mvG (ctK (.int .i64 (Int.ofNat 0)))) w2])
 .ret))) }
theorem kf41_ok : (compFn Try.prog Try.f41 [[], [0, 5, 6, 7], [0, 5, 6, 7], [0, 5, 6, 7]]).bind (toKFn 1) = some kf41 := by kernel_rfl
noncomputable def kf49 : KFn := { params := [w0], res := [(.s r2)], body :=
 (.seq
 (.reg [.p (o1 mvG (ctK (.bool false))) w2])
 (.seq
 (.reg [.p (o1 mvG r0) w3, .p (o2 (eqG eqSV true) r3 (ctK (.str 0 0))) w4, .p (o1 mvG r4) w5, .g r5 true false none (o1 mvG r0) w6, .g r5 true false none (o1 lenSG r6) w7, .g r5 true false none (o2 (binG (cmpB .leq leI)) r7 (ctK (.int .i64 (Int.ofNat 16)))) w8, .p (o3 pickG r5 r8 (ctK (.bool false))) w9, .p (o1 mvG r9) w10, .g r10 true false none (o1 mvG r0) w11, .g r10 true false none (o2 idxG r11 (ctK (.int .i64 (Int.ofNat 0)))) w12, .g r10 true false none (callO 73 [r12]) w13, .g r10 true false none (o1 notG r13) w14, .p (o3 pickG r10 r14 (ctK (.bool false))) w15, .p (o1 mvG r15) w16, .g r16 true false none (o1 mvG r0) w17, .g r16 true false none (callO 74 [r17]) w18, .g r16 true false none (o1 mvG r0) w19, .g r16 true false none (o1 lenSG r19) w20, .g r16 true false none (o2 (eqG eqIV false) r18 r20) w21, .p (o3 pickG r16 r21 (ctK (.bool false))) w22, .p (o1 mvG r22) w2])
 .ret)) }
theorem kf49_ok : (compFn Try.prog Try.f49 []).bind (toKFn 1) = some kf49 := by kernel_rfl
noncomputable def kf73 : KFn := { params := [w0], res := [(.s r2)], body :=
 (.seq
 (.reg [.p (o1 mvG (ctK (.bool false))) w2])
 (.seq
 (.reg [.p (o1 mvG r0) w3, .p (o2 (binG (cmpB .geq geI)) r3 (ctK (.int .u8 (Int.ofNat 48)))) w4, .p (o1 mvG r4) w5, .g r5 true false none (o1 mvG r0) w6, .g r5 true false none (o2 (binG (cmpB .leq leI)) r6 (ctK (.int .u8 (Int.ofNat 57)))) w7, .p (o3 pickG r5 r7 (ctK (.bool false))) w8, .p (o1 mvG r8) w2])
 .ret)) }
theorem kf73_ok : (compFn Try.prog Try.f73 []).bind (toKFn 1) = some kf73 := by kernel_rfl
noncomputable def kf74 : KFn := { params := [w0], res := [(.s r2)], body :=
 (.seq
 (.reg [.p (o1 mvG (ctK (.int .i64 (Int.ofNat 0)))) w2])
 (.seq
 (.reg [.p (o1 mvG r0) w3, .p (callO 87 [r3, (ctK (.fn 88 [] []))]) w4, .p (o1 mvG r4) w2])
 .ret)) }
theorem kf74_ok : (compFn Try.prog Try.f74 []).bind (toKFn 1) = some kf74 := by kernel_rfl
noncomputable def kf87 : KFn := { params := [w0, w1], res := [(.s r4)], body :=
 (.seq
 (.reg [.p (o1 mvG (ctK (.int .i64 (Int.ofNat 0)))) w4])
 (.seq
 (.seq
 (.reg [.p (o1 mvG r0) w6, .p (o1 rngSG r6) w7])
 (.block 0
 (.loop
 (.seq
 (.reg [.p (o1 nextSG r7) w8, .p (o1 (extG 0) r8) w9])
 (.seq
 (.cond r9
 .skip
 (.exit 0))
 (.block 1
 (.seq
 (.reg [.p (o1 (extG 1) r8) w10, .p (o1 mvG r10) w5])
 (.seq
 (.reg [.p (o1 mvG r1) w11, .p (o1 mvG r0) w12, .p (o1 mvG r5) w13, .p (o2 idxG r12 r13) w14, .p (callvO r11 [r14]) w15, .p (o1 notG r15) w16])
 (.cond r16
 (.seq
 (.reg [.p (o1 mvG r5) w17, .p (o1 mvG r17) w4])
 .ret)
 .skip)))))))))
 (.seq
 (.reg [.p (o1 mvG r0) w18, .p (o1 lenSG r18) w19, .p (o1 mvG r19) w4])
 .ret))) }
theorem kf87_ok : (compFn Try.prog Try.f87 [[0], [0, 1, 7], [0, 1, 7, 8]]).bind (toKFn 2) = some kf87 := by kernel_rfl
noncomputable def kf88 : KFn := { params := [w0], res := [(.s r2)], body :=
 (.seq
 (.reg [.p (o1 mvG (ctK (.bool false))) w2])
 (.seq
 (.reg [.p (o1 mvG r0) w3, .p (callO 89 [r3]) w4, .p (o1 mvG r4) w5, .g r5 false false none (o1 mvG r0) w6, .g r5 false false none (callO 73 [r6]) w7, .p (o3 pickG r5 (ctK (.bool true)) r7) w8, .p (o1 mvG r8) w2])
 .ret)) }
theorem kf88_ok : (compFn Try.prog Try.f88 []).bind (toKFn 1) = some kf88 := by kernel_rfl
noncomputable def kf89 : KFn := { params := [w0], res := [(.s r2)], body :=
 (.seq
 (.reg [.p (o1 mvG (ctK (.bool false))) w2])
 (.seq
 (.reg [.p (o1 mvG r0) w3, .p (o2 (eqG eqIV false) r3 (ctK (.int .u8 (Int.ofNat 95)))) w4, .p (o1 mvG r4) w5, .g r5 false false none (o1 mvG r0) w6, .g r5 false false none (o2 (binG (slowBin .or)) r6 (ctK (.int .u8 (Int.ofNat 32)))) w7, .g r5 false false none (o2 (binG (cmpB .geq geI)) r7 (ctK (.int .u8 (Int.ofNat 97)))) w8, .g r5 false false none (o1 mvG r8) w9, .g r9 true false none (o1 mvG r0) w10, .g r9 true false none (o2 (binG (slowBin .or)) r10 (ctK (.int .u8 (Int.ofNat 32)))) w11, .g r9 true false none (o2 (binG (cmpB .leq leI)) r11 (ctK (.int .u8 (Int.ofNat 122)))) w12, .g r5 false false none (o3 pickG r9 r12 (ctK (.bool false))) w13, .p (o3 pickG r5 (ctK (.bool true)) r13) w14, .p (o1 mvG r14) w2])
 .ret)) }
theorem kf89_ok : (compFn Try.prog Try.f89 []).bind (toKFn 1) = some kf89 := by kernel_rfl
noncomputable def kf42 : KFn := { params := [w0], res := [(.s r2)], body :=
 (.seq
 (.reg [.p (o1 boxG r0) w1, .p (o1 mvG (ctK .mnil)) w2])
 (.seq
 (.reg [.p mkmapO w6, .p (o1 mvG r6) w3])
 (.seq
 (.seq
 (.reg [.p (o1 (faddrG 4) r1) w7, .p (o1 load1G r7) w8, .p (o1 lenLG r8) w9, .p (o1 mvG (ctK (.int .i64 (Int.ofNat 0)))) w10])
 (.block 0
 (.loop
 (.seq
 (.reg [.p (o2 (binG (cmpB .lss ltI)) r10 r9) w11])
 (.seq
 (.cond r11
 .skip
 (.exit 0))
 (.seq
 (.block 1
 (.seq
 (.reg [.p (o2 (iaddrG 5) r8 r10) w12, .p (o1 (loadnG 5) r12) w13, .p (allocO [(.str 0 0), (.int .i64 (Int.ofNat 0)), (.str 0 0), .snil, .snil]) w5, .p (o2 (storeG 5) r5 r13) noW])
 (.reg [.p (o1 mvG r3) w14, .p (o1 (faddrG 0) r5) w15, .p (o1 load1G r15) w16, .p (o1 (faddrG 1) r5) w17, .p (o1 (loadnG 4) r17) w18, .p (o3 (mupdG (.one .s)) r14 r16 r18) noW])))
 (.reg [.p (o2 (binG addB) r10 (ctK (.int .i64 (Int.ofNat 1)))) w19, .p (o1 mvG r19) w10])))))))
 (.seq
 (.reg [.p (o1 mvG r3) w20, .p (o1 mvG r20) w2])
 .ret)))) }
theorem kf42_ok : (compFn Try.prog Try.f42 [[3], [3, 8, 9, 10], [3, 8, 9, 10], [3, 8, 9, 10]]).bind (toKFn 1) = some kf42 := by kernel_rfl
noncomputable def kf43 : KFn := { params := [w0, w1, w2], res := [(.s r6)], body :=
 (.seq
 (.reg [.p (o1 boxG r1) w4, .p (o1 mvG (ctK (.int .i64 (Int.ofNat 0)))) w6])
 (.seq
 (.reg [.p (o1 mvG r0) w14, .p (o1 nilckG r14) w15, .p (o1 (faddrG 1) r15) w16, .p (o1 load1G r16) w17, .p (o2 (binG addB) r17 (ctK (.int .i64 (Int.ofNat 1)))) w18, .p (o1 nilckG r14) w19, .p (o1 (faddrG 1) r19) w20, .p (o2 (storeG 1) r20 r18) noW])
 (.seq
 (.drw [.p (o1 mvG r0) w22, .p (o1 nilckG r22) w23, .p (o1 (faddrG 0) r23) w24, .p (o1 load1G r24) w25, .p (o1 (faddrG 1) r4) w26, .p (o1 load1G r26) w27, .p (o2 (lookupG (.one .s) (.agg [(.int .i64 (Int.ofNat 0)), (.str 0 0), .snil, .snil]) true) r25 r27) w28, .p (o1 mvG r28) w21, .p (o1 (extG 0) r21) w29, .p (o1 (extG 1) r21) w30, .p (allocO [(.int .i64 (Int.ofNat 0)), (.str 0 0), .snil, .snil]) w7, .p (o2 (storeG 4) r7 r29) noW, .p (o1 mvG r30) w8] [])
 (.seq
 (.reg [.p (o1 (faddrG 0) r4) w31, .p (o1 load1G r31) w32, .p (o2 (eqG eqIV false) r32 (ctK (.int .i64 (Int.ofNat 7)))) w33, .p (o1 mvG r33) w34, .g r34 false false none (o1 (faddrG 0) r4) w35, .g r34 false false none (o1 load1G r35) w36, .g r34 false false none (o2 (eqG eqIV false) r36 (ctK (.int .i64 (Int.ofNat 8)))) w37, .p (o3 pickG r34 (ctK (.bool true)) r37) w38, .p (o1 mvG r38) w9])
 (.seq
 (.block 0
 (.seq
 (.reg [.p (o1 mvG r0) w40, .p (o1 nilckG r40) w41, .p (o1 (faddrG 1) r41) w42, .p (o1 load1G r42) w43, .p (o2 (binG (cmpB .gtr gtI)) r43 (ctK (.int .i64 (Int.ofNat 400)))) w44, .p (o1 mvG r44) w39])
 (.cond r39
 (.seq
 (.reg [.p (o1 mvG (ctK (.int .i64 (Int.ofNat 3)))) w6])
 .ret)
 (.seq
 (.reg [.p (o1 mvG r2) w46, .p (o2 (binG (cmpB .gtr gtI)) r46 (ctK (.int .i64 (Int.ofNat 12)))) w47, .p (o1 mvG r47) w45])
 (.cond r45
 (.seq
 (.reg [.p (o1 mvG (ctK (.int .i64 (Int.ofNat 13)))) w6])
 .ret)
 (.seq
 (.reg [.p (o1 (faddrG 0) r4) w49, .p (o1 load1G r49) w50, .p (o2 (binG (cmpB .lss ltI)) r50 (ctK (.int .i64 (Int.ofNat 1)))) w51, .p (o1 mvG r51) w52, .g r52 false false none (o1 (faddrG 0) r4) w53, .g r52 false false none (o1 load1G r53) w54, .g r52 false false none (o2 (binG (cmpB .gtr gtI)) r54 (ctK (.int .i64 (Int.ofNat 9)))) w55, .p (o3 pickG r52 (ctK (.bool true)) r55) w56, .p (o1 mvG r56) w48])
 (.cond r48
 (.seq
 (.reg [.p (o1 mvG (ctK (.int .i64 (Int.ofNat 1)))) w6])
 .ret)
 (.seq
 (.drw [.p (o1 (faddrG 3) r4) w58, .p (o1 load1G r58) w59, .p (o1 lenLG r59) w60, .p (o1 (loadnG 4) r4) w61, .m (callO 68 [r61]) w62 (some [58]), .p (o2 (eqG eqIV true) r60 r62) w63, .p (o1 mvG r63) w64, .g r64 false false none (o1 (faddrG 1) r4) w65, .g r64 false false none (o1 load1G r65) w66, .g r64 false false none (o2 (eqG eqSV true) r66 (ctK (.str 0 0))) w67, .g r64 false false none (o1 mvG r67) w68, .g r68 true false none (o1 (faddrG 0) r4) w69, .g r68 true false none (o1 load1G r69) w70, .g r68 true false none (o2 (eqG eqIV true) r70 (ctK (.int .i64 (Int.ofNat 9)))) w71, .g r64 false false none (o3 pickG r68 r71 (ctK (.bool false))) w72, .p (o3 pickG r64 (ctK (.bool true)) r72) w73, .p (o1 mvG r73) w74, .g r74 false false none (o1 (faddrG 2) r4) w75, .g r74 false false none (o1 load1G r75) w76, .g r74 false false none (o1 lenLG r76) w77, .g r74 false false none (o2 (binG (cmpB .gtr gtI)) r77 (ctK (.int .i64 (Int.ofNat 0)))) w78, .g r74 false false none (o1 mvG r78) w79, .g r79 true false none (o1 mvG r9) w80, .g r79 true false none (o1 notG r80) w81, .g r74 false false none (o3 pickG r79 r81 (ctK (.bool false))) w82, .p (o3 pickG r74 (ctK (.bool true)) r82) w83, .p (o1 mvG r83) w57] [])
 (.cond r57
 (.seq
 (.reg [.p (o1 mvG (ctK (.int .i64 (Int.ofNat 12)))) w6])
 .ret)
 (.seq
 (.reg [.p (o1 (faddrG 0) r4) w85, .p (o1 load1G r85) w86, .p (o2 (eqG eqIV false) r86 (ctK (.int .i64 (Int.ofNat 9)))) w87, .p (o1 mvG r87) w88, .g r88 true false none (o1 mvG r8) w89, .g r88 true false none (o1 notG r89) w90, .p (o3 pickG r88 r90 (ctK (.bool false))) w91, .p (o1 mvG r91) w84])
 (.cond r84
 (.seq
 (.reg [.p (o1 mvG (ctK (.int .i64 (Int.ofNat 15)))) w6])
 .ret)
 .skip)))))))))))
 (.seq
 (.seq
 (.reg [.p (o1 (loadnG 4) r4) w92, .p (callO 69 [r92]) w93, .p (o1 mvG r93) w10])
 (.seq
 (.reg [.p (o1 mvG r10) w94, .p (o2 (eqG eqIV true) r94 (ctK (.int .i64 (Int.ofNat 0)))) w95])
 (.cond r95
 (.seq
 (.reg [.p (o1 mvG r10) w96, .p (o1 mvG r96) w6])
 .ret)
 .skip)))
 (.seq
 (.seq
 (.reg [.p (o1 (faddrG 3) r4) w97, .p (o1 load1G r97) w98, .p (o1 lenLG r98) w99, .p (o1 mvG (ctK (.int .i64 (Int.ofNat 0)))) w100])
 (.block 1
 (.loop
 (.seq
 (.reg [.p (o2 (binG (cmpB .lss ltI)) r100 r99) w101])
 (.seq
 (.cond r101
 .skip
 (.exit 1))
 (.seq
 (.block 2
 (.seq
 (.reg [.p (o2 (iaddrG 4) r98 r100) w102, .p (o1 (loadnG 4) r102) w103, .p (allocO [(.int .i64 (Int.ofNat 0)), (.str 0 0), .snil, .snil]) w12, .p (o2 (storeG 4) r12 r103) noW])
 (.seq
 (.reg [.p (o1 mvG r0) w104, .p (o1 (loadnG 4) r12) w105, .p (o1 mvG r2) w106, .p (o2 (binG addB) r106 (ctK (.int .i64 (Int.ofNat 1)))) w107, .p (callO 43 [r104, r105, r107]) w108, .p (o1 mvG r108) w13])
 (.seq
 (.reg [.p (o1 mvG r13) w109, .p (o2 (eqG eqIV true) r109 (ctK (.int .i64 (Int.ofNat 0)))) w110])
 (.cond r110
 (.seq
 (.reg [.p (o1 mvG r13) w111, .p (o1 mvG r111) w6])
 .ret)
 .skip)))))
 (.reg [.p (o2 (binG addB) r100 (ctK (.int .i64 (Int.ofNat 1)))) w112, .p (o1 mvG r112) w100])))))))
 (.seq
 (.reg [.p (o1 mvG (ctK (.int .i64 (Int.ofNat 0)))) w6])
 .ret)))))))) }
theorem kf43_ok : (compFn Try.prog Try.f43 [[0, 2, 4], [0, 2, 4], [], [0, 2, 98, 99, 100], [0, 2, 98, 99, 100], [0, 2, 98, 99, 100]]).bind (toKFn 3) = some kf43 := by kernel_rfl
noncomputable def kf68 : KFn := { params := [w0], res := [(.s r2)], body :=
 (.seq
 (.reg [.p (o1 boxG r0) w1, .p (o1 mvG (ctK (.int .i64 (Int.ofNat 0)))) w2])
 (.seq
 (.seq
 (.reg [.p (o1 (faddrG 0) r1) w3, .p (o1 load1G r3) w4])
 (.block 0
 (.seq
 (.seq
 (.reg [.p (o2 (eqG eqIV false) r4 (ctK (.int .i64 (Int.ofNat 4)))) w6, .p (o1 mvG r6) w5])
 (.cond r5
 .skip
 (.seq
 (.reg [.p (o2 (eqG eqIV false) r4 (ctK (.int .i64 (Int.ofNat 5)))) w7, .p (o1 mvG r7) w5])
 (.cond r5
 .skip
 (.reg [.p (o2 (eqG eqIV false) r4 (ctK (.int .i64 (Int.ofNat 6)))) w8, .p (o1 mvG r8) w5])))))
 (.cond r5
 (.seq
 (.reg [.p (o1 mvG (ctK (.int .i64 (Int.ofNat 1)))) w2])
 .ret)
 (.seq
 (.seq
 (.reg [.p (o2 (eqG eqIV false) r4 (ctK (.int .i64 (Int.ofNat 7)))) w10, .p (o1 mvG r10) w9])
 (.cond r9
 .skip
 (.reg [.p (o2 (eqG eqIV false) r4 (ctK (.int .i64 (Int.ofNat 8)))) w11, .p (o1 mvG r11) w9])))
 (.cond r9
 (.seq
 (.reg [.p (o1 (faddrG 2) r1) w12, .p (o1 load1G r12) w13, .p (o1 lenLG r13) w14, .p (o1 mvG r14) w2])
 .ret)
 .skip))))))
 (.seq
 (.reg [.p (o1 mvG (ctK (.int .i64 (Int.ofNat 0)))) w2])
 .ret))) }
theorem kf68_ok : (compFn Try.prog Try.f68 [[], [1, 4, 5], [1, 9]]).bind (toKFn 1) = some kf68 := by kernel_rfl
noncomputable def kf69 : KFn := { params := [w0], res := [(.s r2)], body :=
 (.seq
 (.reg [.p (o1 boxG r0) w1, .p (o1 mvG (ctK (.int .i64 (Int.ofNat 0)))) w2])
 (.seq
 (.seq
 (.reg [.p (o1 (faddrG 2) r1) w5, .p (o1 load1G r5) w6, .p (o1 lenLG r6) w7, .p (o2 (binG (cmpB .gtr gtI)) r7 (ctK (.int .i64 (Int.ofNat 8)))) w8])
 (.cond r8
 (.seq
 (.reg [.p (o1 mvG (ctK (.int .i64 (Int.ofNat 3)))) w2])
 .ret)
 .skip))
 (.seq
 (.seq
 (.reg [.p (o1 (faddrG 2) r1) w9, .p (o1 load1G r9) w10, .p (o1 lenLG r10) w11, .p (o1 mvG (ctK (.int .i64 (Int.ofNat 0)))) w12])
 (.block 0
 (.loop
 (.seq
 (.reg [.p (o2 (binG (cmpB .lss ltI)) r12 r11) w13])
 (.seq
 (.cond r13
 .skip
 (.exit 0))
 (.seq
 (.block 1
 (.seq
 (.reg [.p (o1 mvG r12) w14, .p (o2 (iaddrG 1) r10 r12) w15, .p (o1 load1G r15) w16, .p (o1 mvG r14) w3, .p (o1 mvG r16) w4])
 (.block 2
 (.seq
 (.reg [.p (o1 mvG r4) w18, .p (callO 49 [r18]) w19, .p (o1 notG r19) w20, .p (o1 mvG r20) w17])
 (.cond r17
 (.seq
 (.reg [.p (o1 mvG (ctK (.int .i64 (Int.ofNat 15)))) w2])
 .ret)
 (.seq
 (.reg [.p (o1 mvG r3) w22, .p (o2 (binG (cmpB .gtr gtI)) r22 (ctK (.int .i64 (Int.ofNat 0)))) w23, .p (o1 mvG r23) w24, .g r24 true false none (o1 (faddrG 2) r1) w25, .g r24 true false none (o1 load1G r25) w26, .g r24 true false none (o1 mvG r3) w27, .g r24 true false none (o2 (binG subB) r27 (ctK (.int .i64 (Int.ofNat 1)))) w28, .g r24 true false none (o2 (iaddrG 1) r26 r28) w29, .g r24 true false none (o1 load1G r29) w30, .g r24 true false none (o1 mvG r4) w31, .g r24 true false none (o2 (binG (cmpB .geq geI)) r30 r31) w32, .p (o3 pickG r24 r32 (ctK (.bool false))) w33, .p (o1 mvG r33) w21])
 (.cond r21
 (.seq
 (.reg [.p (o1 mvG (ctK (.int .i64 (Int.ofNat 6)))) w2])
 .ret)
 .skip)))))))
 (.reg [.p (o2 (binG addB) r12 (ctK (.int .i64 (Int.ofNat 1)))) w34, .p (o1 mvG r34) w12])))))))
 (.seq
 (.seq
 (.reg [.p (o1 (faddrG 0) r1) w35, .p (o1 load1G r35) w36, .p (o2 (eqG eqIV false) r36 (ctK (.int .i64 (Int.ofNat 8)))) w37, .p (o1 mvG r37) w38, .g r38 true false none (o1 (faddrG 2) r1) w39, .g r38 true false none (o1 load1G r39) w40, .g r38 true false none (o1 lenLG r40) w41, .g r38 true false none (o2 (eqG eqIV false) r41 (ctK (.int .i64 (Int.ofNat 0)))) w42, .p (o3 pickG r38 r42 (ctK (.bool false))) w43])
 (.cond r43
 (.seq
 (.reg [.p (o1 mvG (ctK (.int .i64 (Int.ofNat 12)))) w2])
 .ret)
 .skip))
 (.seq
 (.reg [.p (o1 mvG (ctK (.int .i64 (Int.ofNat 0)))) w2])
 .ret))))) }
theorem kf69_ok : (compFn Try.prog Try.f69 [[1], [1], [1, 10, 11, 12], [1, 10, 11, 12], [1, 10, 11, 12], []]).bind (toKFn 1) = some kf69 := by kernel_rfl
noncomputable def kf44 : KFn := { params := [w0, w1], res := [(.s r4)], body :=
 (.seq
 (.reg [.p (o1 mvG (ctK (.int .i64 (Int.ofNat 0)))) w4])
 (.seq
 (.seq
 (.reg [.p (o1 mvG r1) w8, .p (o1 lenLG r8) w9, .p (o1 mvG (ctK (.int .i64 (Int.ofNat 0)))) w10])
 (.block 0
 (.loop
 (.seq
 (.reg [.p (o2 (binG (cmpB .lss ltI)) r10 r9) w11])
 (.seq
 (.cond r11
 .skip
 (.exit 0))
 (.seq
 (.block 1
 (.seq
 (.reg [.p (o1 mvG r10) w12, .p (o2 (iaddrG 6) r8 r10) w13, .p (o1 (loadnG 6) r13) w14, .p (allocO [(.str 0 0), .snil, (.int .i64 (Int.ofNat 0)), (.str 0 0), .snil, .snil]) w6, .p (o1 mvG r12) w5, .p (o2 (storeG 6) r6 r14) noW])
 (.seq
 (.block 2
 (.seq
 (.reg [.p (o1 (faddrG 0) r6) w16, .p (o1 load1G r16) w17, .p (callO 49 [r17]) w18, .p (o1 notG r18) w19, .p (o1 mvG r19) w20, .g r20 false false none (o1 (faddrG 0) r6) w21, .g r20 false false none (o1 load1G r21) w22, .g r20 false false none (callO 26 [r22]) w23, .p (o3 pickG r20 (ctK (.bool true)) r23) w24, .p (o1 mvG r24) w15])
 (.cond r15
 (.seq
 (.reg [.p (o1 mvG (ctK (.int .i64 (Int.ofNat 15)))) w4])
 .ret)
 (.seq
 (.drw [.p (o1 mvG r5) w26, .p (o2 (binG (cmpB .gtr gtI)) r26 (ctK (.int .i64 (Int.ofNat 0)))) w27, .p (o1 mvG r27) w28, .g r28 true false none (o1 mvG r1) w29, .g r28 true false none (o1 mvG r5) w30, .g r28 true false none (o2 (binG subB) r30 (ctK (.int .i64 (Int.ofNat 1)))) w31, .g r28 true false none (o2 (iaddrG 6) r29 r31) w32, .g r28 true false none (o1 (faddrG 0) r32) w33, .g r28 true false none (o1 load1G r33) w34, .g r28 true false none (o1 (faddrG 0) r6) w35, .g r28 true false none (o1 load1G r35) w36, .g r28 true false none (o2 (binG (cmpB .geq geI)) r34 r36) w37, .p (o3 pickG r28 r37 (ctK (.bool false))) w38, .p (o1 mvG r38) w25] [])
 (.cond r25
 (.seq
 (.reg [.p (o1 mvG (ctK (.int .i64 (Int.ofNat 6)))) w4])
 .ret)
 (.seq
 (.reg [.p (o1 (faddrG 1) r6) w40, .p (o1 load1G r40) w41, .p (o1 lenLG r41) w42, .p (o2 (binG (cmpB .gtr gtI)) r42 (ctK (.int .i64 (Int.ofNat 4)))) w43, .p (o1 mvG r43) w39])
 (.cond r39
 (.seq
 (.reg [.p (o1 mvG (ctK (.int .i64 (Int.ofNat 18)))) w4])
 .ret)
 .skip)))))))
 (.seq
 (.drw [.p (o1 mvG r0) w44, .p (o1 (faddrG 1) r6) w45, .p (o1 load1G r45) w46, .m (callO 25 [r46]) w47 none, .p (o1 (faddrG 2) r6) w48, .p (o1 (loadnG 4) r48) w49, .p (bslO 4 1 [(.int .i64 (Int.ofNat 0)), (.str 0 0), .snil, .snil] [(0, 4, r49)]) w50, .p (o2 (appG 4) r47 r50) w51, .m (callO 70 [r44, r51]) w52 (some []), .p (o1 mvG r52) w7] [])
 (.seq
 (.reg [.p (o1 mvG r7) w53, .p (o2 (eqG eqIV true) r53 (ctK (.int .i64 (Int.ofNat 0)))) w54])
 (.cond r54
 (.seq
 (.reg [.p (o1 mvG r7) w55, .p (o1 mvG r55) w4])
 .ret)
 .skip))))))
 (.reg [.p (o2 (binG addB) r10 (ctK (.int .i64 (Int.ofNat 1)))) w56, .p (o1 mvG r56) w10])))))))
 (.seq
 (.reg [.p (o1 mvG (ctK (.int .i64 (Int.ofNat 0)))) w4])
 .ret))) }
theorem kf44_ok : (compFn Try.prog Try.f44 [[], [0, 1, 8, 9, 10], [0, 1, 8, 9, 10], [0, 1, 8, 9, 10], [0, 1, 6, 8, 9, 10]]).bind (toKFn 2) = some kf44 := by kernel_rfl
noncomputable def kf26 : KFn := { params := [w0], res := [(.s r2)], body :=
 (.seq
 (.reg [.p (o1 mvG (ctK (.bool false))) w2])
 (.seq
 (.reg [.p (o1 mvG r0) w3, .p (callO 49 [r3]) w4, .p (o1 mvG r4) w5, .g r5 true false none (o1 mvG r0) w6, .g r5 true false none (o2 (binG addB) (ctK (.str 1 32)) r6) w7, .g r5 true false none (o2 (binG addB) r7 (ctK (.str 1 32))) w8, .g r5 true false none (callO 50 [(ctK (.str 91 178686683887446287100313889210838612883293650169161782699781515008887049184836398825504385070224074575899429074951214181473750552558099404030661262664651392350738735132031991416282501624620935436484047697889576312204320)), r8]) w9, .p (o3 pickG r5 r9 (ctK (.bool false))) w10, .p (o1 mvG r10) w2])
 .ret)) }
theorem kf26_ok : (compFn Try.prog Try.f26 []).bind (toKFn 1) = some kf26 := by kernel_rfl
noncomputable def kf25 : KFn := { params := [w0], res := [(.s r2)], body :=
 (.seq
 (.reg [.p (o1 mvG (ctK .snil)) w2])
 (.seq
 (.seq
 (.reg [.p (o1 mvG r0) w3, .p (o2 (eqG (slowEq (.one .l)) false) r3 (ctK .snil)) w4])
 (.cond r4
 (.seq
 (.reg [.p (o1 mvG (ctK .snil)) w2])
 .ret)
 .skip))
 (.seq
 (.reg [.p (bslO 4 0 [] []) w5, .p (o1 mvG r0) w6, .p (o2 (appG 4) r5 r6) w7, .p (o1 mvG r7) w2])
 .ret))) }
theorem kf25_ok : (compFn Try.prog Try.f25 [[0]]).bind (toKFn 1) = some kf25 := by kernel_rfl
noncomputable def kf70 : KFn := { params := [w0, w1], res := [(.s r4)], body :=
 (.seq
 (.reg [.p (o1 mvG (ctK (.int .i64 (Int.ofNat 0)))) w4])
 (.seq
 (.seq
 (.reg [.p (o1 mvG r1) w8, .p (o1 lenLG r8) w9, .p (o1 mvG (ctK (.int .i64 (Int.ofNat 0)))) w10])
 (.block 0
 (.loop
 (.seq
 (.reg [.p (o2 (binG (cmpB .lss ltI)) r10 r9) w11])
 (.seq
 (.cond r11
 .skip
 (.exit 0))
 (.seq
 (.block 1
 (.seq
 (.reg [.p (o2 (iaddrG 4) r8 r10) w12, .p (o1 (loadnG 4) r12) w13, .p (allocO [(.int .i64 (Int.ofNat 0)), (.str 0 0), .snil, .snil]) w6, .p (o2 (storeG 4) r6 r13) noW])
 (.seq
 (.reg [.p (o1 mvG r0) w14, .p (o1 (loadnG 4) r6) w15, .p (callO 43 [r14, r15, (ctK (.int .i64 (Int.ofNat 1)))]) w16, .p (o1 mvG r16) w7])
 (.seq
 (.reg [.p (o1 mvG r7) w17, .p (o2 (eqG eqIV true) r17 (ctK (.int .i64 (Int.ofNat 0)))) w18])
 (.cond r18
 (.seq
 (.reg [.p (o1 mvG r7) w19, .p (o1 mvG r19) w4])
 .ret)
 .skip)))))
 (.reg [.p (o2 (binG addB) r10 (ctK (.int .i64 (Int.ofNat 1)))) w20, .p (o1 mvG r20) w10])))))))
 (.seq
 (.reg [.p (o1 mvG (ctK (.int .i64 (Int.ofNat 0)))) w4])
 .ret))) }
theorem kf70_ok : (compFn Try.prog Try.f70 [[], [0, 8, 9, 10], [0, 8, 9, 10], [0, 8, 9, 10]]).bind (toKFn 2) = some kf70 := by kernel_rfl
noncomputable def kf45 : KFn := { params := [w0, w1], res := [(.s r4)], body :=
 (.seq
 (.reg [.p (o1 boxG r0) w2, .p (o1 boxG r1) w3, .p (o1 mvG (ctK (.bool false))) w4])
 (.seq
 (.reg [.p (o1 (loadnG 6) r2) w11, .p (callO 42 [r11]) w12, .p (buildO [.mnil, (.int .i64 (Int.ofNat 0))] [(0, 1, r12)]) w13, .p (o1 boxG r13) w14, .p (o1 mvG r14) w5])
 (.seq
 (.seq
 (.reg [.p (o1 (faddrG 4) r2) w15, .p (o1 load1G r15) w16, .p (o1 lenLG r16) w17, .p (o1 mvG (ctK (.int .i64 (Int.ofNat 0)))) w18])
 (.block 0
 (.loop
 (.seq
 (.reg [.p (o2 (binG (cmpB .lss ltI)) r18 r17) w19])
 (.seq
 (.cond r19
 .skip
 (.exit 0))
 (.seq
 (.block 1
 (.seq
 (.reg [.p (o2 (iaddrG 5) r16 r18) w20, .p (o1 (loadnG 5) r20) w21, .p (allocO [(.str 0 0), (.int .i64 (Int.ofNat 0)), (.str 0 0), .snil, .snil]) w7, .p (o2 (storeG 5) r7 r21) noW])
 (.seq
 (.reg [.p (o1 mvG r5) w22, .p (o1 (faddrG 1) r7) w23, .p (o1 (loadnG 4) r23) w24, .p (callO 43 [r22, r24, (ctK (.int .i64 (Int.ofNat 1)))]) w25, .p (o2 (eqG eqIV true) r25 (ctK (.int .i64 (Int.ofNat 0)))) w26])
 (.cond r26
 (.seq
 (.reg [.p (o1 mvG (ctK (.bool false))) w4])
 .ret)
 .skip))))
 (.reg [.p (o2 (binG addB) r18 (ctK (.int .i64 (Int.ofNat 1)))) w27, .p (o1 mvG r27) w18])))))))
 (.seq
 (.reg [.p (o1 mvG r5) w28, .p (o1 nilckG r28) w29, .p (o1 (faddrG 1) r29) w30, .p (o2 (storeG 1) r30 (ctK (.int .i64 (Int.ofNat 0)))) noW])
 (.seq
 (.seq
 (.reg [.p (o1 mvG r5) w31, .p (o1 (loadnG 4) r3) w32, .p (callO 43 [r31, r32, (ctK (.int .i64 (Int.ofNat 1)))]) w33, .p (o2 (eqG eqIV true) r33 (ctK (.int .i64 (Int.ofNat 0)))) w34])
 (.cond r34
 (.seq
 (.reg [.p (o1 mvG (ctK (.bool false))) w4])
 .ret)
 .skip))
 (.seq
 (.reg [.p mkmapO w35, .p (o1 mvG r35) w8])
 (.seq
 (.seq
 (.reg [.p (o1 (faddrG 4) r2) w36, .p (o1 load1G r36) w37, .p (o1 lenLG r37) w38, .p (o1 mvG (ctK (.int .i64 (Int.ofNat 0)))) w39])
 (.block 2
 (.loop
 (.seq
 (.reg [.p (o2 (binG (cmpB .lss ltI)) r39 r38) w40])
 (.seq
 (.cond r40
 .skip
 (.exit 2))
 (.seq
 (.block 3
 (.seq
 (.reg [.p (o1 (faddrG 4) r2) w41, .p (o1 load1G r41) w42, .p (o1 lenLG r42) w43, .p (o1 mvG (ctK (.int .i64 (Int.ofNat 0)))) w44])
 (.block 4
 (.loop
 (.seq
 (.reg [.p (o2 (binG (cmpB .lss ltI)) r44 r43) w45])
 (.seq
 (.cond r45
 .skip
 (.exit 4))
 (.seq
 (.block 5
 (.seq
 (.reg [.p (o2 (iaddrG 5) r42 r44) w46, .p (o1 (loadnG 5) r46) w47, .p (allocO [(.str 0 0), (.int .i64 (Int.ofNat 0)), (.str 0 0), .snil, .snil]) w10, .p (o2 (storeG 5) r10 r47) noW])
 (.drw [.p (o1 mvG r8) w48, .p (o1 (faddrG 0) r10) w49, .p (o1 load1G r49) w50, .p (o1 mvG r8) w51, .p (o1 (faddrG 0) r10) w52, .p (o1 load1G r52) w53, .p (o2 (lookupG (.one .s) (.bool false) false) r51 r53) w54, .p (o1 mvG r54) w55, .g r55 false false none (o1 (faddrG 1) r10) w56, .g r55 false false none (o1 (loadnG 4) r56) w57, .g r55 false false none (o1 mvG r8) w58, .g r55 false true (some [49]) (callO 71 [r57, r58, (ctK (.int .i64 (Int.ofNat 1)))]) w59, .p (o3 pickG r55 (ctK (.bool true)) r59) w60, .p (o3 (mupdG (.one .s)) r48 r50 r60) noW] [])))
 (.reg [.p (o2 (binG addB) r44 (ctK (.int .i64 (Int.ofNat 1)))) w61, .p (o1 mvG r61) w44]))))))))
 (.reg [.p (o2 (binG addB) r39 (ctK (.int .i64 (Int.ofNat 1)))) w62, .p (o1 mvG r62) w39])))))))
 (.seq
 (.reg [.p (o1 (loadnG 4) r3) w63, .p (o1 mvG r8) w64, .p (callO 71 [r63, r64, (ctK (.int .i64 (Int.ofNat 1)))]) w65, .p (o1 mvG r65) w4])
 .ret)))))))) }
theorem kf45_ok : (compFn Try.prog Try.f45 [[2, 3, 5], [2, 3, 5, 16, 17, 18], [2, 3, 5, 16, 17, 18], [2, 3, 5, 16, 17, 18], [2, 3], [3, 8], [2, 3, 8, 38, 39], [2, 3, 8, 38, 39], [2, 3, 8, 38, 39], [2, 3, 8, 38, 39, 42, 43, 44], [2, 3, 8, 38, 39, 42, 43, 44], [2, 3, 8, 38, 39, 42, 43, 44]]).bind (toKFn 2) = some kf45 := by kernel_rfl
noncomputable def kf71 : KFn := { params := [w0, w1, w2], res := [(.s r6)], body :=
 (.seq
 (.reg [.p (o1 boxG r0) w3, .p (o1 boxG r1) w4, .p (o1 boxG r2) w5, .p (o1 mvG (ctK (.bool false))) w6])
 (.seq
 (.seq
 (.reg [.p (o1 load1G r5) w8, .p (o2 (binG (cmpB .gtr gtI)) r8 (ctK (.int .i64 (Int.ofNat 12)))) w9])
 (.cond r9
 (.seq
 (.reg [.p (o1 mvG (ctK (.bool false))) w6])
 .ret)
 .skip))
 (.seq
 (.reg [.p (mkfnO 85 [] [r4, r5]) w10, .p (allocO [.fnil]) w7, .p (o2 (storeG 1) r7 r10) noW])
 (.seq
 (.seq
 (.reg [.p (o1 (faddrG 0) r3) w11, .p (o1 load1G r11) w12])
 (.block 0
 (.seq
 (.reg [.p (o2 (eqG eqIV false) r12 (ctK (.int .i64 (Int.ofNat 9)))) w14, .p (o1 mvG r14) w13])
 (.cond r13
 (.seq
 (.reg [.p (o1 load1G r4) w15, .p (o1 (faddrG 1) r3) w16, .p (o1 load1G r16) w17, .p (o2 (lookupG (.one .s) (.bool false) false) r15 r17) w18, .p (o1 mvG r18) w6])
 .ret)
 (.seq
 (.reg [.p (o2 (eqG eqIV false) r12 (ctK (.int .i64 (Int.ofNat 8)))) w20, .p (o1 mvG r20) w19])
 (.cond r19
 (.seq
 (.reg [.p (o1 (faddrG 3) r3) w21, .p (o1 load1G r21) w22, .p (o1 load1G r7) w23, .p (callO 46 [r22, r23]) w24, .p (o1 mvG r24) w6])
 .ret)
 (.seq
 (.reg [.p (o2 (eqG eqIV false) r12 (ctK (.int .i64 (Int.ofNat 7)))) w26, .p (o1 mvG r26) w25])
 (.cond r25
 (.seq
 (.reg [.p (o1 (faddrG 3) r3) w27, .p (o1 load1G r27) w28, .p (mkfnO 86 [] [r7]) w29, .p (callO 46 [r28, r29]) w30, .p (o1 notG r30) w31, .p (o1 mvG r31) w6])
 .ret)
 .skip))))))))
 (.seq
 (.reg [.p (o1 mvG (ctK (.bool true))) w6])
 .ret))))) }
theorem kf71_ok : (compFn Try.prog Try.f71 [[3, 4, 5], []]).bind (toKFn 3) = some kf71 := by kernel_rfl
noncomputable def kf85 : KFn := { params := [w0, w1, w2], res := [(.s r4)], body :=
 (.seq
 (.reg [.p (o1 boxG r0) w3, .p (o1 mvG (ctK (.bool false))) w4])
 (.seq
 (.reg [.p (o1 (loadnG 4) r3) w5, .p (o1 load1G r1) w6, .p (o1 load1G r2) w7, .p (o2 (binG addB) r7 (ctK (.int .i64 (Int.ofNat 1)))) w8, .p (callO 71 [r5, r6, r8]) w9, .p (o1 mvG r9) w4])
 .ret)) }
theorem kf85_ok : (compFn Try.prog Try.f85 []).bind (toKFn 3) = some kf85 := by kernel_rfl
noncomputable def kf46 : KFn := { params := [w0, w1], res := [(.s r4)], body :=
 (.seq
 (.reg [.p (o1 mvG (ctK (.bool false))) w4])
 (.seq
 (.reg [.p (o1 mvG r0) w5, .p (o1 mvG r1) w6, .p (callO 72 [r5, r6]) w7, .p (o2 (binG (cmpB .geq geI)) r7 (ctK (.int .i64 (Int.ofNat 0)))) w8, .p (o1 mvG r8) w4])
 .ret)) }
theorem kf46_ok : (compFn Try.prog Try.f46 []).bind (toKFn 2) = some kf46 := by kernel_rfl
noncomputable def kf72 : KFn := { params := [w0, w1], res := [(.s r4)], body :=
 (.seq
 (.reg [.p (o1 mvG (ctK (.int .i64 (Int.ofNat 0)))) w4])
 (.seq
 (.seq
 (.reg [.p (o1 mvG r0) w6, .p (o1 lenLG r6) w7, .p (o1 mvG (ctK (.int .i64 (Int.ofNat 0)))) w8])
 (.block 0
 (.loop
 (.seq
 (.reg [.p (o2 (binG (cmpB .lss ltI)) r8 r7) w9])
 (.seq
 (.cond r9
 .skip
 (.exit 0))
 (.seq
 (.block 1
 (.seq
 (.reg [.p (o1 mvG r8) w10, .p (o1 mvG r10) w5])
 (.seq
 (.reg [.p (o1 mvG r1) w11, .p (o1 mvG r0) w12, .p (o1 mvG r5) w13, .p (o2 (iaddrG 4) r12 r13) w14, .p (o1 (loadnG 4) r14) w15, .p (callvO r11 [r15]) w16])
 (.cond r16
 (.seq
 (.reg [.p (o1 mvG r5) w17, .p (o1 mvG r17) w4])
 .ret)
 .skip))))
 (.reg [.p (o2 (binG addB) r8 (ctK (.int .i64 (Int.ofNat 1)))) w18, .p (o1 mvG r18) w8])))))))
 (.seq
 (.reg [.p (o1 mvG (ctK (.int .i64 (Int.negSucc 0)))) w4])
 .ret))) }
theorem kf72_ok : (compFn Try.prog Try.f72 [[], [0, 1, 7, 8], [0, 1, 7, 8], [0, 1, 7, 8]]).bind (toKFn 2) = some kf72 := by kernel_rfl
noncomputable def kf86 : KFn := { params := [w0, w1], res := [(.s r3)], body :=
 (.seq
 (.reg [.p (o1 boxG r0) w2, .p (o1 mvG (ctK (.bool false))) w3])
 (.seq
 (.reg [.p (o1 load1G r1) w4, .p (o1 (loadnG 4) r2) w5, .p (callvO r4 [r5]) w6, .p (o1 notG r6) w7, .p (o1 mvG r7) w3])
 .ret)) }
theorem kf86_ok : (compFn Try.prog Try.f86 []).bind (toKFn 2) = some kf86 := by kernel_rfl
noncomputable def kf47 : KFn := { params := [w0], res := [(.s r2)], body :=
 (.seq
 (.reg [.p (o1 boxG r0) w1, .p (o1 mvG (ctK .snil)) w2])
 (.seq
 (.reg [.p (o1 mvG (ctK .snil)) w3])
 (.seq
 (.seq
 (.reg [.p (o1 (faddrG 4) r1) w8, .p (o1 load1G r8) w9, .p (o1 lenLG r9) w10, .p (o1 mvG (ctK (.int .i64 (Int.ofNat 0)))) w11])
 (.block 0
 (.loop
 (.seq
 (.reg [.p (o2 (binG (cmpB .lss ltI)) r11 r10) w12])
 (.seq
 (.cond r12
 .skip
 (.exit 0))
 (.seq
 (.block 1
 (.seq
 (.reg [.p (o2 (iaddrG 5) r9 r11) w13, .p (o1 (loadnG 5) r13) w14, .p (allocO [(.str 0 0), (.int .i64 (Int.ofNat 0)), (.str 0 0), .snil, .snil]) w5, .p (o2 (storeG 5) r5 r14) noW])
 (.reg [.p (o1 mvG r3) w15, .p (o1 (faddrG 1) r5) w16, .p (o1 (loadnG 4) r16) w17, .p (bslO 4 1 [(.int .i64 (Int.ofNat 0)), (.str 0 0), .snil, .snil] [(0, 4, r17)]) w18, .p (o2 (appG 4) r15 r18) w19, .p (o1 mvG r19) w3])))
 (.reg [.p (o2 (binG addB) r11 (ctK (.int .i64 (Int.ofNat 1)))) w20, .p (o1 mvG r20) w11])))))))
 (.seq
 (.reg [.p (o1 mvG r3) w21, .p (o1 (faddrG 0) r1) w22, .p (o1 (loadnG 4) r22) w23, .p (bslO 4 1 [(.int .i64 (Int.ofNat 0)), (.str 0 0), .snil, .snil] [(0, 4, r23)]) w24, .p (o2 (appG 4) r21 r24) w25, .p (o1 mvG r25) w3])
 (.seq
 (.seq
 (.reg [.p (o1 (faddrG 5) r1) w26, .p (o1 load1G r26) w27, .p (o1 lenLG r27) w28, .p (o1 mvG (ctK (.int .i64 (Int.ofNat 0)))) w29])
 (.block 2
 (.loop
 (.seq
 (.reg [.p (o2 (binG (cmpB .lss ltI)) r29 r28) w30])
 (.seq
 (.cond r30
 .skip
 (.exit 2))
 (.seq
 (.block 3
 (.seq
 (.reg [.p (o2 (iaddrG 6) r27 r29) w31, .p (o1 (loadnG 6) r31) w32, .p (allocO [(.str 0 0), .snil, (.int .i64 (Int.ofNat 0)), (.str 0 0), .snil, .snil]) w7, .p (o2 (storeG 6) r7 r32) noW])
 (.drw [.p (o1 mvG r3) w33, .p (o1 (faddrG 1) r7) w34, .p (o1 load1G r34) w35, .p (o2 (appG 4) r33 r35) w36, .p (o1 (faddrG 2) r7) w37, .p (o1 (loadnG 4) r37) w38, .p (bslO 4 1 [(.int .i64 (Int.ofNat 0)), (.str 0 0), .snil, .snil] [(0, 4, r38)]) w39, .p (o2 (appG 4) r36 r39) w40, .p (o1 mvG r40) w3] [([33], [37])])))
 (.reg [.p (o2 (binG addB) r29 (ctK (.int .i64 (Int.ofNat 1)))) w41, .p (o1 mvG r41) w29])))))))
 (.seq
 (.reg [.p (o1 mvG r3) w42, .p (o1 mvG r42) w2])
 .ret)))))) }
theorem kf47_ok : (compFn Try.prog Try.f47 [[1, 3], [1, 3, 9, 10, 11], [1, 3, 9, 10, 11], [1, 3, 9, 10, 11], [3], [3, 27, 28, 29], [3, 27, 28, 29], [3, 27, 28, 29]]).bind (toKFn 1) = some kf47 := by kernel_rfl
noncomputable def kf48 : KFn := { params := [w0, w1], res := [(.s r4)], body :=
 (.seq
 (.reg [.p (o1 boxG r1) w3, .p (o1 mvG (ctK (.bool false))) w4])
 (.seq
 (.seq
 (.reg [.p (o1 (faddrG 0) r3) w6, .p (o1 load1G r6) w7, .p (o2 (eqG eqIV false) r7 (ctK (.int .i64 (Int.ofNat 6)))) w8, .p (o1 mvG r8) w9, .g r9 true false none (o1 (faddrG 3) r3) w10, .g r9 true false none (o1 load1G r10) w11, .g r9 true false none (o1 lenLG r11) w12, .g r9 true false none (o2 (eqG eqIV false) r12 (ctK (.int .i64 (Int.ofNat 1)))) w13, .p (o3 pickG r9 r13 (ctK (.bool false))) w14])
 (.cond r14
 (.seq
 (.reg [.p (o1 (faddrG 3) r3) w15, .p (o1 load1G r15) w16, .p (o2 (iaddrG 4) r16 (ctK (.int .i64 (Int.ofNat 0)))) w17, .p (o1 (loadnG 4) r17) w18, .p (allocO [(.int .i64 (Int.ofNat 0)), (.str 0 0), .snil, .snil]) w5, .p (o2 (storeG 4) r5 r18) noW])
 (.seq
 (.seq
 (.reg [.p (o1 mvG r0) w19, .p (o1 nilckG r19) w20, .p (o1 (faddrG 0) r20) w21, .p (o1 load1G r21) w22, .p (o1 rngMG r22) w23])
 (.block 0
 (.loop
 (.seq
 (.reg [.p (o1 nextMG r23) w24, .p (o1 (extG 0) r24) w25])
 (.seq
 (.cond r25
 .skip
 (.exit 0))
 (.block 1
 (.seq
 (.reg [.p (o1 (faddrG 0) r5) w27, .p (o1 load1G r27) w28, .p (o2 (eqG eqIV false) r28 (ctK (.int .i64 (Int.ofNat 9)))) w29])
 (.cond r29
 (.drw [.p (o1 mvG r0) w30, .p (o1 nilckG r30) w31, .p (o1 (faddrG 0) r31) w32, .p (o1 load1G r32) w33, .p (o1 (faddrG 1) r5) w34, .p (o1 load1G r34) w35, .p (o2 (lookupG (.one .s) (.agg [(.int .i64 (Int.ofNat 0)), (.str 0 0), .snil, .snil]) false) r33 r35) w36, .p (o2 (storeG 4) r5 r36) noW] [])
 .skip))))))))
 (.seq
 (.reg [.p (o1 (faddrG 0) r5) w37, .p (o1 load1G r37) w38, .p (o2 (eqG eqIV false) r38 (ctK (.int .i64 (Int.ofNat 6)))) w39])
 (.cond r39
 (.seq
 (.reg [.p (o1 mvG (ctK (.bool true))) w4])
 .ret)
 .skip))))
 .skip))
 (.seq
 (.reg [.p (o1 (faddrG 3) r3) w40, .p (o1 load1G r40) w41, .p (o1 mvG r0) w42, .p (mkfnO 48 [r42] []) w43, .p (callO 46 [r41, r43]) w44, .p (o1 mvG r44) w4])
 .ret))) }
theorem kf48_ok : (compFn Try.prog Try.f48 [[0, 3], [0, 3, 5], [0, 3, 5, 23], [0, 3, 5, 23]]).bind (toKFn 2) = some kf48 := by kernel_rfl
noncomputable def kf22 : KFn := { params := [w0, w1], res := [(.s r4), (.s r5)], body :=
 (.seq
 (.reg [.p (o1 boxG r1) w3, .p (o1 mvG (ctK (.int .i64 (Int.ofNat 0)))) w4, .p (o1 mvG (ctK (.int .i64 (Int.ofNat 0)))) w5])
 (.seq
 (.reg [.p (allocO [(.int .i64 (Int.ofNat 0))]) w6, .p (o2 (storeG 1) r6 (ctK (.int .i64 (Int.ofNat 400)))) noW])
 (.seq
 (.reg [.p (o1 mvG r0) w7, .p (o1 (loadnG 4) r3) w8, .p (callO 39 [r7, r8, r6]) w9, .p (o1 (extG 0) r9) w10, .p (o1 (extG 1) r9) w11, .p (o1 mvG r10) w4, .p (o1 mvG r11) w5])
 .ret))) }
theorem kf22_ok : (compFn Try.prog Try.f22 []).bind (toKFn 2) = some kf22 := by kernel_rfl
noncomputable def kf39 : KFn := { params := [w0, w1, w2], res := [(.s r6), (.s r7)], body :=
 (.seq
 (.reg [.p (o1 boxG r1) w4, .p (o1 mvG (ctK (.int .i64 (Int.ofNat 0)))) w6, .p (o1 mvG (ctK (.int .i64 (Int.ofNat 0)))) w7])
 (.seq
 (.reg [.p (o1 mvG r2) w13, .p (o1 nilckG r13) w14, .p (o1 load1G r14) w15, .p (o2 (binG subB) r15 (ctK (.int .i64 (Int.ofNat 1)))) w16, .p (o1 nilckG r13) w17, .p (o2 (storeG 1) r17 r16) noW])
 (.seq
 (.seq
 (.reg [.p (o1 mvG r2) w18, .p (o1 nilckG r18) w19, .p (o1 load1G r19) w20, .p (o2 (binG (cmpB .lss ltI)) r20 (ctK (.int .i64 (Int.ofNat 0)))) w21, .p (o1 mvG r21) w22, .g r22 false false none (o1 (faddrG 3) r4) w23, .g r22 false false none (o1 load1G r23) w24, .g r22 false false none (o1 lenLG r24) w25, .g r22 false false none (o2 (binG (cmpB .gtr gtI)) r25 (ctK (.int .i64 (Int.ofNat 8)))) w26, .p (o3 pickG r22 (ctK (.bool true)) r26) w27, .p (o1 mvG r27) w28, .g r28 false false none (o1 (faddrG 2) r4) w29, .g r28 false false none (o1 load1G r29) w30, .g r28 false false none (o1 lenLG r30) w31, .g r28 false false none (o2 (binG (cmpB .gtr gtI)) r31 (ctK (.int .i64 (Int.ofNat 8)))) w32, .p (o3 pickG r28 (ctK (.bool true)) r32) w33])
 (.cond r33
 (.seq
 (.reg [.p (o1 mvG (ctK (.int .i64 (Int.ofNat 0)))) w6, .p (o1 mvG (ctK (.int .i64 (Int.ofNat 20)))) w7])
 .ret)
 .skip))
 (.seq
 (.reg [.p (o1 (faddrG 0) r4) w34, .p (o1 load1G r34) w35, .p (o1 (faddrG 1) r4) w36, .p (o1 load1G r36) w37, .p (o1 (faddrG 2) r4) w38, .p (o1 load1G r38) w39, .p (buildO [(.int .i64 (Int.ofNat 0)), (.str 0 0), .snil, .snil] [(0, 1, r35), (1, 1, r37), (2, 1, r39)]) w40, .p (allocO [(.int .i64 (Int.ofNat 0)), (.str 0 0), .snil, .snil]) w8, .p (o2 (storeG 4) r8 r40) noW])
 (.seq
 (.seq
 (.reg [.p (o1 (faddrG 3) r4) w41, .p (o1 load1G r41) w42, .p (o1 lenLG r42) w43, .p (o1 mvG (ctK (.int .i64 (Int.ofNat 0)))) w44])
 (.block 0
 (.loop
 (.seq
 (.reg [.p (o2 (binG (cmpB .lss ltI)) r44 r43) w45])
 (.seq
 (.cond r45
 .skip
 (.exit 0))
 (.seq
 (.block 1
 (.seq
 (.reg [.p (o2 (iaddrG 4) r42 r44) w46, .p (o1 (loadnG 4) r46) w47, .p (allocO [(.int .i64 (Int.ofNat 0)), (.str 0 0), .snil, .snil]) w10, .p (o2 (storeG 4) r10 r47) noW])
 (.seq
 (.reg [.p (o1 mvG r0) w49, .p (o1 (loadnG 4) r10) w50, .p (o1 mvG r2) w51, .p (callO 39 [r49, r50, r51]) w52, .p (o1 mvG r52) w48, .p (o1 (extG 0) r48) w53, .p (o1 (extG 1) r48) w54, .p (o1 mvG r53) w11, .p (o1 mvG r54) w12])
 (.seq
 (.seq
 (.reg [.p (o1 mvG r12) w55, .p (o2 (eqG eqIV true) r55 (ctK (.int .i64 (Int.ofNat 0)))) w56])
 (.cond r56
 (.seq
 (.reg [.p (o1 mvG r12) w57, .p (o1 mvG (ctK (.int .i64 (Int.ofNat 0)))) w6, .p (o1 mvG r57) w7])
 .ret)
 .skip))
 (.reg [.p (o1 (faddrG 3) r8) w58, .p (o1 load1G r58) w59, .p (o1 mvG r11) w60, .p (bslO 1 1 [(.int .i64 (Int.ofNat 0))] [(0, 1, r60)]) w61, .p (o2 (appG 1) r59 r61) w62, .p (o1 (faddrG 3) r8) w63, .p (o2 (storeG 1) r63 r62) noW])))))
 (.reg [.p (o2 (binG addB) r44 (ctK (.int .i64 (Int.ofNat 1)))) w64, .p (o1 mvG r64) w44])))))))
 (.seq
 (.reg [.p (o1 mvG r0) w65, .p (o1 (loadnG 4) r8) w66, .p (callO 67 [r65, r66]) w67, .p (o1 (extG 0) r67) w68, .p (o1 (extG 1) r67) w69, .p (o1 mvG r68) w6, .p (o1 mvG r69) w7])
 .ret)))))) }
theorem kf39_ok : (compFn Try.prog Try.f39 [[0, 2, 4], [0, 8], [0, 2, 8, 42, 43, 44], [0, 2, 8, 42, 43, 44], [0, 2, 8, 42, 43, 44], [0, 2, 8, 11, 42, 43, 44]]).bind (toKFn 3) = some kf39 := by kernel_rfl
noncomputable def kf67 : KFn := { params := [w0, w1], res := [(.s r4), (.s r5)], body :=
 (.seq
 (.reg [.p (o1 boxG r1) w3, .p (o1 mvG (ctK (.int .i64 (Int.ofNat 0)))) w4, .p (o1 mvG (ctK (.int .i64 (Int.ofNat 0)))) w5])
 (.seq
 (.reg [.p (o1 (loadnG 4) r3) w9, .p (callO 84 [r9]) w10, .p (allocO [(.int .i64 (Int.ofNat 0)), (.int .i64 (Int.ofNat 0)), (.int .i64 (Int.ofNat 0)), (.str 0 0), (.str 0 0), (.str 0 0), (.str 0 0), (.str 0 0), (.str 0 0), (.str 0 0), (.str 0 0), (.str 0 0), (.int .i64 (Int.ofNat 0)), (.int .i64 (Int.ofNat 0)), (.int .i64 (Int.ofNat 0)), (.int .i64 (Int.ofNat 0)), (.int .i64 (Int.ofNat 0)), (.int .i64 (Int.ofNat 0)), (.int .i64 (Int.ofNat 0)), (.int .i64 (Int.ofNat 0))]) w6, .p (o2 (storeG 20) r6 r10) noW])
 (.seq
 (.seq
 (.drw [.p (o1 mvG r0) w12, .p (o1 nilckG r12) w13, .p (o1 (faddrG 1) r13) w14, .p (o1 load1G r14) w15, .p (o1 (loadnG 20) r6) w16, .p (o2 (lookupG (.many [.i, .i, .i, .s, .s, .s, .s, .s, .s, .s, .s, .s, .i, .i, .i, .i, .i, .i, .i, .i]) (.int .i64 (Int.ofNat 0)) true) r15 r16) w17, .p (o1 mvG r17) w11, .p (o1 (extG 0) r11) w18, .p (o1 (extG 1) r11) w19, .p (o1 mvG r18) w7, .p (o1 mvG r19) w8] [])
 (.seq
 (.drw [.p (o1 mvG r8) w20, .p (o1 mvG r20) w21, .g r21 true false none (o1 mvG r0) w22, .g r21 true false none (o1 nilckG r22) w23, .g r21 true false none (o1 (faddrG 0) r23) w24, .g r21 true false none (o1 load1G r24) w25, .g r21 true false none (o1 mvG r7) w26, .g r21 true false none (o2 (iaddrG 4) r25 r26) w27, .g r21 true false none (o1 (loadnG 4) r27) w28, .g r21 true true none (callO 84 [r28]) w29, .g r21 true false none (o1 (fldnG 12 8) r29) w30, .g r21 true false none (o1 (faddrG 12) r6) w31, .g r21 true false none (o1 (loadnG 8) r31) w32, .g r21 true false none (o2 (eqG (slowEq (.many [.i, .i, .i, .i, .i, .i, .i, .i])) false) r30 r32) w33, .p (o3 pickG r21 r33 (ctK (.bool false))) w34] [])
 (.cond r34
 (.seq
 (.reg [.p (o1 mvG r7) w35, .p (o1 mvG r35) w4, .p (o1 mvG (ctK (.int .i64 (Int.ofNat 0)))) w5])
 .ret)
 .skip)))
 (.seq
 (.seq
 (.reg [.p (o1 mvG r0) w36, .p (o1 nilckG r36) w37, .p (o1 (faddrG 0) r37) w38, .p (o1 load1G r38) w39, .p (o1 lenLG r39) w40, .p (o2 (binG (cmpB .geq geI)) r40 (ctK (.int .i64 (Int.ofNat 120)))) w41])
 (.cond r41
 (.seq
 (.reg [.p (o1 mvG (ctK (.int .i64 (Int.ofNat 0)))) w4, .p (o1 mvG (ctK (.int .i64 (Int.ofNat 20)))) w5])
 .ret)
 .skip))
 (.seq
 (.drw [.p (o1 (faddrG 2) r3) w42, .p (o1 load1G r42) w43, .m (callO 40 [r43]) w44 none, .p (o1 (faddrG 3) r3) w45, .p (o1 load1G r45) w46, .m (callO 37 [r46]) w47 (some []), .p (o1 (faddrG 2) r3) w48, .p (o2 (storeG 1) r48 r44) noW, .p (o1 (faddrG 3) r3) w49, .p (o2 (storeG 1) r49 r47) noW] [])
 (.seq
 (.drw [.p (o1 mvG r0) w50, .p (o1 nilckG r50) w51, .p (o1 (faddrG 1) r51) w52, .p (o1 load1G r52) w53, .p (o1 (loadnG 20) r6) w54, .p (o1 mvG r0) w55, .p (o1 nilckG r55) w56, .p (o1 (faddrG 0) r56) w57, .p (o1 load1G r57) w58, .p (o1 lenLG r58) w59, .p (o3 (mupdG (.many [.i, .i, .i, .s, .s, .s, .s, .s, .s, .s, .s, .s, .i, .i, .i, .i, .i, .i, .i, .i])) r53 r54 r59) noW] [])
 (.seq
 (.drw [.p (o1 mvG r0) w60, .p (o1 mvG r0) w61, .p (o1 nilckG r61) w62, .p (o1 (faddrG 0) r62) w63, .p (o1 load1G r63) w64, .p (o1 (loadnG 4) r3) w65, .p (bslO 4 1 [(.int .i64 (Int.ofNat 0)), (.str 0 0), .snil, .snil] [(0, 4, r65)]) w66, .p (o2 (appG 4) r64 r66) w67, .p (o1 nilckG r60) w68, .p (o1 (faddrG 0) r68) w69, .p (o2 (storeG 1) r69 r67) noW] [])
 (.seq
 (.reg [.p (o1 mvG r0) w70, .p (o1 nilckG r70) w71, .p (o1 (faddrG 0) r71) w72, .p (o1 load1G r72) w73, .p (o1 lenLG r73) w74, .p (o2 (binG subB) r74 (ctK (.int .i64 (Int.ofNat 1)))) w75, .p (o1 mvG r75) w4, .p (o1 mvG (ctK (.int .i64 (Int.ofNat 0)))) w5])
 .ret)))))))) }
theorem kf67_ok : (compFn Try.prog Try.f67 [[0, 3, 6], [0, 3, 6]]).bind (toKFn 2) = some kf67 := by kernel_rfl
noncomputable def kf84 : KFn := { params := [w0], res := [(.cn r2 20)], body :=
 (.seq
 (.reg [.p (o1 boxG r0) w1, .p (allocO [(.int .i64 (Int.ofNat 0)), (.int .i64 (Int.ofNat 0)), (.int .i64 (Int.ofNat 0)), (.str 0 0), (.str 0 0), (.str 0 0), (.str 0 0), (.str 0 0), (.str 0 0), (.str 0 0), (.str 0 0), (.str 0 0), (.int .i64 (Int.ofNat 0)), (.int .i64 (Int.ofNat 0)), (.int .i64 (Int.ofNat 0)), (.int .i64 (Int.ofNat 0)), (.int .i64 (Int.ofNat 0)), (.int .i64 (Int.ofNat 0)), (.int .i64 (Int.ofNat 0)), (.int .i64 (Int.ofNat 0))]) w2])
 (.seq
 (.reg [.p (o1 (faddrG 0) r1) w4, .p (o1 load1G r4) w5, .p (o1 (faddrG 2) r1) w6, .p (o1 load1G r6) w7, .p (o1 lenLG r7) w8, .p (o1 (faddrG 3) r1) w9, .p (o1 load1G r9) w10, .p (o1 lenLG r10) w11, .p (o1 (faddrG 1) r1) w12, .p (o1 load1G r12) w13, .p (buildO [(.int .i64 (Int.ofNat 0)), (.int .i64 (Int.ofNat 0)), (.int .i64 (Int.ofNat 0)), (.str 0 0), (.str 0 0), (.str 0 0), (.str 0 0), (.str 0 0), (.str 0 0), (.str 0 0), (.str 0 0), (.str 0 0), (.int .i64 (Int.ofNat 0)), (.int .i64 (Int.ofNat 0)), (.int .i64 (Int.ofNat 0)), (.int .i64 (Int.ofNat 0)), (.int .i64 (Int.ofNat 0)), (.int .i64 (Int.ofNat 0)), (.int .i64 (Int.ofNat 0)), (.int .i64 (Int.ofNat 0))] [(0, 1, r5), (1, 1, r8), (2, 1, r11), (3, 1, r13)]) w14, .p (allocO [(.int .i64 (Int.ofNat 0)), (.int .i64 (Int.ofNat 0)), (.int .i64 (Int.ofNat 0)), (.str 0 0), (.str 0 0), (.str 0 0), (.str 0 0), (.str 0 0), (.str 0 0), (.str 0 0), (.str 0 0), (.str 0 0), (.int .i64 (Int.ofNat 0)), (.int .i64 (Int.ofNat 0)), (.int .i64 (Int.ofNat 0)), (.int .i64 (Int.ofNat 0)), (.int .i64 (Int.ofNat 0)), (.int .i64 (Int.ofNat 0)), (.int .i64 (Int.ofNat 0)), (.int .i64 (Int.ofNat 0))]) w3, .p (o2 (storeG 20) r3 r14) noW])
 (.seq
 (.drw [.p (o1 (faddrG 4) r3) w15, .p (cutAO 8 1 r15 none none none) w16, .p (o1 (faddrG 2) r1) w17, .p (o1 load1G r17) w18, .p (o2 (copyG 1) r16 r18) w19] [])
 (.seq
 (.drw [.p (o1 (faddrG 12) r3) w20, .p (cutAO 8 1 r20 none none none) w21, .p (o1 (faddrG 3) r1) w22, .p (o1 load1G r22) w23, .p (o2 (copyG 1) r21 r23) w24] [])
 (.seq
 (.reg [.p (o1 (loadnG 20) r3) w25, .p (o2 (storeG 20) r2 r25) noW])
 .ret))))) }
theorem kf84_ok : (compFn Try.prog Try.f84 []).bind (toKFn 1) = some kf84 := by kernel_rfl
noncomputable def kf40 : KFn := { params := [w0], res := [(.s r2)], body :=
 (.seq
 (.reg [.p (o1 mvG (ctK .snil)) w2])
 (.seq
 (.seq
 (.reg [.p (o1 mvG r0) w3, .p (o2 (eqG (slowEq (.one .l)) false) r3 (ctK .snil)) w4])
 (.cond r4
 (.seq
 (.reg [.p (o1 mvG (ctK .snil)) w2])
 .ret)
 .skip))
 (.seq
 (.reg [.p (bslO 1 0 [] []) w5, .p (o1 mvG r0) w6, .p (o2 (appG 1) r5 r6) w7, .p (o1 mvG r7) w2])
 .ret))) }
theorem kf40_ok : (compFn Try.prog Try.f40 [[0]]).bind (toKFn 1) = some kf40 := by kernel_rfl
noncomputable def kf37 : KFn := { params := [w0], res := [(.s r2)], body :=
 (.seq
 (.reg [.p (o1 mvG (ctK .snil)) w2])
 (.seq
 (.seq
 (.reg [.p (o1 mvG r0) w3, .p (o2 (eqG (slowEq (.one .l)) false) r3 (ctK .snil)) w4])
 (.cond r4
 (.seq
 (.reg [.p (o1 mvG (ctK .snil)) w2])
 .ret)
 .skip))
 (.seq
 (.reg [.p (bslO 1 0 [] []) w5, .p (o1 mvG r0) w6, .p (o2 (appG 1) r5 r6) w7, .p (o1 mvG r7) w2])
 .ret))) }
theorem kf37_ok : (compFn Try.prog Try.f37 [[0]]).bind (toKFn 1) = some kf37 := by kernel_rfl
noncomputable def kf13 : KFn := { params := [w0, w1, w2], res := [(.s r6), (.s r7)], body :=
 (.seq
 (.reg [.p (o1 mvG (ctK (.int .i64 (Int.ofNat 0)))) w6, .p (o1 mvG (ctK (.int .i64 (Int.ofNat 0)))) w7])
 (.seq
 (.reg [.p (o1 mvG r0) w26, .p (o1 mvG r1) w27, .p (callO 19 [r26, r27]) w28, .p (o1 mvG r28) w25, .p (o1 (extG 0) r25) w29, .p (o1 (extG 1) r25) w30, .p (o1 (extG 2) r25) w31, .p (o1 mvG r29) w8, .p (o1 mvG r30) w9, .p (o1 mvG r31) w10])
 (.seq
 (.reg [.p (o1 mvG r8) w32, .p (o1 lenLG r32) w33, .p (o1 mvG r33) w11])
 (.seq
 (.block 0
 (.seq
 (.reg [.p (o1 mvG r1) w35, .p (callO 26 [r35]) w36, .p (o1 mvG r36) w34])
 (.cond r34
 (.reg [.p (o1 mvG r1) w37, .p (callO 27 [r37]) w38, .p (o1 mvG r38) w11])
 (.seq
 (.reg [.p (o1 mvG r10) w40, .p (o1 notG r40) w41, .p (o1 mvG r41) w39])
 (.cond r39
 (.seq
 (.reg [.p (o1 mvG (ctK (.int .i64 (Int.ofNat 0)))) w6, .p (o1 mvG (ctK (.int .i64 (Int.ofNat 15)))) w7])
 .ret)
 .skip)))))
 (.seq
 (.seq
 (.reg [.p (o1 mvG r2) w42, .p (o1 lenLG r42) w43, .p (o1 mvG r11) w44, .p (o2 (eqG eqIV true) r43 r44) w45])
 (.cond r45
 (.seq
 (.reg [.p (o1 mvG (ctK (.int .i64 (Int.ofNat 0)))) w6, .p (o1 mvG (ctK (.int .i64 (Int.ofNat 18)))) w7])
 .ret)
 .skip))
 (.seq
 (.seq
 (.reg [.p (o1 mvG r1) w46, .p (callO 26 [r46]) w47, .p (o1 notG r47) w48])
 (.cond r48
 (.seq
 (.seq
 (.reg [.p (o1 mvG r8) w49, .p (o1 lenLG r49) w50, .p (o1 mvG (ctK (.int .i64 (Int.ofNat 0)))) w51])
 (.block 1
 (.loop
 (.seq
 (.reg [.p (o2 (binG (cmpB .lss ltI)) r51 r50) w52])
 (.seq
 (.cond r52
 .skip
 (.exit 1))
 (.seq
 (.block 2
 (.seq
 (.reg [.p (o1 mvG r51) w53, .p (o2 (iaddrG 1) r49 r51) w54, .p (o1 load1G r54) w55, .p (o1 mvG r53) w12, .p (o1 mvG r55) w13])
 (.seq
 (.reg [.p (o1 mvG r0) w57, .p (o1 mvG r2) w58, .p (o1 mvG r12) w59, .p (o2 (iaddrG 1) r58 r59) w60, .p (o1 load1G r60) w61, .p (o1 mvG r13) w62, .p (callO 28 [r57, r61, r62]) w63, .p (o1 mvG r63) w56, .p (o1 (extG 0) r56) w64, .p (o1 (extG 1) r56) w65, .p (o1 mvG r64) w14, .p (o1 mvG r65) w15])
 (.seq
 (.reg [.p (o1 mvG r14) w66, .p (o1 notG r66) w67])
 (.cond r67
 (.seq
 (.reg [.p (o1 mvG (ctK (.int .i64 (Int.ofNat 0)))) w6, .p (o1 mvG (ctK (.int .i64 (Int.ofNat 17)))) w7])
 .ret)
 .skip)))))
 (.reg [.p (o2 (binG addB) r51 (ctK (.int .i64 (Int.ofNat 1)))) w68, .p (o1 mvG r68) w51])))))))
 (.seq
 (.reg [.p (o1 mvG r9) w69, .p (o1 mvG r69) w6, .p (o1 mvG (ctK (.int .i64 (Int.ofNat 0)))) w7])
 .ret))
 .skip))
 (.seq
 (.reg [.p (o1 mvG r0) w70, .p (o1 mvG r2) w71, .p (buildO [.pnil, .snil, .snil] [(0, 1, r70), (2, 1, r71)]) w72, .p (allocO [.pnil, .snil, .snil]) w16, .p (o2 (storeG 3) r16 r72) noW])
 (.seq
 (.seq
 (.reg [.p (o1 mvG r2) w73, .p (o1 lenLG r73) w74, .p (o1 mvG (ctK (.int .i64 (Int.ofNat 0)))) w75])
 (.block 3
 (.loop
 (.seq
 (.reg [.p (o2 (binG (cmpB .lss ltI)) r75 r74) w76])
 (.seq
 (.cond r76
 .skip
 (.exit 3))
 (.seq
 (.block 4
 (.seq
 (.reg [.p (o2 (iaddrG 1) r73 r75) w77, .p (o1 load1G r77) w78, .p (o1 mvG r78) w18])
 (.seq
 (.reg [.p (o1 mvG r0) w80, .p (o1 mvG r18) w81, .p (callO 29 [r80, r81]) w82, .p (o1 mvG r82) w79, .p (o1 (extG 0) r79) w83, .p (o1 (extG 1) r79) w84, .p (o1 mvG r83) w19, .p (o1 mvG r84) w20])
 (.seq
 (.reg [.p (o1 mvG r0) w86, .p (o1 mvG r19) w87, .p (callO 23 [r86, r87]) w88, .p (o1 mvG r88) w85, .p (o1 (extG 0) r85) w89, .p (o1 (extG 1) r85) w90, .p (allocO [(.int .i64 (Int.ofNat 0)), (.str 0 0), .snil, .snil]) w21, .p (o2 (storeG 4) r21 r89) noW, .p (o1 mvG r90) w22])
 (.seq
 (.seq
 (.reg [.p (o1 mvG r0) w92, .p (o1 mvG r18) w93, .p (callO 29 [r92, r93]) w94, .p (o1 mvG r94) w91, .p (o1 (extG 0) r91) w95, .p (o1 (extG 1) r91) w96, .p (o1 mvG r95) w23, .p (o1 mvG r96) w24])
 (.seq
 (.reg [.p (o1 mvG r24) w97, .p (o1 notG r97) w98])
 (.cond r98
 (.reg [.p (buildO [(.int .i64 (Int.ofNat 0)), (.str 0 0), .snil, .snil] []) w99, .p (o2 (storeG 4) r21 r99) noW])
 .skip)))
 (.reg [.p (o1 (faddrG 1) r16) w100, .p (o1 load1G r100) w101, .p (o1 (loadnG 4) r21) w102, .p (bslO 4 1 [(.int .i64 (Int.ofNat 0)), (.str 0 0), .snil, .snil] [(0, 4, r102)]) w103, .p (o2 (appG 4) r101 r103) w104, .p (o1 (faddrG 1) r16) w105, .p (o2 (storeG 1) r105 r104) noW]))))))
 (.reg [.p (o2 (binG addB) r75 (ctK (.int .i64 (Int.ofNat 1)))) w106, .p (o1 mvG r106) w75])))))))
 (.seq
 (.reg [.p (o1 (loadnG 3) r16) w107, .p (o1 mvG r1) w108, .p (callO 30 [r107, r108]) w109, .p (o1 (extG 0) r109) w110, .p (o1 (extG 1) r109) w111, .p (o1 mvG r110) w6, .p (o1 mvG r111) w7])
 .ret))))))))) }
theorem kf13_ok : (compFn Try.prog Try.f13 [[0, 1, 2, 8, 9, 11], [0, 1, 2, 8, 9], [0, 1, 2], [9], [0, 2, 9, 49, 50, 51], [0, 2, 9, 49, 50, 51], [0, 2, 9, 49, 50, 51], [1, 16], [0, 1, 16, 73, 74, 75], [0, 1, 16, 73, 74, 75], [0, 1, 16, 73, 74, 75], [0, 1, 16, 21, 73, 74, 75]]).bind (toKFn 3) = some kf13 := by kernel_rfl
noncomputable def kf19 : KFn := { params := [w0, w1], res := [(.s r4), (.s r5), (.s r6)], body :=
 (.seq
 (.reg [.p (o1 mvG (ctK .snil)) w4, .p (o1 mvG (ctK (.int .i64 (Int.ofNat 0)))) w5, .p (o1 mvG (ctK (.bool false))) w6])
 (.seq
 (.reg [.p (o1 mvG r0) w10, .p (o1 nilckG r10) w11, .p (o1 (faddrG 4) r11) w12, .p (o1 load1G r12) w13, .p (o1 mvG r1) w14, .p (o2 (lookupG (.one .s) .snil true) r13 r14) w15, .p (o1 mvG r15) w9, .p (o1 (extG 0) r9) w16, .p (o1 (extG 1) r9) w17, .p (o1 mvG r16) w7, .p (o1 mvG r17) w8])
 (.seq
 (.seq
 (.reg [.p (o1 mvG r8) w18, .p (o1 notG r18) w19])
 (.cond r19
 (.seq
 (.reg [.p (o1 mvG (ctK .snil)) w4, .p (o1 mvG (ctK (.int .i64 (Int.ofNat 0)))) w5, .p (o1 mvG (ctK (.bool false))) w6])
 .ret)
 .skip))
 (.seq
 (.drw [.p (o1 mvG r7) w20, .p (o1 mvG r7) w21, .p (o1 lenLG r21) w22, .p (o2 (binG subB) r22 (ctK (.int .i64 (Int.ofNat 1)))) w23, .p (cutLO 1 r20 none (some r23) none) w24, .m (callO 37 [r24]) w25 none, .p (o1 mvG r7) w26, .p (o1 mvG r7) w27, .p (o1 lenLG r27) w28, .p (o2 (binG subB) r28 (ctK (.int .i64 (Int.ofNat 1)))) w29, .p (o2 (iaddrG 1) r26 r29) w30, .p (o1 load1G r30) w31, .p (o1 mvG r25) w4, .p (o1 mvG r31) w5, .p (o1 mvG (ctK (.bool true))) w6] [])
 .ret)))) }
theorem kf19_ok : (compFn Try.prog Try.f19 [[7]]).bind (toKFn 2) = some kf19 := by kernel_rfl
noncomputable def kf27 : KFn := { params := [w0], res := [(.s r2)], body :=
 (.seq
 (.reg [.p (o1 mvG (ctK (.int .i64 (Int.ofNat 0)))) w2])
 (.seq
 (.seq
 (.reg [.p (o1 mvG r0) w3])
 (.block 0
 (.seq
 (.block 2
 (.block 1
 (.seq
 (.seq
 (.seq
 (.seq
 (.reg [.p (o2 (eqG eqSV false) r3 (ctK (.str 3 7234924))) w5, .p (o1 mvG r5) w4])
 (.cond r4
 .skip
 (.seq
 (.reg [.p (o2 (eqG eqSV false) r3 (ctK (.str 3 7630702))) w6, .p (o1 mvG r6) w4])
 (.cond r4
 .skip
 (.seq
 (.reg [.p (o2 (eqG eqSV false) r3 (ctK (.str 4 1954047348))) w7, .p (o1 mvG r7) w4])
 (.cond r4
 .skip
 (.seq
 (.reg [.p (o2 (eqG eqSV false) r3 (ctK (.str 3 7561576))) w8, .p (o1 mvG r8) w4])
 (.cond r4
 .skip
 (.seq
 (.reg [.p (o2 (eqG eqSV false) r3 (ctK (.str 2 14441))) w9, .p (o1 mvG r9) w4])
 (.cond r4
 .skip
 (.seq
 (.reg [.p (o2 (eqG eqSV false) r3 (ctK (.str 3 3551593))) w10, .p (o1 mvG r10) w4])
 (.cond r4
 .skip
 (.seq
 (.reg [.p (o2 (eqG eqSV false) r3 (ctK (.str 3 3289961))) w11, .p (o1 mvG r11) w4])
 (.cond r4
 .skip
 (.reg [.p (o2 (eqG eqSV false) r3 (ctK (.str 2 14453))) w12, .p (o1 mvG r12) w4])))))))))))))))
 (.cond r4
 (.exit 1)
 .skip))
 (.seq
 (.seq
 (.reg [.p (o2 (eqG eqSV false) r3 (ctK (.str 3 3551605))) w14, .p (o1 mvG r14) w13])
 (.cond r13
 .skip
 (.reg [.p (o2 (eqG eqSV false) r3 (ctK (.str 3 3289973))) w15, .p (o1 mvG r15) w13])))
 (.cond r13
 (.exit 2)
 .skip)))
 (.exit 0))))
 (.seq
 (.seq
 (.reg [.p (o1 mvG (ctK (.int .i64 (Int.ofNat 1)))) w2])
 .ret)
 (.exit 0)))))
 (.seq
 (.reg [.p (o1 mvG (ctK (.int .i64 (Int.ofNat 2)))) w2])
 .ret))) }
theorem kf27_ok : (compFn Try.prog Try.f27 [[], [], [], [3], [3, 4], [13]]).bind (toKFn 1) = some kf27 := by kernel_rfl
noncomputable def kf28 : KFn := { params := [w0, w1, w2], res := [(.s r6), (.s r7)], body :=
 (.seq
 (.reg [.p (o1 mvG (ctK (.bool false))) w6, .p (o1 mvG (ctK (.int .i64 (Int.ofNat 0)))) w7])
 (.seq
 (.seq
 (.reg [.p (o1 mvG r1) w10, .p (o2 (binG (cmpB .lss ltI)) r10 (ctK (.int .i64 (Int.ofNat 0)))) w11, .p (o1 mvG r11) w12, .g r12 false false none (o1 mvG r1) w13, .g r12 false false none (o1 mvG r0) w14, .g r12 false false none (callO 51 [r14]) w15, .g r12 false false none (o2 (binG (cmpB .geq geI)) r13 r15) w16, .p (o3 pickG r12 (ctK (.bool true)) r16) w17, .p (o1 mvG r17) w18, .g r18 false false none (o1 mvG r2) w19, .g r18 false false none (o2 (binG (cmpB .lss ltI)) r19 (ctK (.int .i64 (Int.ofNat 0)))) w20, .p (o3 pickG r18 (ctK (.bool true)) r20) w21, .p (o1 mvG r21) w22, .g r22 false false none (o1 mvG r2) w23, .g r22 false false none (o1 mvG r0) w24, .g r22 false false none (callO 51 [r24]) w25, .g r22 false false none (o2 (binG (cmpB .geq geI)) r23 r25) w26, .p (o3 pickG r22 (ctK (.bool true)) r26) w27])
 (.cond r27
 (.seq
 (.reg [.p (o1 mvG (ctK (.bool false))) w6, .p (o1 mvG (ctK (.int .i64 (Int.ofNat 0)))) w7])
 .ret)
 .skip))
 (.seq
 (.reg [.p (o1 mvG r0) w28, .p mkmapO w29, .p (buildO [.pnil, .mnil] [(0, 1, r28), (1, 1, r29)]) w30, .p (o1 boxG r30) w31, .p (o1 mvG r31) w8])
 (.seq
 (.reg [.p (o1 mvG r8) w32, .p (o1 mvG r1) w33, .p (o1 mvG r2) w34, .p (callO 52 [r32, r33, r34]) w35, .p (o1 mvG r35) w9])
 (.seq
 (.reg [.p (o1 mvG r9) w36, .p (o1 mvG r8) w37, .p (o1 nilckG r37) w38, .p (o1 (faddrG 1) r38) w39, .p (o1 load1G r39) w40, .p (o1 lenMG r40) w41, .p (o1 mvG r36) w6, .p (o1 mvG r41) w7])
 .ret))))) }
theorem kf28_ok : (compFn Try.prog Try.f28 [[0, 1, 2]]).bind (toKFn 3) = some kf28 := by kernel_rfl
noncomputable def kf51 : KFn := { params := [w0], res := [(.s r2)], body :=
 (.seq
 (.reg [.p (o1 mvG (ctK (.int .i64 (Int.ofNat 0)))) w2])
 (.seq
 (.reg [.p (o1 mvG r0) w3, .p (o1 nilckG r3) w4, .p (o1 (faddrG 0) r4) w5, .p (o1 load1G r5) w6, .p (o1 lenLG r6) w7, .p (o1 mvG r7) w2])
 .ret)) }
theorem kf51_ok : (compFn Try.prog Try.f51 []).bind (toKFn 1) = some kf51 := by kernel_rfl
noncomputable def kf52 : KFn := { params := [w0, w1, w2], res := [(.s r6)], body :=
 (.seq
 (.reg [.p (o1 mvG (ctK (.bool false))) w6])
 (.seq
 (.reg [.p (o1 mvG r1) w8, .p (o1 mvG r2) w9, .p (buildO [(.int .i64 (Int.ofNat 0)), (.int .i64 (Int.ofNat 0))] [(0, 1, r8), (1, 1, r9)]) w10, .p (allocO [(.int .i64 (Int.ofNat 0)), (.int .i64 (Int.ofNat 0))]) w7, .p (o2 (storeG 2) r7 r10) noW])
 (.seq
 (.seq
 (.drw [.p (o1 mvG r1) w11, .p (o1 mvG r2) w12, .p (o2 (eqG eqIV false) r11 r12) w13, .p (o1 mvG r13) w14, .g r14 false false none (o1 mvG r0) w15, .g r14 false false none (o1 nilckG r15) w16, .g r14 false false none (o1 (faddrG 1) r16) w17, .g r14 false false none (o1 load1G r17) w18, .g r14 false false none (o1 (loadnG 2) r7) w19, .g r14 false false none (o2 (lookupG (.many [.i, .i]) (.int .i64 (Int.ofNat 0)) false) r18 r19) w20, .g r14 false false none (o2 (binG (cmpB .gtr gtI)) r20 (ctK (.int .i64 (Int.ofNat 0)))) w21, .p (o3 pickG r14 (ctK (.bool true)) r21) w22] [])
 (.cond r22
 (.seq
 (.reg [.p (o1 mvG (ctK (.bool true))) w6])
 .ret)
 .skip))
 (.seq
 (.drw [.p (o1 mvG r0) w23, .p (o1 nilckG r23) w24, .p (o1 (faddrG 1) r24) w25, .p (o1 load1G r25) w26, .p (o1 (loadnG 2) r7) w27, .p (o2 (lookupG (.many [.i, .i]) (.int .i64 (Int.ofNat 0)) false) r26 r27) w28, .p (o2 (binG addB) r28 (ctK (.int .i64 (Int.ofNat 1)))) w29, .p (o2 (mentG (.many [.i, .i]) (.int .i64 (Int.ofNat 0))) r26 r27) w30, .p (o1 (extG 1) r30) w31, .p (o3 estsG r26 r31 r29) noW] [])
 (.seq
 (.reg [.p (o1 mvG r0) w32, .p (o1 mvG r1) w33, .p (o1 mvG r2) w34, .p (callO 76 [r32, r33, r34]) w35, .p (o1 mvG r35) w6])
 .ret))))) }
theorem kf52_ok : (compFn Try.prog Try.f52 [[0, 1, 2, 7]]).bind (toKFn 3) = some kf52 := by kernel_rfl
noncomputable def kf76 : KFn := { params := [w0, w1, w2], res := [(.s r6)], body :=
 (.seq
 (.reg [.p (o1 mvG (ctK (.bool false))) w6])
 (.seq
 (.reg [.p (o1 mvG r0) w14, .p (o1 nilckG r14) w15, .p (o1 (faddrG 0) r15) w16, .p (o1 load1G r16) w17, .p (o1 mvG r1) w18, .p (callO 29 [r17, r18]) w19, .p (o1 mvG r19) w13, .p (o1 (extG 0) r13) w20, .p (o1 (extG 1) r13) w21, .p (o1 mvG r20) w1, .p (o1 mvG r21) w7])
 (.seq
 (.reg [.p (o1 mvG r0) w23, .p (o1 nilckG r23) w24, .p (o1 (faddrG 0) r24) w25, .p (o1 load1G r25) w26, .p (o1 mvG r2) w27, .p (callO 29 [r26, r27]) w28, .p (o1 mvG r28) w22, .p (o1 (extG 0) r22) w29, .p (o1 (extG 1) r22) w30, .p (o1 mvG r29) w2, .p (o1 mvG r30) w8])
 (.seq
 (.seq
 (.reg [.p (o1 mvG r7) w31, .p (o1 notG r31) w32, .p (o1 mvG r32) w33, .g r33 false false none (o1 mvG r8) w34, .g r33 false false none (o1 notG r34) w35, .p (o3 pickG r33 (ctK (.bool true)) r35) w36])
 (.cond r36
 (.seq
 (.reg [.p (o1 mvG (ctK (.bool false))) w6])
 .ret)
 .skip))
 (.seq
 (.reg [.p (o1 mvG r0) w38, .p (o1 nilckG r38) w39, .p (o1 (faddrG 0) r39) w40, .p (o1 load1G r40) w41, .p (o1 mvG r1) w42, .p (callO 23 [r41, r42]) w43, .p (o1 mvG r43) w37, .p (o1 (extG 0) r37) w44, .p (o1 (extG 1) r37) w45, .p (allocO [(.int .i64 (Int.ofNat 0)), (.str 0 0), .snil, .snil]) w9, .p (o2 (storeG 4) r9 r44) noW, .p (o1 mvG r45) w10])
 (.seq
 (.reg [.p (o1 mvG r0) w47, .p (o1 nilckG r47) w48, .p (o1 (faddrG 0) r48) w49, .p (o1 load1G r49) w50, .p (o1 mvG r2) w51, .p (callO 23 [r50, r51]) w52, .p (o1 mvG r52) w46, .p (o1 (extG 0) r46) w53, .p (o1 (extG 1) r46) w54, .p (allocO [(.int .i64 (Int.ofNat 0)), (.str 0 0), .snil, .snil]) w11, .p (o2 (storeG 4) r11 r53) noW, .p (o1 mvG r54) w12])
 (.seq
 (.block 0
 (.seq
 (.reg [.p (o1 (faddrG 0) r11) w56, .p (o1 load1G r56) w57, .p (o2 (eqG eqIV false) r57 (ctK (.int .i64 (Int.ofNat 6)))) w58, .p (o1 mvG r58) w59, .g r59 true false none (o1 (faddrG 0) r9) w60, .g r59 true false none (o1 load1G r60) w61, .g r59 true false none (o2 (eqG eqIV true) r61 (ctK (.int .i64 (Int.ofNat 6)))) w62, .p (o3 pickG r59 r62 (ctK (.bool false))) w63, .p (o1 mvG r63) w64, .g r64 true false none (o1 (faddrG 3) r11) w65, .g r64 true false none (o1 load1G r65) w66, .g r64 true false none (o1 lenLG r66) w67, .g r64 true false none (o2 (eqG eqIV false) r67 (ctK (.int .i64 (Int.ofNat 1)))) w68, .p (o3 pickG r64 r68 (ctK (.bool false))) w69, .p (o1 mvG r69) w55])
 (.cond r55
 (.seq
 (.reg [.p (o1 mvG r0) w70, .p (o1 mvG r1) w71, .p (o1 (faddrG 3) r11) w72, .p (o1 load1G r72) w73, .p (o2 (iaddrG 1) r73 (ctK (.int .i64 (Int.ofNat 0)))) w74, .p (o1 load1G r74) w75, .p (callO 52 [r70, r71, r75]) w76, .p (o1 mvG r76) w6])
 .ret)
 (.seq
 (.reg [.p (o1 (faddrG 0) r9) w78, .p (o1 load1G r78) w79, .p (o1 (faddrG 0) r11) w80, .p (o1 load1G r80) w81, .p (o2 (eqG eqIV true) r79 r81) w82, .p (o1 mvG r82) w77])
 (.cond r77
 (.seq
 (.reg [.p (o1 mvG (ctK (.bool false))) w6])
 .ret)
 (.seq
 (.reg [.p (o1 (faddrG 0) r11) w84, .p (o1 load1G r84) w85, .p (o2 (eqG eqIV false) r85 (ctK (.int .i64 (Int.ofNat 7)))) w86, .p (o1 mvG r86) w83])
 (.cond r83
 (.seq
 (.reg [.p (o1 mvG r0) w87, .p (o1 (loadnG 4) r9) w88, .p (o1 (loadnG 4) r11) w89, .p (callO 91 [r87, r88, r89, (ctK (.bool true))]) w90, .p (o1 mvG r90) w6])
 .ret)
 (.seq
 (.reg [.p (o1 (faddrG 0) r11) w92, .p (o1 load1G r92) w93, .p (o2 (eqG eqIV false) r93 (ctK (.int .i64 (Int.ofNat 8)))) w94, .p (o1 mvG r94) w91])
 (.cond r91
 (.seq
 (.reg [.p (o1 mvG r0) w95, .p (o1 (loadnG 4) r11) w96, .p (o1 (loadnG 4) r9) w97, .p (callO 91 [r95, r96, r97, (ctK (.bool false))]) w98, .p (o1 mvG r98) w6])
 .ret)
 .skip)))))))))
 (.seq
 (.reg [.p (o1 mvG r0) w99, .p (o1 (loadnG 4) r9) w100, .p (o1 (loadnG 4) r11) w101, .p (callO 92 [r99, r100, r101]) w102, .p (o1 mvG r102) w6])
 .ret)))))))) }
theorem kf76_ok : (compFn Try.prog Try.f76 [[0, 1, 2], [0, 9, 11]]).bind (toKFn 3) = some kf76 := by kernel_rfl
noncomputable def kf29 : KFn := { params := [w0, w1], res := [(.s r4), (.s r5)], body :=
 (.seq
 (.reg [.p (o1 mvG (ctK (.int .i64 (Int.ofNat 0)))) w4, .p (o1 mvG (ctK (.bool false))) w5])
 (.seq
 (.seq
 (.reg [.p (o1 mvG r0) w8, .p (o1 nilckG r8) w9, .p (o1 (faddrG 0) r9) w10, .p (o1 load1G r10) w11, .p (o1 lenLG r11) w12, .p (o2 (binG addB) r12 (ctK (.int .i64 (Int.ofNat 1)))) w13, .p (o1 mvG (ctK (.int .i64 (Int.ofNat 0)))) w14])
 (.block 0
 (.loop
 (.seq
 (.reg [.p (o2 (binG (cmpB .lss ltI)) r14 r13) w15])
 (.seq
 (.cond r15
 .skip
 (.exit 0))
 (.seq
 (.block 1
 (.seq
 (.seq
 (.reg [.p (o1 mvG r1) w16, .p (o2 (binG (cmpB .lss ltI)) r16 (ctK (.int .i64 (Int.ofNat 0)))) w17, .p (o1 mvG r17) w18, .g r18 false false none (o1 mvG r1) w19, .g r18 false false none (o1 mvG r0) w20, .g r18 false false none (o1 nilckG r20) w21, .g r18 false false none (o1 (faddrG 0) r21) w22, .g r18 false false none (o1 load1G r22) w23, .g r18 false false none (o1 lenLG r23) w24, .g r18 false false none (o2 (binG (cmpB .geq geI)) r19 r24) w25, .p (o3 pickG r18 (ctK (.bool true)) r25) w26])
 (.cond r26
 (.seq
 (.reg [.p (o1 mvG (ctK (.int .i64 (Int.ofNat 0)))) w4, .p (o1 mvG (ctK (.bool false))) w5])
 .ret)
 .skip))
 (.seq
 (.seq
 (.reg [.p (o1 mvG r0) w27, .p (o1 nilckG r27) w28, .p (o1 (faddrG 0) r28) w29, .p (o1 load1G r29) w30, .p (o1 mvG r1) w31, .p (o2 (iaddrG 4) r30 r31) w32, .p (o1 (faddrG 0) r32) w33, .p (o1 load1G r33) w34, .p (o2 (eqG eqIV true) r34 (ctK (.int .i64 (Int.ofNat 9)))) w35])
 (.cond r35
 (.seq
 (.reg [.p (o1 mvG r1) w36, .p (o1 mvG r36) w4, .p (o1 mvG (ctK (.bool true))) w5])
 .ret)
 .skip))
 (.seq
 (.drw [.p (o1 mvG r0) w38, .p (o1 nilckG r38) w39, .p (o1 (faddrG 2) r39) w40, .p (o1 load1G r40) w41, .p (o1 mvG r0) w42, .p (o1 nilckG r42) w43, .p (o1 (faddrG 0) r43) w44, .p (o1 load1G r44) w45, .p (o1 mvG r1) w46, .p (o2 (iaddrG 4) r45 r46) w47, .p (o1 (faddrG 1) r47) w48, .p (o1 load1G r48) w49, .p (o2 (lookupG (.one .s) (.int .i64 (Int.ofNat 0)) true) r41 r49) w50, .p (o1 mvG r50) w37, .p (o1 (extG 0) r37) w51, .p (o1 (extG 1) r37) w52, .p (o1 mvG r51) w6, .p (o1 mvG r52) w7] [])
 (.seq
 (.seq
 (.reg [.p (o1 mvG r7) w53, .p (o1 notG r53) w54])
 (.cond r54
 (.reg [.p (o1 mvG (ctK (.int .i64 (Int.negSucc 0)))) w6])
 .skip))
 (.reg [.p (o1 mvG r6) w55, .p (o1 mvG r55) w1]))))))
 (.reg [.p (o2 (binG addB) r14 (ctK (.int .i64 (Int.ofNat 1)))) w56, .p (o1 mvG r56) w14])))))))
 (.seq
 (.reg [.p (o1 mvG (ctK (.int .i64 (Int.ofNat 0)))) w4, .p (o1 mvG (ctK (.bool false))) w5])
 .ret))) }
theorem kf29_ok : (compFn Try.prog Try.f29 [[], [0, 1, 13, 14], [0, 1, 13, 14], [0, 1, 13, 14], [0, 1, 13, 14], [0, 1, 13, 14], [0, 6, 13, 14]]).bind (toKFn 2) = some kf29 := by kernel_rfl
noncomputable def kf23 : KFn := { params := [w0, w1], res := [(.cn r4 4), (.s r5)], body :=
 (.seq
 (.reg [.p (allocO [(.int .i64 (Int.ofNat 0)), (.str 0 0), .snil, .snil]) w4, .p (o1 mvG (ctK (.bool false))) w5])
 (.seq
 (.seq
 (.reg [.p (o1 mvG r1) w7, .p (o2 (binG (cmpB .lss ltI)) r7 (ctK (.int .i64 (Int.ofNat 0)))) w8, .p (o1 mvG r8) w9, .g r9 false false none (o1 mvG r1) w10, .g r9 false false none (o1 mvG r0) w11, .g r9 false false none (o1 nilckG r11) w12, .g r9 false false none (o1 (faddrG 0) r12) w13, .g r9 false false none (o1 load1G r13) w14, .g r9 false false none (o1 lenLG r14) w15, .g r9 false false none (o2 (binG (cmpB .geq geI)) r10 r15) w16, .p (o3 pickG r9 (ctK (.bool true)) r16) w17])
 (.cond r17
 (.seq
 (.reg [.p (buildO [(.int .i64 (Int.ofNat 0)), (.str 0 0), .snil, .snil] []) w18, .p (o2 (storeG 4) r4 r18) noW, .p (o1 mvG (ctK (.bool false))) w5])
 .ret)
 .skip))
 (.seq
 (.reg [.p (o1 mvG r0) w19, .p (o1 nilckG r19) w20, .p (o1 (faddrG 0) r20) w21, .p (o1 load1G r21) w22, .p (o1 mvG r1) w23, .p (o2 (iaddrG 4) r22 r23) w24, .p (o1 (loadnG 4) r24) w25, .p (allocO [(.int .i64 (Int.ofNat 0)), (.str 0 0), .snil, .snil]) w6, .p (o2 (storeG 4) r6 r25) noW])
 (.seq
 (.drw [.p (o1 (faddrG 2) r6) w26, .p (o1 load1G r26) w27, .m (callO 40 [r27]) w28 none, .p (o1 (faddrG 3) r6) w29, .p (o1 load1G r29) w30, .m (callO 37 [r30]) w31 (some []), .p (o1 (faddrG 2) r6) w32, .p (o2 (storeG 1) r32 r28) noW, .p (o1 (faddrG 3) r6) w33, .p (o2 (storeG 1) r33 r31) noW] [])
 (.seq
 (.reg [.p (o1 (loadnG 4) r6) w34, .p (o2 (storeG 4) r4 r34) noW, .p (o1 mvG (ctK (.bool true))) w5])
 .ret))))) }
theorem kf23_ok : (compFn Try.prog Try.f23 [[0, 1, 4]]).bind (toKFn 2) = some kf23 := by kernel_rfl
noncomputable def kf91 : KFn := { params := [w0, w1, w2, w3], res := [(.s r8)], body :=
 (.seq
 (.reg [.p (o1 boxG r1) w5, .p (o1 boxG r2) w6, .p (o1 mvG (ctK (.bool false))) w8])
 (.seq
 (.seq
 (.reg [.p (o1 (faddrG 2) r6) w14, .p (o1 load1G r14) w15, .p (o1 lenLG r15) w16, .p (o1 mvG (ctK (.int .i64 (Int.ofNat 0)))) w17])
 (.block 0
 (.loop
 (.seq
 (.reg [.p (o2 (binG (cmpB .lss ltI)) r17 r16) w18])
 (.seq
 (.cond r18
 .skip
 (.exit 0))
 (.seq
 (.block 1
 (.seq
 (.reg [.p (o1 mvG r17) w19, .p (o2 (iaddrG 1) r15 r17) w20, .p (o1 load1G r20) w21, .p (o1 mvG r19) w9, .p (o1 mvG r21) w10])
 (.seq
 (.reg [.p (o1 (faddrG 2) r5) w22, .p (o1 load1G r22) w23, .p (o1 mvG r10) w24, .p (callO 99 [r23, r24]) w25, .p (o1 mvG r25) w11])
 (.seq
 (.seq
 (.reg [.p (o1 mvG r11) w26, .p (o2 (binG (cmpB .lss ltI)) r26 (ctK (.int .i64 (Int.ofNat 0)))) w27, .p (o1 mvG r27) w28, .g r28 false false none (o1 mvG r11) w29, .g r28 false false none (o1 (faddrG 3) r5) w30, .g r28 false false none (o1 load1G r30) w31, .g r28 false false none (o1 lenLG r31) w32, .g r28 false false none (o2 (binG (cmpB .geq geI)) r29 r32) w33, .p (o3 pickG r28 (ctK (.bool true)) r33) w34, .p (o1 mvG r34) w35, .g r35 false false none (o1 mvG r9) w36, .g r35 false false none (o1 (faddrG 3) r6) w37, .g r35 false false none (o1 load1G r37) w38, .g r35 false false none (o1 lenLG r38) w39, .g r35 false false none (o2 (binG (cmpB .geq geI)) r36 r39) w40, .p (o3 pickG r35 (ctK (.bool true)) r40) w41])
 (.cond r41
 (.seq
 (.reg [.p (o1 mvG (ctK (.bool false))) w8])
 .ret)
 .skip))
 (.seq
 (.drw [.p (o1 (faddrG 3) r5) w42, .p (o1 load1G r42) w43, .p (o1 mvG r11) w44, .p (o2 (iaddrG 1) r43 r44) w45, .p (o1 load1G r45) w46, .p (o1 (faddrG 3) r6) w47, .p (o1 load1G r47) w48, .p (o1 mvG r9) w49, .p (o2 (iaddrG 1) r48 r49) w50, .p (o1 load1G r50) w51, .p (o1 mvG r46) w12, .p (o1 mvG r51) w13] [])
 (.seq
 (.seq
 (.reg [.p (o1 mvG r3) w52, .p (o1 notG r52) w53])
 (.cond r53
 (.reg [.p (o1 mvG r13) w54, .p (o1 mvG r12) w55, .p (o1 mvG r54) w12, .p (o1 mvG r55) w13])
 .skip))
 (.seq
 (.reg [.p (o1 mvG r0) w56, .p (o1 mvG r12) w57, .p (o1 mvG r13) w58, .p (callO 52 [r56, r57, r58]) w59, .p (o1 notG r59) w60])
 (.cond r60
 (.seq
 (.reg [.p (o1 mvG (ctK (.bool false))) w8])
 .ret)
 .skip))))))))
 (.reg [.p (o2 (binG addB) r17 (ctK (.int .i64 (Int.ofNat 1)))) w61, .p (o1 mvG r61) w17])))))))
 (.seq
 (.reg [.p (o1 mvG (ctK (.bool true))) w8])
 .ret))) }
theorem kf91_ok : (compFn Try.prog Try.f91 [[], [0, 3, 5, 6, 15, 16, 17], [0, 3, 5, 6, 15, 16, 17], [0, 3, 5, 6, 15, 16, 17], [0, 3, 5, 6, 9, 11, 15, 16, 17], [0, 3, 5, 6, 12, 13, 15, 16, 17]]).bind (toKFn 4) = some kf91 := by kernel_rfl
noncomputable def kf99 : KFn := { params := [w0, w1], res := [(.s r4)], body :=
 (.seq
 (.reg [.p (o1 mvG (ctK (.int .i64 (Int.ofNat 0)))) w4])
 (.seq
 (.seq
 (.reg [.p (o1 mvG r0) w6, .p (o1 lenLG r6) w7, .p (o1 mvG (ctK (.int .i64 (Int.ofNat 0)))) w8])
 (.block 0
 (.loop
 (.seq
 (.reg [.p (o2 (binG (cmpB .lss ltI)) r8 r7) w9])
 (.seq
 (.cond r9
 .skip
 (.exit 0))
 (.seq
 (.block 1
 (.seq
 (.reg [.p (o1 mvG r8) w10, .p (o1 mvG r10) w5])
 (.seq
 (.reg [.p (o1 mvG r1) w11, .p (o1 mvG r0) w12, .p (o1 mvG r5) w13, .p (o2 (iaddrG 1) r12 r13) w14, .p (o1 load1G r14) w15, .p (o2 (eqG eqSV false) r11 r15) w16])
 (.cond r16
 (.seq
 (.reg [.p (o1 mvG r5) w17, .p (o1 mvG r17) w4])
 .ret)
 .skip))))
 (.reg [.p (o2 (binG addB) r8 (ctK (.int .i64 (Int.ofNat 1)))) w18, .p (o1 mvG r18) w8])))))))
 (.seq
 (.reg [.p (o1 mvG (ctK (.int .i64 (Int.negSucc 0)))) w4])
 .ret))) }
theorem kf99_ok : (compFn Try.prog Try.f99 [[], [0, 1, 7, 8], [0, 1, 7, 8], [0, 1, 7, 8]]).bind (toKFn 2) = some kf99 := by kernel_rfl
noncomputable def kf92 : KFn := { params := [w0, w1, w2], res := [(.s r6)], body :=
 (.seq
 (.reg [.p (o1 boxG r1) w4, .p (o1 boxG r2) w5, .p (o1 mvG (ctK (.bool false))) w6])
 (.seq
 (.seq
 (.reg [.p (o1 (faddrG 3) r4) w8, .p (o1 load1G r8) w9, .p (o1 lenLG r9) w10, .p (o1 mvG (ctK (.int .i64 (Int.ofNat 0)))) w11])
 (.block 0
 (.loop
 (.seq
 (.reg [.p (o2 (binG (cmpB .lss ltI)) r11 r10) w12])
 (.seq
 (.cond r12
 .skip
 (.exit 0))
 (.seq
 (.block 1
 (.seq
 (.reg [.p (o1 mvG r11) w13, .p (o1 mvG r13) w7])
 (.seq
 (.drw [.p (o1 mvG r7) w14, .p (o1 (faddrG 3) r5) w15, .p (o1 load1G r15) w16, .p (o1 lenLG r16) w17, .p (o2 (binG (cmpB .geq geI)) r14 r17) w18, .p (o1 mvG r18) w19, .g r19 false false none (o1 mvG r0) w20, .g r19 false false none (o1 (faddrG 3) r4) w21, .g r19 false false none (o1 load1G r21) w22, .g r19 false false none (o1 mvG r7) w23, .g r19 false false none (o2 (iaddrG 1) r22 r23) w24, .g r19 false false none (o1 load1G r24) w25, .g r19 false false none (o1 (faddrG 3) r5) w26, .g r19 false false none (o1 load1G r26) w27, .g r19 false false none (o1 mvG r7) w28, .g r19 false false none (o2 (iaddrG 1) r27 r28) w29, .g r19 false false none (o1 load1G r29) w30, .g r19 false true (some []) (callO 52 [r20, r25, r30]) w31, .g r19 false false none (o1 notG r31) w32, .p (o3 pickG r19 (ctK (.bool true)) r32) w33] [])
 (.cond r33
 (.seq
 (.reg [.p (o1 mvG (ctK (.bool false))) w6])
 .ret)
 .skip))))
 (.reg [.p (o2 (binG addB) r11 (ctK (.int .i64 (Int.ofNat 1)))) w34, .p (o1 mvG r34) w11])))))))
 (.seq
 (.reg [.p (o1 mvG (ctK (.bool true))) w6])
 .ret))) }
theorem kf92_ok : (compFn Try.prog Try.f92 [[], [0, 4, 5, 10, 11], [0, 4, 5, 10, 11], [0, 4, 5, 10, 11]]).bind (toKFn 3) = some kf92 := by kernel_rfl
noncomputable def kf30 : KFn := { params := [w0, w1], res := [(.s r4), (.s r5)], body :=
 (.seq
 (.reg [.p (o1 boxG r0) w2, .p (o1 mvG (ctK (.int .i64 (Int.ofNat 0)))) w4, .p (o1 mvG (ctK (.int .i64 (Int.ofNat 0)))) w5])
 (.seq
 (.reg [.p (o1 (faddrG 1) r2) w7, .p (o1 load1G r7) w8, .p (o2 (iaddrG 4) r8 (ctK (.int .i64 (Int.ofNat 0)))) w9, .p (o1 (faddrG 0) r9) w10, .p (o1 load1G r10) w11, .p (o1 mvG r11) w6])
 (.seq
 (.seq
 (.reg [.p (o1 mvG r1) w12])
 (.block 0
 (.seq
 (.reg [.p (o2 (eqG eqSV false) r12 (ctK (.str 3 7234924))) w14, .p (o1 mvG r14) w13])
 (.cond r13
 (.seq
 (.reg [.p (o1 (loadnG 3) r2) w15, .p (o1 mvG r6) w16, .p (o2 (eqG eqIV false) r16 (ctK (.int .i64 (Int.ofNat 3)))) w17, .p (o1 mvG r17) w18, .g r18 false false none (o1 mvG r6) w19, .g r18 false false none (o2 (eqG eqIV false) r19 (ctK (.int .i64 (Int.ofNat 4)))) w20, .p (o3 pickG r18 (ctK (.bool true)) r20) w21, .p (o1 mvG r21) w22, .g r22 false false none (o1 mvG r6) w23, .g r22 false false none (o2 (eqG eqIV false) r23 (ctK (.int .i64 (Int.ofNat 5)))) w24, .p (o3 pickG r22 (ctK (.bool true)) r24) w25, .p (callO 53 [r15, (ctK (.int .i64 (Int.ofNat 2))), r25]) w26, .p (o1 (extG 0) r26) w27, .p (o1 (extG 1) r26) w28, .p (o1 mvG r27) w4, .p (o1 mvG r28) w5])
 .ret)
 (.seq
 (.reg [.p (o2 (eqG eqSV false) r12 (ctK (.str 3 7630702))) w30, .p (o1 mvG r30) w29])
 (.cond r29
 (.seq
 (.drw [.p (o1 (loadnG 3) r2) w31, .p (o1 (loadnG 3) r2) w32, .p (bslO 1 1 [(.int .i64 (Int.ofNat 0))] [(0, 1, (ctK (.int .i64 (Int.ofNat 1))))]) w33, .m (callO 54 [r32, r33]) w34 (some [2]), .m (callO 53 [r31, (ctK (.int .i64 (Int.ofNat 1))), r34]) w35 (some []), .p (o1 (extG 0) r35) w36, .p (o1 (extG 1) r35) w37, .p (o1 mvG r36) w4, .p (o1 mvG r37) w5] [])
 .ret)
 (.seq
 (.seq
 (.reg [.p (o2 (eqG eqSV false) r12 (ctK (.str 3 6581857))) w39, .p (o1 mvG r39) w38])
 (.cond r38
 .skip
 (.reg [.p (o2 (eqG eqSV false) r12 (ctK (.str 2 29295))) w40, .p (o1 mvG r40) w38])))
 (.cond r38
 (.seq
 (.drw [.p (o1 (loadnG 3) r2) w41, .p (o1 (loadnG 3) r2) w42, .p (bslO 1 2 [(.int .i64 (Int.ofNat 0)), (.int .i64 (Int.ofNat 0))] [(0, 1, (ctK (.int .i64 (Int.ofNat 1)))), (1, 1, (ctK (.int .i64 (Int.ofNat 1))))]) w43, .m (callO 54 [r42, r43]) w44 (some [2]), .m (callO 53 [r41, (ctK (.int .i64 (Int.ofNat 1))), r44]) w45 (some []), .p (o1 (extG 0) r45) w46, .p (o1 (extG 1) r45) w47, .p (o1 mvG r46) w4, .p (o1 mvG r47) w5] [])
 .ret)
 (.seq
 (.reg [.p (o2 (eqG eqSV false) r12 (ctK (.str 2 29029))) w49, .p (o1 mvG r49) w48])
 (.cond r48
 (.seq
 (.drw [.p (o1 (loadnG 3) r2) w50, .p (o1 mvG r6) w51, .p (o2 (binG (cmpB .geq geI)) r51 (ctK (.int .i64 (Int.ofNat 1)))) w52, .p (o1 mvG r52) w53, .g r53 true false none (o1 mvG r6) w54, .g r53 true false none (o2 (binG (cmpB .leq leI)) r54 (ctK (.int .i64 (Int.ofNat 3)))) w55, .p (o3 pickG r53 r55 (ctK (.bool false))) w56, .p (o1 mvG r56) w57, .g r57 true false none (o1 (loadnG 3) r2) w58, .g r57 true false none (o1 mvG r6) w59, .g r57 true false none (o1 mvG r6) w60, .g r57 true false none (bslO 1 2 [(.int .i64 (Int.ofNat 0)), (.int .i64 (Int.ofNat 0))] [(0, 1, r59), (1, 1, r60)]) w61, .g r57 true true (some [2]) (callO 54 [r58, r61]) w62, .p (o3 pickG r57 r62 (ctK (.bool false))) w63, .m (callO 53 [r50, (ctK (.int .i64 (Int.ofNat 1))), r63]) w64 (some []), .p (o1 (extG 0) r64) w65, .p (o1 (extG 1) r64) w66, .p (o1 mvG r65) w4, .p (o1 mvG r66) w5] [])
 .ret)
 (.seq
 (.reg [.p (o2 (eqG eqSV false) r12 (ctK (.str 2 29804))) w68, .p (o1 mvG r68) w67])
 (.cond r67
 (.seq
 (.drw [.p (o1 (loadnG 3) r2) w69, .p (o1 (loadnG 3) r2) w70, .p (bslO 1 2 [(.int .i64 (Int.ofNat 0)), (.int .i64 (Int.ofNat 0))] [(0, 1, (ctK (.int .i64 (Int.ofNat 2)))), (1, 1, (ctK (.int .i64 (Int.ofNat 2))))]) w71, .m (callO 54 [r70, r71]) w72 (some [2]), .m (callO 53 [r69, (ctK (.int .i64 (Int.ofNat 1))), r72]) w73 (some []), .p (o1 (extG 0) r73) w74, .p (o1 (extG 1) r73) w75, .p (o1 mvG r74) w4, .p (o1 mvG r75) w5] [])
 .ret)
 (.seq
 (.seq
 (.reg [.p (o2 (eqG eqSV false) r12 (ctK (.str 3 6579297))) w77, .p (o1 mvG r77) w76])
 (.cond r76
 .skip
 (.seq
 (.reg [.p (o2 (eqG eqSV false) r12 (ctK (.str 3 6452595))) w78, .p (o1 mvG r78) w76])
 (.cond r76
 .skip
 (.seq
 (.reg [.p (o2 (eqG eqSV false) r12 (ctK (.str 3 7107949))) w79, .p (o1 mvG r79) w76])
 (.cond r76
 .skip
 (.seq
 (.reg [.p (o2 (eqG eqSV false) r12 (ctK (.str 3 7104627))) w80, .p (o1 mvG r80) w76])
 (.cond r76
 .skip
 (.reg [.p (o2 (eqG eqSV false) r12 (ctK (.str 3 7497843))) w81, .p (o1 mvG r81) w76])))))))))
 (.cond r76
 (.seq
 (.drw [.p (o1 (loadnG 3) r2) w82, .p (o1 (loadnG 3) r2) w83, .p (bslO 1 2 [(.int .i64 (Int.ofNat 0)), (.int .i64 (Int.ofNat 0))] [(0, 1, (ctK (.int .i64 (Int.ofNat 2)))), (1, 1, (ctK (.int .i64 (Int.ofNat 2))))]) w84, .m (callO 54 [r83, r84]) w85 (some [2]), .m (callO 53 [r82, (ctK (.int .i64 (Int.ofNat 2))), r85]) w86 (some []), .p (o1 (extG 0) r86) w87, .p (o1 (extG 1) r86) w88, .p (o1 mvG r87) w4, .p (o1 mvG r88) w5] [])
 .ret)
 (.seq
 (.reg [.p (o2 (eqG eqSV false) r12 (ctK (.str 3 7627107))) w90, .p (o1 mvG r90) w89])
 (.cond r89
 (.seq
 (.drw [.p (o1 (loadnG 3) r2) w91, .p (o1 (loadnG 3) r2) w92, .p (bslO 1 2 [(.int .i64 (Int.ofNat 0)), (.int .i64 (Int.ofNat 0))] [(0, 1, (ctK (.int .i64 (Int.ofNat 3)))), (1, 1, (ctK (.int .i64 (Int.ofNat 3))))]) w93, .m (callO 54 [r92, r93]) w94 (some [2]), .m (callO 53 [r91, (ctK (.int .i64 (Int.ofNat 3))), r94]) w95 (some []), .p (o1 (extG 0) r95) w96, .p (o1 (extG 1) r95) w97, .p (o1 mvG r96) w4, .p (o1 mvG r97) w5] [])
 .ret)
 (.seq
 (.reg [.p (o2 (eqG eqSV false) r12 (ctK (.str 4 1954047348))) w99, .p (o1 mvG r99) w98])
 (.cond r98
 (.seq
 (.reg [.p (o1 (loadnG 3) r2) w100, .p (o1 mvG r6) w101, .p (o2 (eqG eqIV false) r101 (ctK (.int .i64 (Int.ofNat 2)))) w102, .p (o1 mvG r102) w103, .g r103 false false none (o1 mvG r6) w104, .g r103 false false none (o2 (eqG eqIV false) r104 (ctK (.int .i64 (Int.ofNat 1)))) w105, .p (o3 pickG r103 (ctK (.bool true)) r105) w106, .p (callO 53 [r100, (ctK (.int .i64 (Int.ofNat 3))), r106]) w107, .p (o1 (extG 0) r107) w108, .p (o1 (extG 1) r107) w109, .p (o1 mvG r108) w4, .p (o1 mvG r109) w5])
 .ret)
 (.seq
 (.reg [.p (o2 (eqG eqSV false) r12 (ctK (.str 2 29793))) w111, .p (o1 mvG r111) w110])
 (.cond r110
 (.seq
 (.drw [.p (o1 (loadnG 3) r2) w112, .p (o1 (loadnG 3) r2) w113, .p (bslO 1 2 [(.int .i64 (Int.ofNat 0)), (.int .i64 (Int.ofNat 0))] [(0, 1, (ctK (.int .i64 (Int.ofNat 4)))), (1, 1, (ctK (.int .i64 (Int.ofNat 2))))]) w114, .m (callO 54 [r113, r114]) w115 (some [2]), .m (callO 55 [r112, r115]) w116 (some []), .p (o1 (extG 0) r116) w117, .p (o1 (extG 1) r116) w118, .p (o1 mvG r117) w4, .p (o1 mvG r118) w5] [])
 .ret)
 (.seq
 (.reg [.p (o2 (eqG eqSV false) r12 (ctK (.str 3 7628135))) w120, .p (o1 mvG r120) w119])
 (.cond r119
 (.seq
 (.reg [.p (o1 (loadnG 3) r2) w121, .p (callO 56 [r121]) w122, .p (o1 (extG 0) r122) w123, .p (o1 (extG 1) r122) w124, .p (o1 mvG r123) w4, .p (o1 mvG r124) w5])
 .ret)
 (.seq
 (.reg [.p (o2 (eqG eqSV false) r12 (ctK (.str 3 7561576))) w126, .p (o1 mvG r126) w125])
 (.cond r125
 (.seq
 (.drw [.p (o1 (loadnG 3) r2) w127, .p (o1 (loadnG 3) r2) w128, .p (bslO 1 1 [(.int .i64 (Int.ofNat 0))] [(0, 1, (ctK (.int .i64 (Int.ofNat 6))))]) w129, .m (callO 54 [r128, r129]) w130 (some [2]), .m (callO 53 [r127, (ctK (.int .i64 (Int.ofNat 1))), r130]) w131 (some []), .p (o1 (extG 0) r131) w132, .p (o1 (extG 1) r131) w133, .p (o1 mvG r132) w4, .p (o1 mvG r133) w5] [])
 .ret)
 (.seq
 (.reg [.p (o2 (eqG eqSV false) r12 (ctK (.str 6 111546414232175))) w135, .p (o1 mvG r135) w134])
 (.cond r134
 (.seq
 (.drw [.p (o1 (loadnG 3) r2) w136, .p (o1 (loadnG 3) r2) w137, .p (bslO 1 1 [(.int .i64 (Int.ofNat 0))] [(0, 1, (ctK (.int .i64 (Int.ofNat 6))))]) w138, .m (callO 54 [r137, r138]) w139 (some [2]), .p (o1 mvG r139) w140, .g r140 true false none (o1 (faddrG 1) r2) w141, .g r140 true false none (o1 load1G r141) w142, .g r140 true false none (o2 (iaddrG 4) r142 (ctK (.int .i64 (Int.ofNat 0)))) w143, .g r140 true false none (o1 (faddrG 3) r143) w144, .g r140 true false none (o1 load1G r144) w145, .g r140 true false none (o1 lenLG r145) w146, .g r140 true false none (o2 (eqG eqIV false) r146 (ctK (.int .i64 (Int.ofNat 1)))) w147, .p (o3 pickG r140 r147 (ctK (.bool false))) w148, .p (o1 mvG r148) w149, .g r149 true false none (o1 (faddrG 2) r2) w150, .g r149 true false none (o1 load1G r150) w151, .g r149 true false none (o2 (iaddrG 1) r151 (ctK (.int .i64 (Int.ofNat 1)))) w152, .g r149 true false none (o1 load1G r152) w153, .g r149 true false none (o1 (faddrG 1) r2) w154, .g r149 true false none (o1 load1G r154) w155, .g r149 true false none (o2 (iaddrG 4) r155 (ctK (.int .i64 (Int.ofNat 0)))) w156, .g r149 true false none (o1 (faddrG 3) r156) w157, .g r149 true false none (o1 load1G r157) w158, .g r149 true false none (o2 (iaddrG 1) r158 (ctK (.int .i64 (Int.ofNat 0)))) w159, .g r149 true false none (o1 load1G r159) w160, .g r149 true false none (o2 (eqG eqIV false) r153 r160) w161, .p (o3 pickG r149 r161 (ctK (.bool false))) w162, .m (callO 55 [r136, r162]) w163 (some []), .p (o1 (extG 0) r163) w164, .p (o1 (extG 1) r163) w165, .p (o1 mvG r164) w4, .p (o1 mvG r165) w5] [])
 .ret)
 .skip))))))))))))))))))))))))))
 (.seq
 (.drw [.p (o1 (loadnG 3) r2) w166, .p (o1 (loadnG 3) r2) w167, .p (bslO 1 1 [(.int .i64 (Int.ofNat 0))] [(0, 1, (ctK (.int .i64 (Int.ofNat 2))))]) w168, .m (callO 54 [r167, r168]) w169 (some [2]), .m (callO 53 [r166, (ctK (.int .i64 (Int.ofNat 2))), r169]) w170 (some []), .p (o1 (extG 0) r170) w171, .p (o1 (extG 1) r170) w172, .p (o1 mvG r171) w4, .p (o1 mvG r172) w5] [])
 .ret)))) }
theorem kf30_ok : (compFn Try.prog Try.f30 [[2], [2, 6, 12, 38], [2, 6, 12, 76]]).bind (toKFn 2) = some kf30 := by kernel_rfl
noncomputable def kf53 : KFn := { params := [w0, w1, w2], res := [(.s r6), (.s r7)], body :=
 (.seq
 (.reg [.p (o1 boxG r0) w3, .p (o1 mvG (ctK (.int .i64 (Int.ofNat 0)))) w6, .p (o1 mvG (ctK (.int .i64 (Int.ofNat 0)))) w7])
 (.seq
 (.seq
 (.reg [.p (o1 mvG r2) w8, .p (o1 notG r8) w9])
 (.cond r9
 (.seq
 (.reg [.p (o1 mvG (ctK (.int .i64 (Int.ofNat 0)))) w6, .p (o1 mvG (ctK (.int .i64 (Int.ofNat 17)))) w7])
 .ret)
 .skip))
 (.seq
 (.reg [.p (o1 (faddrG 0) r3) w10, .p (o1 load1G r10) w11, .p (o1 mvG r1) w12, .p (callO 77 [r11, r12]) w13, .p (o1 (extG 0) r13) w14, .p (o1 (extG 1) r13) w15, .p (o1 mvG r14) w6, .p (o1 mvG r15) w7])
 .ret))) }
theorem kf53_ok : (compFn Try.prog Try.f53 [[1, 3]]).bind (toKFn 3) = some kf53 := by kernel_rfl
noncomputable def kf77 : KFn := { params := [w0, w1], res := [(.s r4), (.s r5)], body :=
 (.seq
 (.reg [.p (o1 mvG (ctK (.int .i64 (Int.ofNat 0)))) w4, .p (o1 mvG (ctK (.int .i64 (Int.ofNat 0)))) w5])
 (.seq
 (.reg [.p (o1 mvG r0) w6, .p (o1 mvG r1) w7, .p (buildO [(.int .i64 (Int.ofNat 0)), (.str 0 0), .snil, .snil] [(0, 1, r7)]) w8, .p (callO 67 [r6, r8]) w9, .p (o1 (extG 0) r9) w10, .p (o1 (extG 1) r9) w11, .p (o1 mvG r10) w4, .p (o1 mvG r11) w5])
 .ret)) }
theorem kf77_ok : (compFn Try.prog Try.f77 []).bind (toKFn 2) = some kf77 := by kernel_rfl
noncomputable def kf54 : KFn := { params := [w0, w1], res := [(.s r4)], body :=
 (.seq
 (.reg [.p (o1 boxG r0) w2, .p (o1 mvG (ctK (.bool false))) w4])
 (.seq
 (.seq
 (.reg [.p (o1 mvG r1) w7, .p (o1 lenLG r7) w8, .p (o1 mvG (ctK (.int .i64 (Int.ofNat 0)))) w9])
 (.block 0
 (.loop
 (.seq
 (.reg [.p (o2 (binG (cmpB .lss ltI)) r9 r8) w10])
 (.seq
 (.cond r10
 .skip
 (.exit 0))
 (.seq
 (.block 1
 (.seq
 (.reg [.p (o1 mvG r9) w11, .p (o2 (iaddrG 1) r7 r9) w12, .p (o1 load1G r12) w13, .p (o1 mvG r11) w5, .p (o1 mvG r13) w6])
 (.seq
 (.reg [.p (o1 (faddrG 1) r2) w14, .p (o1 load1G r14) w15, .p (o1 mvG r5) w16, .p (o2 (iaddrG 4) r15 r16) w17, .p (o1 (faddrG 0) r17) w18, .p (o1 load1G r18) w19, .p (o1 mvG r6) w20, .p (o2 (eqG eqIV true) r19 r20) w21])
 (.cond r21
 (.seq
 (.reg [.p (o1 mvG (ctK (.bool false))) w4])
 .ret)
 .skip))))
 (.reg [.p (o2 (binG addB) r9 (ctK (.int .i64 (Int.ofNat 1)))) w22, .p (o1 mvG r22) w9])))))))
 (.seq
 (.reg [.p (o1 mvG (ctK (.bool true))) w4])
 .ret))) }
theorem kf54_ok : (compFn Try.prog Try.f54 [[], [2, 7, 8, 9], [2, 7, 8, 9], [2, 7, 8, 9]]).bind (toKFn 2) = some kf54 := by kernel_rfl
noncomputable def kf55 : KFn := { params := [w0, w1], res := [(.s r4), (.s r5)], body :=
 (.seq
 (.reg [.p (o1 boxG r0) w2, .p (o1 mvG (ctK (.int .i64 (Int.ofNat 0)))) w4, .p (o1 mvG (ctK (.int .i64 (Int.ofNat 0)))) w5])
 (.seq
 (.seq
 (.reg [.p (o1 mvG r1) w6, .p (o1 notG r6) w7, .p (o1 mvG r7) w8, .g r8 false false none (o1 (faddrG 1) r2) w9, .g r8 false false none (o1 load1G r9) w10, .g r8 false false none (o2 (iaddrG 4) r10 (ctK (.int .i64 (Int.ofNat 0)))) w11, .g r8 false false none (o1 (faddrG 3) r11) w12, .g r8 false false none (o1 load1G r12) w13, .g r8 false false none (o1 lenLG r13) w14, .g r8 false false none (o2 (eqG eqIV false) r14 (ctK (.int .i64 (Int.ofNat 0)))) w15, .p (o3 pickG r8 (ctK (.bool true)) r15) w16])
 (.cond r16
 (.seq
 (.reg [.p (o1 mvG (ctK (.int .i64 (Int.ofNat 0)))) w4, .p (o1 mvG (ctK (.int .i64 (Int.ofNat 17)))) w5])
 .ret)
 .skip))
 (.seq
 (.reg [.p (o1 (faddrG 1) r2) w17, .p (o1 load1G r17) w18, .p (o2 (iaddrG 4) r18 (ctK (.int .i64 (Int.ofNat 0)))) w19, .p (o1 (faddrG 3) r19) w20, .p (o1 load1G r20) w21, .p (o2 (iaddrG 1) r21 (ctK (.int .i64 (Int.ofNat 0)))) w22, .p (o1 load1G r22) w23, .p (o1 mvG r23) w4, .p (o1 mvG (ctK (.int .i64 (Int.ofNat 0)))) w5])
 .ret))) }
theorem kf55_ok : (compFn Try.prog Try.f55 [[2]]).bind (toKFn 2) = some kf55 := by kernel_rfl
noncomputable def kf56 : KFn := { params := [w0], res := [(.s r2), (.s r3)], body :=
 (.seq
 (.reg [.p (o1 boxG r0) w1, .p (o1 mvG (ctK (.int .i64 (Int.ofNat 0)))) w2, .p (o1 mvG (ctK (.int .i64 (Int.ofNat 0)))) w3])
 (.seq
 (.drw [.p (o1 (loadnG 3) r1) w11, .p (o1 (loadnG 3) r1) w12, .p (bslO 1 2 [(.int .i64 (Int.ofNat 0)), (.int .i64 (Int.ofNat 0))] [(0, 1, (ctK (.int .i64 (Int.ofNat 5)))), (1, 1, (ctK (.int .i64 (Int.ofNat 3))))]) w13, .m (callO 54 [r12, r13]) w14 (some [1]), .m (callO 55 [r11, r14]) w15 (some []), .p (o1 mvG r15) w10, .p (o1 (extG 0) r10) w16, .p (o1 (extG 1) r10) w17, .p (o1 mvG r16) w4, .p (o1 mvG r17) w5] [])
 (.seq
 (.seq
 (.reg [.p (o1 mvG r5) w18, .p (o2 (eqG eqIV true) r18 (ctK (.int .i64 (Int.ofNat 0)))) w19])
 (.cond r19
 (.seq
 (.reg [.p (o1 mvG r5) w20, .p (o1 mvG (ctK (.int .i64 (Int.ofNat 0)))) w2, .p (o1 mvG r20) w3])
 .ret)
 .skip))
 (.seq
 (.reg [.p (o1 (faddrG 0) r1) w22, .p (o1 load1G r22) w23, .p (o1 mvG r4) w24, .p (callO 29 [r23, r24]) w25, .p (o1 mvG r25) w21, .p (o1 (extG 0) r21) w26, .p (o1 (extG 1) r21) w27, .p (o1 mvG r26) w6, .p (o1 mvG r27) w7])
 (.seq
 (.seq
 (.reg [.p (o1 (faddrG 0) r1) w29, .p (o1 load1G r29) w30, .p (o1 mvG r6) w31, .p (callO 23 [r30, r31]) w32, .p (o1 mvG r32) w28, .p (o1 (extG 0) r28) w33, .p (o1 (extG 1) r28) w34, .p (allocO [(.int .i64 (Int.ofNat 0)), (.str 0 0), .snil, .snil]) w8, .p (o2 (storeG 4) r8 r33) noW, .p (o1 mvG r34) w9])
 (.seq
 (.reg [.p (o1 (faddrG 0) r8) w35, .p (o1 load1G r35) w36, .p (o2 (eqG eqIV false) r36 (ctK (.int .i64 (Int.ofNat 6)))) w37])
 (.cond r37
 (.seq
 (.reg [.p (o1 mvG (ctK (.int .i64 (Int.ofNat 0)))) w2, .p (o1 mvG (ctK (.int .i64 (Int.ofNat 17)))) w3])
 .ret)
 .skip)))
 (.seq
 (.reg [.p (o1 (faddrG 0) r1) w38, .p (o1 load1G r38) w39, .p (o1 mvG r4) w40, .p (callO 78 [r39, r40]) w41, .p (o1 (extG 0) r41) w42, .p (o1 (extG 1) r41) w43, .p (o1 mvG r42) w2, .p (o1 mvG r43) w3])
 .ret)))))) }
theorem kf56_ok : (compFn Try.prog Try.f56 [[1, 4], [1, 4]]).bind (toKFn 1) = some kf56 := by kernel_rfl
noncomputable def kf78 : KFn := { params := [w0, w1], res := [(.s r4), (.s r5)], body :=
 (.seq
 (.reg [.p (o1 mvG (ctK (.int .i64 (Int.ofNat 0)))) w4, .p (o1 mvG (ctK (.int .i64 (Int.ofNat 0)))) w5])
 (.seq
 (.reg [.p (o1 mvG r0) w6, .p (o1 mvG r1) w7, .p (bslO 1 1 [(.int .i64 (Int.ofNat 0))] [(0, 1, r7)]) w8, .p (buildO [(.int .i64 (Int.ofNat 0)), (.str 0 0), .snil, .snil] [(0, 1, (ctK (.int .i64 (Int.ofNat 6)))), (3, 1, r8)]) w9, .p (callO 67 [r6, r9]) w10, .p (o1 (extG 0) r10) w11, .p (o1 (extG 1) r10) w12, .p (o1 mvG r11) w4, .p (o1 mvG r12) w5])
 .ret)) }
theorem kf78_ok : (compFn Try.prog Try.f78 []).bind (toKFn 2) = some kf78 := by kernel_rfl
noncomputable def kf21 : KFn := { params := [w0], res := [(.s r2)], body :=
 (.seq
 (.reg [.p (o1 mvG (ctK (.int .i64 (Int.ofNat 0)))) w2])
 (.seq
 (.reg [.p (o1 mvG r0) w3, .p (o1 nilckG r3) w4, .p (o1 (faddrG 3) r4) w5, .p (o1 load1G r5) w6, .p (o1 mvG r6) w2])
 .ret)) }
theorem kf21_ok : (compFn Try.prog Try.f21 []).bind (toKFn 1) = some kf21 := by kernel_rfl

theorem within12_calls (a n : Int) (w : World) (h0 : 0 < n) (h1 : n < 1000000) : Calls Try.prog 12 #[.int .i64 a, .int .i64 n] w fun e w' => e = .returned (.int .i64 (a % n)) ∧ Below w.heap.size w w' := by
  have hn : ¬n = 0 := by omega
  go_enter Try.func12, Try.ntmps12
  go_wp2
  all_goals go_ret
  all_goals refine ⟨?_, Below.refl _ _⟩
  all_goals have hb1 := Int.emod_nonneg a hn
  all_goals have hb2 := Int.emod_lt_of_pos a h0
  all_goals have hw : wrap64 (a % n) = a % n := by unfold wrap64; omega
  all_goals rename_i hc
  all_goals rcases tmod_cases a h0 with ⟨h3, h4⟩ | ⟨h3, h4⟩
  · exact absurd hc (by omega)
  · show Ending.returned (.int .i64 (wrap64 (a.tmod n + n))) = _
    rw [h4, hw]
  · show Ending.returned (.int .i64 (a.tmod n)) = _
    rw [h4]
  · exact absurd hc (by omega)
theorem mixed : Try.prog.follows .mixedOrders = true := by kernel_rfl
noncomputable def tabA : BT :=
  (.node 50 (.node 30 (.node 23 (.node 13 (.node 9 (.leaf 9 (compE 100000 Try.prog Try.f9 [[1]] kf9))
  (.node 10 (.leaf 10 (compE 100000 Try.prog Try.f10 [[1], [1, 5], [1, 5, 30, 31, 32], [1, 5, 30, 31, 32], [1, 5, 30, 31, 32], [1, 5, 7, 8, 30, 31, 32], [1, 5, 10], [5], [5, 69, 70, 71], [5, 69, 70, 71], [5, 69, 70, 71], [5, 13, 14, 69, 70, 71], [5, 13, 14, 69, 70, 71, 86, 87, 88], [5, 13, 14, 69, 70, 71, 86, 87, 88], [5, 13, 14, 69, 70, 71, 86, 87, 88], [5, 13, 14, 17, 69, 70, 71, 86, 87, 88]] kf10))
  (.leaf 13 (compE 100000 Try.prog Try.f13 [[0, 1, 2, 8, 9, 11], [0, 1, 2, 8, 9], [0, 1, 2], [9], [0, 2, 9, 49, 50, 51], [0, 2, 9, 49, 50, 51], [0, 2, 9, 49, 50, 51], [1, 16], [0, 1, 16, 73, 74, 75], [0, 1, 16, 73, 74, 75], [0, 1, 16, 73, 74, 75], [0, 1, 16, 21, 73, 74, 75]] kf13))))
  (.node 19 (.leaf 19 (compE 100000 Try.prog Try.f19 [[7]] kf19))
  (.node 22 (.leaf 22 (compE 100000 Try.prog Try.f22 [] kf22))
  (.leaf 23 (compE 100000 Try.prog Try.f23 [[0, 1, 4]] kf23)))))
  (.node 26 (.node 24 (.leaf 24 (compE 100000 Try.prog Try.f24 [[1], [1], [1, 4], [1, 4, 33, 34, 35], [1, 4, 33, 34, 35], [1, 4, 33, 34, 35], [1, 4], [1, 4], [1, 4], [1, 4, 62, 63, 64], [1, 4, 62, 63, 64], [1, 4, 62, 63, 64], []] kf24))
  (.node 25 (.leaf 25 (compE 100000 Try.prog Try.f25 [[0]] kf25))
  (.leaf 26 (compE 100000 Try.prog Try.f26 [] kf26))))
  (.node 28 (.node 27 (.leaf 27 (compE 100000 Try.prog Try.f27 [[], [], [], [3], [3, 4], [13]] kf27))
  (.leaf 28 (compE 100000 Try.prog Try.f28 [[0, 1, 2]] kf28)))
  (.node 29 (.leaf 29 (compE 100000 Try.prog Try.f29 [[], [0, 1, 13, 14], [0, 1, 13, 14], [0, 1, 13, 14], [0, 1, 13, 14], [0, 1, 13, 14], [0, 6, 13, 14]] kf29))
  (.leaf 30 (compE 100000 Try.prog Try.f30 [[2], [2, 6, 12, 38], [2, 6, 12, 76]] kf30))))))
  (.node 43 (.node 40 (.node 37 (.leaf 37 (compE 100000 Try.prog Try.f37 [[0]] kf37))
  (.node 39 (.leaf 39 (compE 100000 Try.prog Try.f39 [[0, 2, 4], [0, 8], [0, 2, 8, 42, 43, 44], [0, 2, 8, 42, 43, 44], [0, 2, 8, 42, 43, 44], [0, 2, 8, 11, 42, 43, 44]] kf39))
  (.leaf 40 (compE 100000 Try.prog Try.f40 [[0]] kf40))))
  (.node 41 (.leaf 41 (compE 100000 Try.prog Try.f41 [[], [0, 5, 6, 7], [0, 5, 6, 7], [0, 5, 6, 7]] kf41))
  (.node 42 (.leaf 42 (compE 100000 Try.prog Try.f42 [[3], [3, 8, 9, 10], [3, 8, 9, 10], [3, 8, 9, 10]] kf42))
  (.leaf 43 (compE 100000 Try.prog Try.f43 [[0, 2, 4], [0, 2, 4], [], [0, 2, 98, 99, 100], [0, 2, 98, 99, 100], [0, 2, 98, 99, 100]] kf43)))))
  (.node 46 (.node 44 (.leaf 44 (compE 100000 Try.prog Try.f44 [[], [0, 1, 8, 9, 10], [0, 1, 8, 9, 10], [0, 1, 8, 9, 10], [0, 1, 6, 8, 9, 10]] kf44))
  (.node 45 (.leaf 45 (compE 100000 Try.prog Try.f45 [[2, 3, 5], [2, 3, 5, 16, 17, 18], [2, 3, 5, 16, 17, 18], [2, 3, 5, 16, 17, 18], [2, 3], [3, 8], [2, 3, 8, 38, 39], [2, 3, 8, 38, 39], [2, 3, 8, 38, 39], [2, 3, 8, 38, 39, 42, 43, 44], [2, 3, 8, 38, 39, 42, 43, 44], [2, 3, 8, 38, 39, 42, 43, 44]] kf45))
  (.leaf 46 (compE 100000 Try.prog Try.f46 [] kf46))))
  (.node 48 (.node 47 (.leaf 47 (compE 100000 Try.prog Try.f47 [[1, 3], [1, 3, 9, 10, 11], [1, 3, 9, 10, 11], [1, 3, 9, 10, 11], [3], [3, 27, 28, 29], [3, 27, 28, 29], [3, 27, 28, 29]] kf47))
  (.leaf 48 (compE 100000 Try.prog Try.f48 [[0, 3], [0, 3, 5], [0, 3, 5, 23], [0, 3, 5, 23]] kf48)))
  (.node 49 (.leaf 49 (compE 100000 Try.prog Try.f49 [] kf49))
  (.leaf 50 containsE))))))
  (.node 73 (.node 56 (.node 53 (.node 51 (.leaf 51 (compE 100000 Try.prog Try.f51 [] kf51))
  (.node 52 (.leaf 52 (compE 100000 Try.prog Try.f52 [[0, 1, 2, 7]] kf52))
  (.leaf 53 (compE 100000 Try.prog Try.f53 [[1, 3]] kf53))))
  (.node 54 (.leaf 54 (compE 100000 Try.prog Try.f54 [[], [2, 7, 8, 9], [2, 7, 8, 9], [2, 7, 8, 9]] kf54))
  (.node 55 (.leaf 55 (compE 100000 Try.prog Try.f55 [[2]] kf55))
  (.leaf 56 (compE 100000 Try.prog Try.f56 [[1, 4], [1, 4]] kf56)))))
  (.node 69 (.node 67 (.leaf 67 (compE 100000 Try.prog Try.f67 [[0, 3, 6], [0, 3, 6]] kf67))
  (.node 68 (.leaf 68 (compE 100000 Try.prog Try.f68 [[], [1, 4, 5], [1, 9]] kf68))
  (.leaf 69 (compE 100000 Try.prog Try.f69 [[1], [1], [1, 10, 11, 12], [1, 10, 11, 12], [1, 10, 11, 12], []] kf69))))
  (.node 71 (.node 70 (.leaf 70 (compE 100000 Try.prog Try.f70 [[], [0, 8, 9, 10], [0, 8, 9, 10], [0, 8, 9, 10]] kf70))
  (.leaf 71 (compE 100000 Try.prog Try.f71 [[3, 4, 5], []] kf71)))
  (.node 72 (.leaf 72 (compE 100000 Try.prog Try.f72 [[], [0, 1, 7, 8], [0, 1, 7, 8], [0, 1, 7, 8]] kf72))
  (.leaf 73 (compE 100000 Try.prog Try.f73 [] kf73))))))
  (.node 85 (.node 77 (.node 74 (.leaf 74 (compE 100000 Try.prog Try.f74 [] kf74))
  (.node 76 (.leaf 76 (compE 100000 Try.prog Try.f76 [[0, 1, 2], [0, 9, 11]] kf76))
  (.leaf 77 (compE 100000 Try.prog Try.f77 [] kf77))))
  (.node 78 (.leaf 78 (compE 100000 Try.prog Try.f78 [] kf78))
  (.node 84 (.leaf 84 (compE 100000 Try.prog Try.f84 [] kf84))
  (.leaf 85 (compE 100000 Try.prog Try.f85 [] kf85)))))
  (.node 88 (.node 86 (.leaf 86 (compE 100000 Try.prog Try.f86 [] kf86))
  (.node 87 (.leaf 87 (compE 100000 Try.prog Try.f87 [[0], [0, 1, 7], [0, 1, 7, 8]] kf87))
  (.leaf 88 (compE 100000 Try.prog Try.f88 [] kf88))))
  (.node 91 (.node 89 (.leaf 89 (compE 100000 Try.prog Try.f89 [] kf89))
  (.leaf 91 (compE 100000 Try.prog Try.f91 [[], [0, 3, 5, 6, 15, 16, 17], [0, 3, 5, 6, 15, 16, 17], [0, 3, 5, 6, 15, 16, 17], [0, 3, 5, 6, 9, 11, 15, 16, 17], [0, 3, 5, 6, 12, 13, 15, 16, 17]] kf91)))
  (.node 92 (.leaf 92 (compE 100000 Try.prog Try.f92 [[], [0, 4, 5, 10, 11], [0, 4, 5, 10, 11], [0, 4, 5, 10, 11]] kf92))
  (.leaf 99 (compE 100000 Try.prog Try.f99 [[], [0, 1, 7, 8], [0, 1, 7, 8], [0, 1, 7, 8]] kf99))))))))
theorem tabA_K : tabA.all fun _ e => BodyKOK e.k e.b := ⟨⟨⟨⟨⟨compE_K kf9_ok, ⟨compE_K kf10_ok, compE_K kf13_ok⟩⟩, ⟨compE_K kf19_ok, ⟨compE_K kf22_ok, compE_K kf23_ok⟩⟩⟩, ⟨⟨compE_K kf24_ok, ⟨compE_K kf25_ok, compE_K kf26_ok⟩⟩, ⟨⟨compE_K kf27_ok, compE_K kf28_ok⟩, ⟨compE_K kf29_ok, compE_K kf30_ok⟩⟩⟩⟩, ⟨⟨⟨compE_K kf37_ok, ⟨compE_K kf39_ok, compE_K kf40_ok⟩⟩, ⟨compE_K kf41_ok, ⟨compE_K kf42_ok, compE_K kf43_ok⟩⟩⟩, ⟨⟨compE_K kf44_ok, ⟨compE_K kf45_ok, compE_K kf46_ok⟩⟩, ⟨⟨compE_K kf47_ok, compE_K kf48_ok⟩, ⟨compE_K kf49_ok, containsE_K⟩⟩⟩⟩⟩, ⟨⟨⟨⟨compE_K kf51_ok, ⟨compE_K kf52_ok, compE_K kf53_ok⟩⟩, ⟨compE_K kf54_ok, ⟨compE_K kf55_ok, compE_K kf56_ok⟩⟩⟩, ⟨⟨compE_K kf67_ok, ⟨compE_K kf68_ok, compE_K kf69_ok⟩⟩, ⟨⟨compE_K kf70_ok, compE_K kf71_ok⟩, ⟨compE_K kf72_ok, compE_K kf73_ok⟩⟩⟩⟩, ⟨⟨⟨compE_K kf74_ok, ⟨compE_K kf76_ok, compE_K kf77_ok⟩⟩, ⟨compE_K kf78_ok, ⟨compE_K kf84_ok, compE_K kf85_ok⟩⟩⟩, ⟨⟨compE_K kf86_ok, ⟨compE_K kf87_ok, compE_K kf88_ok⟩⟩, ⟨⟨compE_K kf89_ok, compE_K kf91_ok⟩, ⟨compE_K kf92_ok, compE_K kf99_ok⟩⟩⟩⟩⟩⟩
theorem tabA_B {ρ : Nat → Value} {W : World} (hρ : ∀ i, (ρ i).oneCell' = true) (hm : hasM 0 W) : tabA.all fun i e => BodyOK Try.prog ρ ⟨W.heap.size, W⟩ i e.b :=
  have hh : HypOK ρ [] := hyp_nil ρ
  ⟨⟨⟨⟨⟨compE_B kf9_ok Try.func9 (by decide) hρ mixed, ⟨compE_B kf10_ok Try.func10 (by decide) hρ mixed, compE_B kf13_ok Try.func13 (by decide) hρ mixed⟩⟩, ⟨compE_B kf19_ok Try.func19 (by decide) hρ mixed, ⟨compE_B kf22_ok Try.func22 (by decide) hρ mixed, compE_B kf23_ok Try.func23 (by decide) hρ mixed⟩⟩⟩, ⟨⟨compE_B kf24_ok Try.func24 (by decide) hρ mixed, ⟨compE_B kf25_ok Try.func25 (by decide) hρ mixed, compE_B kf26_ok Try.func26 (by decide) hρ mixed⟩⟩, ⟨⟨compE_B kf27_ok Try.func27 (by decide) hρ mixed, compE_B kf28_ok Try.func28 (by decide) hρ mixed⟩, ⟨compE_B kf29_ok Try.func29 (by decide) hρ mixed, compE_B kf30_ok Try.func30 (by decide) hρ mixed⟩⟩⟩⟩, ⟨⟨⟨compE_B kf37_ok Try.func37 (by decide) hρ mixed, ⟨compE_B kf39_ok Try.func39 (by decide) hρ mixed, compE_B kf40_ok Try.func40 (by decide) hρ mixed⟩⟩, ⟨compE_B kf41_ok Try.func41 (by decide) hρ mixed, ⟨compE_B kf42_ok Try.func42 (by decide) hρ mixed, compE_B kf43_ok Try.func43 (by decide) hρ mixed⟩⟩⟩, ⟨⟨compE_B kf44_ok Try.func44 (by decide) hρ mixed, ⟨compE_B kf45_ok Try.func45 (by decide) hρ mixed, compE_B kf46_ok Try.func46 (by decide) hρ mixed⟩⟩, ⟨⟨compE_B kf47_ok Try.func47 (by decide) hρ mixed, compE_B kf48_ok Try.func48 (by decide) hρ mixed⟩, ⟨compE_B kf49_ok Try.func49 (by decide) hρ mixed, containsE_B Try.func50 (by kernel_rfl) (by decide) hm fun s sub m w hs hm => Try.strings_Contains s sub m w hs hm⟩⟩⟩⟩⟩, ⟨⟨⟨⟨compE_B kf51_ok Try.func51 (by decide) hρ mixed, ⟨compE_B kf52_ok Try.func52 (by decide) hρ mixed, compE_B kf53_ok Try.func53 (by decide) hρ mixed⟩⟩, ⟨compE_B kf54_ok Try.func54 (by decide) hρ mixed, ⟨compE_B kf55_ok Try.func55 (by decide) hρ mixed, compE_B kf56_ok Try.func56 (by decide) hρ mixed⟩⟩⟩, ⟨⟨compE_B kf67_ok Try.func67 (by decide) hρ mixed, ⟨compE_B kf68_ok Try.func68 (by decide) hρ mixed, compE_B kf69_ok Try.func69 (by decide) hρ mixed⟩⟩, ⟨⟨compE_B kf70_ok Try.func70 (by decide) hρ mixed, compE_B kf71_ok Try.func71 (by decide) hρ mixed⟩, ⟨compE_B kf72_ok Try.func72 (by decide) hρ mixed, compE_B kf73_ok Try.func73 (by decide) hρ mixed⟩⟩⟩⟩, ⟨⟨⟨compE_B kf74_ok Try.func74 (by decide) hρ mixed, ⟨compE_B kf76_ok Try.func76 (by decide) hρ mixed, compE_B kf77_ok Try.func77 (by decide) hρ mixed⟩⟩, ⟨compE_B kf78_ok Try.func78 (by decide) hρ mixed, ⟨compE_B kf84_ok Try.func84 (by decide) hρ mixed, compE_B kf85_ok Try.func85 (by decide) hρ mixed⟩⟩⟩, ⟨⟨compE_B kf86_ok Try.func86 (by decide) hρ mixed, ⟨compE_B kf87_ok Try.func87 (by decide) hρ mixed, compE_B kf88_ok Try.func88 (by decide) hρ mixed⟩⟩, ⟨⟨compE_B kf89_ok Try.func89 (by decide) hρ mixed, compE_B kf91_ok Try.func91 (by decide) hρ mixed⟩, ⟨compE_B kf92_ok Try.func92 (by decide) hρ mixed, compE_B kf99_ok Try.func99 (by decide) hρ mixed⟩⟩⟩⟩⟩⟩
theorem known_check : check tabA 1000 9 [] = true := by kernel_rfl
theorem known_calls (w : World) (hm : hasM 0 w) : Calls Try.prog 9 #[] w fun e w' => e = .returned (.bool true) ∧ Below w.heap.size w w' :=
  check_call (ρ := fun _ => .bool false) tabA_K (tabA_B (fun _ => rfl) hm) known_check (xs := []) rfl
noncomputable def tab (hyp : List (Nat × Nat × Nat)) : BT :=
  (.node 48 (.node 27 (.node 19 (.node 10 (.node 5 (.leaf 5 (compE 100000 Try.prog Try.f5 [[0, 1, 2], [0, 1, 2, 9], [9, 18, 19, 20, 21]] kf5))
  (.node 9 (.leaf 9 (hookE trueG))
  (.leaf 10 (compE 100000 Try.prog Try.f10 [[1], [1, 5], [1, 5, 30, 31, 32], [1, 5, 30, 31, 32], [1, 5, 30, 31, 32], [1, 5, 7, 8, 30, 31, 32], [1, 5, 10], [5], [5, 69, 70, 71], [5, 69, 70, 71], [5, 69, 70, 71], [5, 13, 14, 69, 70, 71], [5, 13, 14, 69, 70, 71, 86, 87, 88], [5, 13, 14, 69, 70, 71, 86, 87, 88], [5, 13, 14, 69, 70, 71, 86, 87, 88], [5, 13, 14, 17, 69, 70, 71, 86, 87, 88]] kf10))))
  (.node 12 (.leaf 12 (hookE (withinG hyp)))
  (.node 13 (.leaf 13 (compE 100000 Try.prog Try.f13 [[0, 1, 2, 8, 9, 11], [0, 1, 2, 8, 9], [0, 1, 2], [9], [0, 2, 9, 49, 50, 51], [0, 2, 9, 49, 50, 51], [0, 2, 9, 49, 50, 51], [1, 16], [0, 1, 16, 73, 74, 75], [0, 1, 16, 73, 74, 75], [0, 1, 16, 73, 74, 75], [0, 1, 16, 21, 73, 74, 75]] kf13))
  (.leaf 19 (compE 100000 Try.prog Try.f19 [[7]] kf19)))))
  (.node 23 (.node 21 (.leaf 21 (compE 100000 Try.prog Try.f21 [] kf21))
  (.node 22 (.leaf 22 (compE 100000 Try.prog Try.f22 [] kf22))
  (.leaf 23 (compE 100000 Try.prog Try.f23 [[0, 1, 4]] kf23))))
  (.node 25 (.node 24 (.leaf 24 (compE 100000 Try.prog Try.f24 [[1], [1], [1, 4], [1, 4, 33, 34, 35], [1, 4, 33, 34, 35], [1, 4, 33, 34, 35], [1, 4], [1, 4], [1, 4], [1, 4, 62, 63, 64], [1, 4, 62, 63, 64], [1, 4, 62, 63, 64], []] kf24))
  (.leaf 25 (compE 100000 Try.prog Try.f25 [[0]] kf25)))
  (.node 26 (.leaf 26 (compE 100000 Try.prog Try.f26 [] kf26))
  (.leaf 27 (compE 100000 Try.prog Try.f27 [[], [], [], [3], [3, 4], [13]] kf27))))))
  (.node 41 (.node 30 (.node 28 (.leaf 28 (compE 100000 Try.prog Try.f28 [[0, 1, 2]] kf28))
  (.node 29 (.leaf 29 (compE 100000 Try.prog Try.f29 [[], [0, 1, 13, 14], [0, 1, 13, 14], [0, 1, 13, 14], [0, 1, 13, 14], [0, 1, 13, 14], [0, 6, 13, 14]] kf29))
  (.leaf 30 (compE 100000 Try.prog Try.f30 [[2], [2, 6, 12, 38], [2, 6, 12, 76]] kf30))))
  (.node 39 (.node 37 (.leaf 37 (compE 100000 Try.prog Try.f37 [[0]] kf37))
  (.leaf 39 (compE 100000 Try.prog Try.f39 [[0, 2, 4], [0, 8], [0, 2, 8, 42, 43, 44], [0, 2, 8, 42, 43, 44], [0, 2, 8, 42, 43, 44], [0, 2, 8, 11, 42, 43, 44]] kf39)))
  (.node 40 (.leaf 40 (compE 100000 Try.prog Try.f40 [[0]] kf40))
  (.leaf 41 (compE 100000 Try.prog Try.f41 [[], [0, 5, 6, 7], [0, 5, 6, 7], [0, 5, 6, 7]] kf41)))))
  (.node 44 (.node 42 (.leaf 42 (compE 100000 Try.prog Try.f42 [[3], [3, 8, 9, 10], [3, 8, 9, 10], [3, 8, 9, 10]] kf42))
  (.node 43 (.leaf 43 (compE 100000 Try.prog Try.f43 [[0, 2, 4], [0, 2, 4], [], [0, 2, 98, 99, 100], [0, 2, 98, 99, 100], [0, 2, 98, 99, 100]] kf43))
  (.leaf 44 (compE 100000 Try.prog Try.f44 [[], [0, 1, 8, 9, 10], [0, 1, 8, 9, 10], [0, 1, 8, 9, 10], [0, 1, 6, 8, 9, 10]] kf44))))
  (.node 46 (.node 45 (.leaf 45 (compE 100000 Try.prog Try.f45 [[2, 3, 5], [2, 3, 5, 16, 17, 18], [2, 3, 5, 16, 17, 18], [2, 3, 5, 16, 17, 18], [2, 3], [3, 8], [2, 3, 8, 38, 39], [2, 3, 8, 38, 39], [2, 3, 8, 38, 39], [2, 3, 8, 38, 39, 42, 43, 44], [2, 3, 8, 38, 39, 42, 43, 44], [2, 3, 8, 38, 39, 42, 43, 44]] kf45))
  (.leaf 46 (compE 100000 Try.prog Try.f46 [] kf46)))
  (.node 47 (.leaf 47 (compE 100000 Try.prog Try.f47 [[1, 3], [1, 3, 9, 10, 11], [1, 3, 9, 10, 11], [1, 3, 9, 10, 11], [3], [3, 27, 28, 29], [3, 27, 28, 29], [3, 27, 28, 29]] kf47))
  (.leaf 48 (compE 100000 Try.prog Try.f48 [[0, 3], [0, 3, 5], [0, 3, 5, 23], [0, 3, 5, 23]] kf48)))))))
  (.node 72 (.node 55 (.node 51 (.node 49 (.leaf 49 (compE 100000 Try.prog Try.f49 [] kf49))
  (.node 50 (.leaf 50 containsE)
  (.leaf 51 (compE 100000 Try.prog Try.f51 [] kf51))))
  (.node 53 (.node 52 (.leaf 52 (compE 100000 Try.prog Try.f52 [[0, 1, 2, 7]] kf52))
  (.leaf 53 (compE 100000 Try.prog Try.f53 [[1, 3]] kf53)))
  (.node 54 (.leaf 54 (compE 100000 Try.prog Try.f54 [[], [2, 7, 8, 9], [2, 7, 8, 9], [2, 7, 8, 9]] kf54))
  (.leaf 55 (compE 100000 Try.prog Try.f55 [[2]] kf55)))))
  (.node 68 (.node 56 (.leaf 56 (compE 100000 Try.prog Try.f56 [[1, 4], [1, 4]] kf56))
  (.node 67 (.leaf 67 (compE 100000 Try.prog Try.f67 [[0, 3, 6], [0, 3, 6]] kf67))
  (.leaf 68 (compE 100000 Try.prog Try.f68 [[], [1, 4, 5], [1, 9]] kf68))))
  (.node 70 (.node 69 (.leaf 69 (compE 100000 Try.prog Try.f69 [[1], [1], [1, 10, 11, 12], [1, 10, 11, 12], [1, 10, 11, 12], []] kf69))
  (.leaf 70 (compE 100000 Try.prog Try.f70 [[], [0, 8, 9, 10], [0, 8, 9, 10], [0, 8, 9, 10]] kf70)))
  (.node 71 (.leaf 71 (compE 100000 Try.prog Try.f71 [[3, 4, 5], []] kf71))
  (.leaf 72 (compE 100000 Try.prog Try.f72 [[], [0, 1, 7, 8], [0, 1, 7, 8], [0, 1, 7, 8]] kf72))))))
  (.node 85 (.node 76 (.node 73 (.leaf 73 (compE 100000 Try.prog Try.f73 [] kf73))
  (.node 74 (.leaf 74 (compE 100000 Try.prog Try.f74 [] kf74))
  (.leaf 76 (compE 100000 Try.prog Try.f76 [[0, 1, 2], [0, 9, 11]] kf76))))
  (.node 78 (.node 77 (.leaf 77 (compE 100000 Try.prog Try.f77 [] kf77))
  (.leaf 78 (compE 100000 Try.prog Try.f78 [] kf78)))
  (.node 84 (.leaf 84 (compE 100000 Try.prog Try.f84 [] kf84))
  (.leaf 85 (compE 100000 Try.prog Try.f85 [] kf85)))))
  (.node 88 (.node 86 (.leaf 86 (compE 100000 Try.prog Try.f86 [] kf86))
  (.node 87 (.leaf 87 (compE 100000 Try.prog Try.f87 [[0], [0, 1, 7], [0, 1, 7, 8]] kf87))
  (.leaf 88 (compE 100000 Try.prog Try.f88 [] kf88))))
  (.node 91 (.node 89 (.leaf 89 (compE 100000 Try.prog Try.f89 [] kf89))
  (.leaf 91 (compE 100000 Try.prog Try.f91 [[], [0, 3, 5, 6, 15, 16, 17], [0, 3, 5, 6, 15, 16, 17], [0, 3, 5, 6, 15, 16, 17], [0, 3, 5, 6, 9, 11, 15, 16, 17], [0, 3, 5, 6, 12, 13, 15, 16, 17]] kf91)))
  (.node 92 (.leaf 92 (compE 100000 Try.prog Try.f92 [[], [0, 4, 5, 10, 11], [0, 4, 5, 10, 11], [0, 4, 5, 10, 11]] kf92))
  (.leaf 99 (compE 100000 Try.prog Try.f99 [[], [0, 1, 7, 8], [0, 1, 7, 8], [0, 1, 7, 8]] kf99))))))))
theorem tab_K (hyp : List (Nat × Nat × Nat)) : (tab hyp).all fun _ e => BodyKOK e.k e.b := ⟨⟨⟨⟨⟨compE_K kf5_ok, ⟨hookE_K _, compE_K kf10_ok⟩⟩, ⟨hookE_K _, ⟨compE_K kf13_ok, compE_K kf19_ok⟩⟩⟩, ⟨⟨compE_K kf21_ok, ⟨compE_K kf22_ok, compE_K kf23_ok⟩⟩, ⟨⟨compE_K kf24_ok, compE_K kf25_ok⟩, ⟨compE_K kf26_ok, compE_K kf27_ok⟩⟩⟩⟩, ⟨⟨⟨compE_K kf28_ok, ⟨compE_K kf29_ok, compE_K kf30_ok⟩⟩, ⟨⟨compE_K kf37_ok, compE_K kf39_ok⟩, ⟨compE_K kf40_ok, compE_K kf41_ok⟩⟩⟩, ⟨⟨compE_K kf42_ok, ⟨compE_K kf43_ok, compE_K kf44_ok⟩⟩, ⟨⟨compE_K kf45_ok, compE_K kf46_ok⟩, ⟨compE_K kf47_ok, compE_K kf48_ok⟩⟩⟩⟩⟩, ⟨⟨⟨⟨compE_K kf49_ok, ⟨containsE_K, compE_K kf51_ok⟩⟩, ⟨⟨compE_K kf52_ok, compE_K kf53_ok⟩, ⟨compE_K kf54_ok, compE_K kf55_ok⟩⟩⟩, ⟨⟨compE_K kf56_ok, ⟨compE_K kf67_ok, compE_K kf68_ok⟩⟩, ⟨⟨compE_K kf69_ok, compE_K kf70_ok⟩, ⟨compE_K kf71_ok, compE_K kf72_ok⟩⟩⟩⟩, ⟨⟨⟨compE_K kf73_ok, ⟨compE_K kf74_ok, compE_K kf76_ok⟩⟩, ⟨⟨compE_K kf77_ok, compE_K kf78_ok⟩, ⟨compE_K kf84_ok, compE_K kf85_ok⟩⟩⟩, ⟨⟨compE_K kf86_ok, ⟨compE_K kf87_ok, compE_K kf88_ok⟩⟩, ⟨⟨compE_K kf89_ok, compE_K kf91_ok⟩, ⟨compE_K kf92_ok, compE_K kf99_ok⟩⟩⟩⟩⟩⟩
theorem tab_B {ρ : Nat → Value} {W : World} {hyp : List (Nat × Nat × Nat)} (hρ : ∀ i, (ρ i).oneCell' = true) (hm : hasM 0 W) (hh : HypOK ρ hyp) : (tab hyp).all fun i e => BodyOK Try.prog ρ ⟨W.heap.size, W⟩ i e.b :=
  ⟨⟨⟨⟨⟨compE_B kf5_ok Try.func5 (by decide) hρ mixed, ⟨trueE_B Try.func9 (by kernel_rfl) (by decide) hm known_calls, compE_B kf10_ok Try.func10 (by decide) hρ mixed⟩⟩, ⟨withinE_B Try.func12 (by kernel_rfl) (by decide) hh within12_calls, ⟨compE_B kf13_ok Try.func13 (by decide) hρ mixed, compE_B kf19_ok Try.func19 (by decide) hρ mixed⟩⟩⟩, ⟨⟨compE_B kf21_ok Try.func21 (by decide) hρ mixed, ⟨compE_B kf22_ok Try.func22 (by decide) hρ mixed, compE_B kf23_ok Try.func23 (by decide) hρ mixed⟩⟩, ⟨⟨compE_B kf24_ok Try.func24 (by decide) hρ mixed, compE_B kf25_ok Try.func25 (by decide) hρ mixed⟩, ⟨compE_B kf26_ok Try.func26 (by decide) hρ mixed, compE_B kf27_ok Try.func27 (by decide) hρ mixed⟩⟩⟩⟩, ⟨⟨⟨compE_B kf28_ok Try.func28 (by decide) hρ mixed, ⟨compE_B kf29_ok Try.func29 (by decide) hρ mixed, compE_B kf30_ok Try.func30 (by decide) hρ mixed⟩⟩, ⟨⟨compE_B kf37_ok Try.func37 (by decide) hρ mixed, compE_B kf39_ok Try.func39 (by decide) hρ mixed⟩, ⟨compE_B kf40_ok Try.func40 (by decide) hρ mixed, compE_B kf41_ok Try.func41 (by decide) hρ mixed⟩⟩⟩, ⟨⟨compE_B kf42_ok Try.func42 (by decide) hρ mixed, ⟨compE_B kf43_ok Try.func43 (by decide) hρ mixed, compE_B kf44_ok Try.func44 (by decide) hρ mixed⟩⟩, ⟨⟨compE_B kf45_ok Try.func45 (by decide) hρ mixed, compE_B kf46_ok Try.func46 (by decide) hρ mixed⟩, ⟨compE_B kf47_ok Try.func47 (by decide) hρ mixed, compE_B kf48_ok Try.func48 (by decide) hρ mixed⟩⟩⟩⟩⟩, ⟨⟨⟨⟨compE_B kf49_ok Try.func49 (by decide) hρ mixed, ⟨containsE_B Try.func50 (by kernel_rfl) (by decide) hm fun s sub m w hs hm => Try.strings_Contains s sub m w hs hm, compE_B kf51_ok Try.func51 (by decide) hρ mixed⟩⟩, ⟨⟨compE_B kf52_ok Try.func52 (by decide) hρ mixed, compE_B kf53_ok Try.func53 (by decide) hρ mixed⟩, ⟨compE_B kf54_ok Try.func54 (by decide) hρ mixed, compE_B kf55_ok Try.func55 (by decide) hρ mixed⟩⟩⟩, ⟨⟨compE_B kf56_ok Try.func56 (by decide) hρ mixed, ⟨compE_B kf67_ok Try.func67 (by decide) hρ mixed, compE_B kf68_ok Try.func68 (by decide) hρ mixed⟩⟩, ⟨⟨compE_B kf69_ok Try.func69 (by decide) hρ mixed, compE_B kf70_ok Try.func70 (by decide) hρ mixed⟩, ⟨compE_B kf71_ok Try.func71 (by decide) hρ mixed, compE_B kf72_ok Try.func72 (by decide) hρ mixed⟩⟩⟩⟩, ⟨⟨⟨compE_B kf73_ok Try.func73 (by decide) hρ mixed, ⟨compE_B kf74_ok Try.func74 (by decide) hρ mixed, compE_B kf76_ok Try.func76 (by decide) hρ mixed⟩⟩, ⟨⟨compE_B kf77_ok Try.func77 (by decide) hρ mixed, compE_B kf78_ok Try.func78 (by decide) hρ mixed⟩, ⟨compE_B kf84_ok Try.func84 (by decide) hρ mixed, compE_B kf85_ok Try.func85 (by decide) hρ mixed⟩⟩⟩, ⟨⟨compE_B kf86_ok Try.func86 (by decide) hρ mixed, ⟨compE_B kf87_ok Try.func87 (by decide) hρ mixed, compE_B kf88_ok Try.func88 (by decide) hρ mixed⟩⟩, ⟨⟨compE_B kf89_ok Try.func89 (by decide) hρ mixed, compE_B kf91_ok Try.func91 (by decide) hρ mixed⟩, ⟨compE_B kf92_ok Try.func92 (by decide) hρ mixed, compE_B kf99_ok Try.func99 (by decide) hρ mixed⟩⟩⟩⟩⟩⟩
end Go.Proofs.Ythhmgleopaojiaa
