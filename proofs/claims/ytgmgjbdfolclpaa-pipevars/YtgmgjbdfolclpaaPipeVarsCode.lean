/- The code of the law and of all that it calls, for the evaluator; what stands in for the library's. No condition. -/
import Derived.Test.YtgmgjbdfolclpaaRows
import Derived.Test.YtgmgjbdfolclpaaShelf
import Derived.WalkKit
import Derived.Test.YtgmgjbdfolclpaaEvc8
import Derived.Test.YtgmgjbdfolclpaaPlace
namespace Go.Proofs.Ytgmgjbdfolclpaa
open Eva Go.RowKit
set_option linter.unusedVariables false
noncomputable def kf3 : KFn := { params := [w0, w1], res := [(.s r4)], body :=
 (.seq
 (.reg [.p (o1 mvG (ctK (.bool false))) w4])
 (.seq
 (.seq
 (.reg [.p (callO 4 []) pushW, .p (o1 notG l0) w21])
 (.cond r21
 (.seq
 (.reg [.p (o1 mvG (ctK (.bool false))) w4])
 .ret)
 .skip))
 (.seq
 (.reg [.p (callO 5 []) pushW, .p (o1 (extG 0) l0) pushW, .p (o1 (extG 1) l1) pushW, .p (allocO [(.int .i64 (Int.ofNat 0)), .snil, .snil]) w6, .p (o1 mvG l1) w5, .p (o2 (storeG 3) r6 l0) noW])
 (.seq
 (.seq
 (.reg [.p (o2 (eqG (slowEq (.one .p)) false) r5 (ctK .pnil)) w27])
 (.cond r27
 (.seq
 (.reg [.p (o1 mvG (ctK (.bool false))) w4])
 .ret)
 .skip))
 (.seq
 (.reg [.p (allocO [(.int .i64 (Int.ofNat 0)), (.int .i64 (Int.ofNat 0))]) w7])
 (.seq
 (.seq
 (.reg [.p (o1 mvG (ctK (.int .i64 (Int.ofNat 0)))) w8])
 (.block 0
 (.loop
 (.seq
 (.seq
 (.reg [.p (o1 lenLG r0) pushW, .p (o2 (binG (cmpB .lss ltI)) r8 l0) pushW, .g l0 true false none (o1 mvG r8) pushW, .g l1 true false none (o2 (binG (cmpB .lss ltI)) l0 (ctK (.int .i64 (Int.ofNat 10)))) pushW, .p (o3 pickG l2 l0 (ctK (.bool false))) w35])
 (.cond r35
 .skip
 (.exit 0)))
 (.seq
 (.block 1
 (.seq
 (.drw [.p (o2 (iaddrG 1) r0 r8) w40, .p (o1 load1G r40) pushW, .m (callO 7 [r5]) pushW (some [40]), .m (callO 6 [l1, l0]) pushW (some []), .p (o1 mvG l0) w9] [])
 (.seq
 (.reg [.p (o2 (binG addB) r1 r8) pushW, .p (callO 6 [l0, (ctK (.int .i64 (Int.ofNat 2)))]) pushW, .p (o1 mvG l0) w10])
 (.seq
 (.reg [.p (o2 (binG addB) r9 (ctK (.int .i64 (Int.ofNat 1)))) pushW, .p (o2 (iaddrAG 2 1) r7 r10) pushW, .p (o2 (storeG 1) l0 l1) noW])
 (.drw [.p (o1 (faddrG 1) r6) pushW, .p (o1 load1G l0) pushW, .p (bslO 1 2 [(.str 0 0), (.str 0 0)] [(0, 1, (ctK (.str 1 105))), (1, 1, (ctK (.str 1 116)))]) pushW, .p (o2 (iaddrG 1) l0 r10) pushW, .p (o1 load1G l0) pushW, .p (buildO [(.str 0 0), (.int .i64 (Int.ofNat 0))] [(0, 1, l0), (1, 1, r9)]) pushW, .p (bslO 2 1 [(.str 0 0), (.int .i64 (Int.ofNat 0))] [(0, 2, l0)]) pushW, .p (o2 (appG 2) l5 l0) pushW, .p (o1 (faddrG 1) r6) pushW, .p (o2 (storeG 1) l0 l1) noW] [])))))
 (.reg [.p (o1 mvG r8) pushW, .p (o2 (binG addB) l0 (ctK (.int .i64 (Int.ofNat 1)))) pushW, .p (o1 mvG l0) w8]))))))
 (.seq
 (.seq
 (.reg [.p (o1 mvG (ctK (.int .i64 (Int.ofNat 0)))) w11])
 (.block 2
 (.loop
 (.seq
 (.seq
 (.reg [.p (o2 (binG (cmpB .lss ltI)) r11 (ctK (.int .i64 (Int.ofNat 2)))) w65])
 (.cond r65
 .skip
 (.exit 2)))
 (.seq
 (.block 3
 (.seq
 (.reg [.p (bslO 1 2 [(.str 0 0), (.str 0 0)] [(0, 1, (ctK (.str 2 26916))), (1, 1, (ctK (.str 2 29732)))]) pushW, .p (o2 (iaddrG 1) l0 r11) pushW, .p (o1 load1G l0) pushW, .p (callO 8 [l0]) pushW, .p (o1 (extG 0) l0) pushW, .p (o1 (extG 1) l1) pushW, .p (o1 mvG l1) w12])
 (.seq
 (.reg [.p (o1 (loadnG 3) r6) pushW, .p (callO 9 [r5, l0, r12]) pushW, .p (o1 (extG 0) l0) pushW, .p (o1 (extG 1) l1) pushW, .p (o1 mvG l1) w14, .p (o1 mvG l0) w15])
 (.seq
 (.reg [.p (o2 (iaddrAG 2 1) r7 r11) pushW, .p (o1 load1G l0) pushW, .p (o2 (eqG eqIV false) l0 (ctK (.int .i64 (Int.ofNat 0)))) pushW, .g l0 true false none (o1 mvG r15) pushW, .g l1 true false none (o2 (eqG eqIV true) l0 (ctK (.int .i64 (Int.ofNat 15)))) pushW, .p (o3 pickG l2 l0 (ctK (.bool false))) pushW, .g l0 false false none (o1 mvG r11) pushW, .g l1 false false none (o2 (iaddrAG 2 1) r7 l0) pushW, .g l2 false false none (o1 load1G l0) pushW, .g l3 false false none (o2 (binG (cmpB .gtr gtI)) l0 (ctK (.int .i64 (Int.ofNat 0)))) pushW, .g l4 false false none (o1 mvG l0) pushW, .g l0 true false none (o1 mvG r15) pushW, .g l1 true false none (o2 (eqG eqIV true) l0 (ctK (.int .i64 (Int.ofNat 0)))) pushW, .g l2 true false none (o1 mvG l0) pushW, .g l0 false false none (o1 mvG r14) pushW, .g l1 false false none (o1 mvG r11) pushW, .g l2 false false none (o2 (iaddrAG 2 1) r7 l0) pushW, .g l3 false false none (o1 load1G l0) pushW, .g l4 false false none (o2 (binG subB) l0 (ctK (.int .i64 (Int.ofNat 1)))) pushW, .g l5 false false none (o2 (eqG eqIV true) l4 l0) pushW, .g l9 true false none (o3 pickG l6 (ctK (.bool true)) l0) pushW, .g l15 false false none (o3 pickG l10 l0 (ctK (.bool false))) pushW, .p (o3 pickG l16 (ctK (.bool true)) l0) w108])
 (.cond r108
 (.seq
 (.reg [.p (o1 mvG (ctK (.bool false))) w4])
 .ret)
 .skip)))))
 (.reg [.p (o1 mvG r11) pushW, .p (o2 (binG addB) l0 (ctK (.int .i64 (Int.ofNat 1)))) pushW, .p (o1 mvG l0) w11]))))))
 (.seq
 (.reg [.p (o1 (loadnG 3) r6) pushW, .p (callO 10 [r5, l0, (ctK (.str 2 26926))]) pushW, .p (o1 (extG 0) l0) pushW, .p (o1 (extG 1) l1) pushW, .p (o1 mvG l1) w16, .p (o1 mvG l0) w17])
 (.seq
 (.reg [.p (o1 (loadnG 3) r6) pushW, .p (callO 10 [r5, l0, (ctK (.str 2 29742))]) pushW, .p (o1 (extG 0) l0) pushW, .p (o1 (extG 1) l1) pushW, .p (o1 mvG l1) w18, .p (o1 mvG l0) w19])
 (.seq
 (.reg [.p (o2 (eqG eqIV false) r17 (ctK (.int .i64 (Int.ofNat 0)))) pushW, .g l0 true false none (o1 mvG r19) pushW, .g l1 true false none (o2 (eqG eqIV false) l0 (ctK (.int .i64 (Int.ofNat 0)))) pushW, .p (o3 pickG l2 l0 (ctK (.bool false))) pushW, .g l0 true false none (o1 mvG r16) pushW, .g l1 true false none (o2 (eqG eqIV false) l0 (ctK (.int .i64 (Int.ofNat 2)))) pushW, .p (o3 pickG l2 l0 (ctK (.bool false))) pushW, .g l0 true false none (o1 mvG r18) pushW, .g l1 true false none (o2 (eqG eqIV false) l0 (ctK (.int .i64 (Int.ofNat 3)))) pushW, .p (o3 pickG l2 l0 (ctK (.bool false))) pushW, .p (o1 mvG l0) w4])
 .ret)))))))))) }
theorem kf3_ok : (compFn Try.prog Try.f3 [[0, 1], [0, 1, 5, 6], [5, 6, 7], [0, 1, 5, 6, 7, 8], [0, 1, 5, 6, 7, 8], [0, 1, 5, 6, 7, 8], [5, 6], [5, 6, 7, 11], [5, 6, 7, 11], [5, 6, 7, 11]]).bind (toKFn [13, 20, 22, 23, 24, 25, 26, 28, 29, 30, 31, 32, 33, 34, 36, 37, 38, 39, 41, 42, 43, 44, 45, 46, 47, 48, 49, 50, 51, 52, 53, 54, 55, 56, 57, 58, 59, 60, 61, 62, 63, 64, 66, 67, 68, 69, 70, 71, 72, 73, 74, 75, 76, 77, 78, 79, 80, 81, 82, 83, 84, 85, 86, 87, 88, 89, 90, 91, 92, 93, 94, 95, 96, 97, 98, 99, 100, 101, 102, 103, 104, 105, 106, 107, 109, 110, 111, 112, 113, 114, 115, 116, 117, 118, 119, 120, 121, 122, 123, 124, 125, 126, 127, 128, 129, 130, 131, 132, 133, 134] 2) = some kf3 := by kernel_rfl
noncomputable def kf4 : KFn := { params := [], res := [(.s r0)], body :=
 (.seq
 (.reg [.p (o1 mvG (ctK (.bool false))) w0])
 (.seq
 (.reg [.p (bslO 1 1 [(.str 0 0)] [(0, 1, (ctK (.str 1 97)))]) pushW, .p (buildO [(.int .i64 (Int.ofNat 0)), (.str 0 0), .snil, .snil] [(0, 1, (ctK (.int .i64 (Int.ofNat 3))))]) pushW, .p (bslO 4 1 [(.int .i64 (Int.ofNat 0)), (.str 0 0), .snil, .snil] [(0, 4, l0)]) pushW, .p (buildO [(.int .i64 (Int.ofNat 0)), (.str 0 0), .snil, .snil] [(0, 1, (ctK (.int .i64 (Int.ofNat 7)))), (2, 1, l2), (3, 1, l0)]) pushW, .p (buildO [(.int .i64 (Int.ofNat 0)), (.str 0 0), .snil, .snil, .snil, .snil] [(0, 4, l0)]) pushW, .p (allocO [(.int .i64 (Int.ofNat 0)), (.str 0 0), .snil, .snil, .snil, .snil]) w1, .p (o2 (storeG 6) r1 l0) noW])
 (.seq
 (.reg [.p (o1 (loadnG 6) r1) pushW, .p (callO 11 [l0]) pushW, .p (o1 (extG 0) l0) pushW, .p (o1 (extG 1) l1) pushW, .p (o1 mvG l1) w2])
 (.seq
 (.reg [.p (callO 8 [(ctK (.str 8 7954883203597099310))]) pushW, .p (o1 (extG 0) l0) pushW, .p (o1 (extG 1) l1) pushW, .p (o1 mvG l1) w4])
 (.seq
 (.seq
 (.reg [.p (o2 (eqG (slowEq (.one .p)) false) r2 (ctK .pnil)) w25])
 (.cond r25
 (.seq
 (.reg [.p (o1 mvG (ctK (.bool false))) w0])
 .ret)
 .skip))
 (.seq
 (.reg [.p (callO 12 [r2]) pushW, .p (buildO [(.int .i64 (Int.ofNat 0)), .snil, .snil] [(0, 1, l0)]) pushW, .p (callO 9 [r2, l0, r4]) pushW, .p (o1 (extG 0) l0) pushW, .p (o1 (extG 1) l1) pushW, .p (o1 mvG l1) w6, .p (o1 mvG l0) w7])
 (.seq
 (.reg [.p (callO 13 [r2, r6]) pushW, .p (o1 (extG 0) l0) pushW, .p (o1 (extG 1) l1) pushW, .p (allocO [(.int .i64 (Int.ofNat 0)), (.str 0 0), .snil, .snil]) w8, .p (o2 (storeG 4) r8 l1) noW])
 (.seq
 (.reg [.p (o2 (eqG eqIV false) r7 (ctK (.int .i64 (Int.ofNat 0)))) pushW, .g l0 true false none (o1 (faddrG 0) r8) pushW, .g l1 true false none (o1 load1G l0) pushW, .g l2 true false none (o2 (eqG eqIV false) l0 (ctK (.int .i64 (Int.ofNat 2)))) pushW, .p (o3 pickG l3 l0 (ctK (.bool false))) pushW, .p (o1 mvG l0) w0])
 .ret)))))))) }
theorem kf4_ok : (compFn Try.prog Try.f4 [[2, 4]]).bind (toKFn [3, 5, 9, 10, 11, 12, 13, 14, 15, 16, 17, 18, 19, 20, 21, 22, 23, 24, 26, 27, 28, 29, 30, 31, 32, 33, 34, 35, 36, 37, 38, 39, 40, 41, 42, 43, 44, 45, 46, 47] 0) = some kf4 := by kernel_rfl
noncomputable def kf11 : KFn := { params := [w0], res := [(.s r2), (.s r3)], body :=
 (.seq
 (.reg [.p (o1 boxG r0) w1, .p (o1 mvG (ctK .pnil)) w2, .p (o1 mvG (ctK (.int .i64 (Int.ofNat 0)))) w3])
 (.seq
 (.seq
 (.reg [.p (o1 (loadnG 6) r1) pushW, .p (callO 19 [l0]) pushW, .p (o1 mvG l0) w4])
 (.seq
 (.reg [.p (o2 (eqG eqIV true) r4 (ctK (.int .i64 (Int.ofNat 0)))) w22])
 (.cond r22
 (.seq
 (.reg [.p (o1 mvG (ctK .pnil)) w2, .p (o1 mvG r4) w3])
 .ret)
 .skip)))
 (.seq
 (.reg [.p mkmapO pushW, .p mkmapO pushW, .p mkmapO pushW, .p (buildO [.snil, .mnil, .mnil, (.int .i64 (Int.ofNat 0)), .mnil] [(1, 1, l2), (2, 1, l1), (4, 1, l0)]) pushW, .p (o1 boxG l0) pushW, .p (o1 mvG l0) w5])
 (.seq
 (.seq
 (.reg [.p (o1 (faddrG 4) r1) pushW, .p (o1 load1G l0) w30, .p (o1 lenLG r30) w31, .p (o1 mvG (ctK (.int .i64 (Int.ofNat 0)))) w32])
 (.block 0
 (.loop
 (.seq
 (.reg [.p (o2 (binG (cmpB .lss ltI)) r32 r31) w33])
 (.seq
 (.cond r33
 .skip
 (.exit 0))
 (.seq
 (.block 1
 (.seq
 (.reg [.p (o2 (iaddrG 5) r30 r32) pushW, .p (o1 (loadnG 5) l0) pushW, .p (allocO [(.str 0 0), (.int .i64 (Int.ofNat 0)), (.str 0 0), .snil, .snil]) w7, .p (o2 (storeG 5) r7 l0) noW])
 (.seq
 (.reg [.p (o1 (faddrG 1) r7) pushW, .p (o1 (loadnG 4) l0) pushW, .p (callO 20 [r5, l0]) pushW, .p (o1 (extG 0) l0) pushW, .p (o1 (extG 1) l1) pushW, .p (o1 mvG l1) w8, .p (o1 mvG l0) w9])
 (.seq
 (.seq
 (.reg [.p (o2 (eqG eqIV true) r9 (ctK (.int .i64 (Int.ofNat 0)))) w44])
 (.cond r44
 (.seq
 (.reg [.p (o1 mvG (ctK .pnil)) w2, .p (o1 mvG r9) w3])
 .ret)
 .skip))
 (.drw [.p (o1 nilckG r5) pushW, .p (o1 (faddrG 2) l0) pushW, .p (o1 load1G l0) pushW, .p (o1 (faddrG 0) r7) pushW, .p (o1 load1G l0) pushW, .p (o3 (mupdG (.one .s)) l2 l0 r8) noW] [])))))
 (.reg [.p (o2 (binG addB) r32 (ctK (.int .i64 (Int.ofNat 1)))) pushW, .p (o1 mvG l0) w32])))))))
 (.seq
 (.reg [.p (o1 (faddrG 0) r1) pushW, .p (o1 (loadnG 4) l0) pushW, .p (callO 20 [r5, l0]) pushW, .p (o1 (extG 0) l0) pushW, .p (o1 (extG 1) l1) pushW, .p (o1 mvG l1) w10, .p (o1 mvG l0) w11])
 (.seq
 (.seq
 (.reg [.p (o2 (eqG eqIV true) r11 (ctK (.int .i64 (Int.ofNat 0)))) w62])
 (.cond r62
 (.seq
 (.reg [.p (o1 mvG (ctK .pnil)) w2, .p (o1 mvG r11) w3])
 .ret)
 .skip))
 (.seq
 (.reg [.p (o1 nilckG r5) pushW, .p (o1 (faddrG 3) l0) pushW, .p (o2 (storeG 1) l0 r10) noW])
 (.seq
 (.seq
 (.reg [.p (o1 (faddrG 5) r1) pushW, .p (o1 load1G l0) w69, .p (o1 lenLG r69) w70, .p (o1 mvG (ctK (.int .i64 (Int.ofNat 0)))) w71])
 (.block 2
 (.loop
 (.seq
 (.reg [.p (o2 (binG (cmpB .lss ltI)) r71 r70) w72])
 (.seq
 (.cond r72
 .skip
 (.exit 2))
 (.seq
 (.block 3
 (.seq
 (.reg [.p (o2 (iaddrG 6) r69 r71) pushW, .p (o1 (loadnG 6) l0) pushW, .p (allocO [(.str 0 0), .snil, (.int .i64 (Int.ofNat 0)), (.str 0 0), .snil, .snil]) w13, .p (o2 (storeG 6) r13 l0) noW])
 (.seq
 (.reg [.p (o1 (faddrG 1) r13) pushW, .p (o1 load1G l0) pushW, .p (o1 lenLG l0) pushW, .p (o2 (binG addB) l0 (ctK (.int .i64 (Int.ofNat 1)))) pushW, .p (o2 (mkslG 1 [(.int .i64 (Int.ofNat 0))]) (ctK (.int .i64 (Int.ofNat 0))) l0) pushW, .p (o1 mvG l0) w14])
 (.seq
 (.seq
 (.drw [.p (o1 (faddrG 1) r13) pushW, .p (o1 load1G l0) pushW, .m (callO 21 [l0]) pushW none, .p (o1 (faddrG 2) r13) pushW, .p (o1 (loadnG 4) l0) pushW, .p (bslO 4 1 [(.int .i64 (Int.ofNat 0)), (.str 0 0), .snil, .snil] [(0, 4, l0)]) pushW, .p (o2 (appG 4) l3 l0) w86, .p (o1 lenLG r86) w87, .p (o1 mvG (ctK (.int .i64 (Int.ofNat 0)))) w88] [])
 (.block 4
 (.loop
 (.seq
 (.reg [.p (o2 (binG (cmpB .lss ltI)) r88 r87) w89])
 (.seq
 (.cond r89
 .skip
 (.exit 4))
 (.seq
 (.block 5
 (.seq
 (.reg [.p (o2 (iaddrG 4) r86 r88) pushW, .p (o1 (loadnG 4) l0) pushW, .p (allocO [(.int .i64 (Int.ofNat 0)), (.str 0 0), .snil, .snil]) w16, .p (o2 (storeG 4) r16 l0) noW])
 (.seq
 (.reg [.p (o1 (loadnG 4) r16) pushW, .p (callO 20 [r5, l0]) pushW, .p (o1 (extG 0) l0) pushW, .p (o1 (extG 1) l1) pushW, .p (o1 mvG l1) w17, .p (o1 mvG l0) w18])
 (.seq
 (.seq
 (.reg [.p (o2 (eqG eqIV true) r18 (ctK (.int .i64 (Int.ofNat 0)))) w99])
 (.cond r99
 (.seq
 (.reg [.p (o1 mvG (ctK .pnil)) w2, .p (o1 mvG r18) w3])
 .ret)
 .skip))
 (.reg [.p (o1 mvG r14) pushW, .p (bslO 1 1 [(.int .i64 (Int.ofNat 0))] [(0, 1, r17)]) pushW, .p (o2 (appG 1) l1 l0) pushW, .p (o1 mvG l0) w14])))))
 (.reg [.p (o2 (binG addB) r88 (ctK (.int .i64 (Int.ofNat 1)))) pushW, .p (o1 mvG l0) w88])))))))
 (.drw [.p (o1 nilckG r5) pushW, .p (o1 (faddrG 4) l0) pushW, .p (o1 load1G l0) pushW, .p (o1 (faddrG 0) r13) pushW, .p (o1 load1G l0) pushW, .p (o3 (mupdG (.one .s)) l2 l0 r14) noW] [])))))
 (.reg [.p (o2 (binG addB) r71 (ctK (.int .i64 (Int.ofNat 1)))) pushW, .p (o1 mvG l0) w71])))))))
 (.seq
 (.reg [.p (o1 mvG r5) w2, .p (o1 mvG (ctK (.int .i64 (Int.ofNat 0)))) w3])
 .ret))))))))) }
theorem kf11_ok : (compFn Try.prog Try.f11 [[1], [1, 5], [1, 5, 30, 31, 32], [1, 5, 30, 31, 32], [1, 5, 30, 31, 32], [1, 5, 7, 8, 30, 31, 32], [1, 5, 10], [5], [5, 69, 70, 71], [5, 69, 70, 71], [5, 69, 70, 71], [5, 13, 14, 69, 70, 71], [5, 13, 14, 69, 70, 71, 86, 87, 88], [5, 13, 14, 69, 70, 71, 86, 87, 88], [5, 13, 14, 69, 70, 71, 86, 87, 88], [5, 13, 14, 17, 69, 70, 71, 86, 87, 88]]).bind (toKFn [19, 20, 21, 23, 24, 25, 26, 27, 28, 29, 34, 35, 36, 37, 38, 39, 40, 41, 42, 43, 45, 46, 47, 48, 49, 50, 51, 52, 53, 54, 55, 56, 57, 58, 59, 60, 61, 63, 64, 65, 66, 67, 68, 73, 74, 75, 76, 77, 78, 79, 80, 81, 82, 83, 84, 85, 90, 91, 92, 93, 94, 95, 96, 97, 98, 100, 101, 102, 103, 104, 105, 106, 107, 108, 109, 110, 111, 112, 113, 114] 1) = some kf11 := by kernel_rfl
noncomputable def kf19 : KFn := { params := [w0], res := [(.s r2)], body :=
 (.seq
 (.reg [.p (o1 boxG r0) w1, .p (o1 mvG (ctK (.int .i64 (Int.ofNat 0)))) w2])
 (.seq
 (.seq
 (.reg [.p (o1 (faddrG 4) r1) pushW, .p (o1 load1G l0) pushW, .p (o1 lenLG l0) pushW, .p (o2 (binG (cmpB .gtr gtI)) l0 (ctK (.int .i64 (Int.ofNat 12)))) pushW, .g l0 false false none (o1 (faddrG 5) r1) pushW, .g l1 false false none (o1 load1G l0) pushW, .g l2 false false none (o1 lenLG l0) pushW, .g l3 false false none (o2 (binG (cmpB .gtr gtI)) l0 (ctK (.int .i64 (Int.ofNat 12)))) pushW, .p (o3 pickG l4 (ctK (.bool true)) l0) w21])
 (.cond r21
 (.seq
 (.reg [.p (o1 mvG (ctK (.int .i64 (Int.ofNat 3)))) w2])
 .ret)
 .skip))
 (.seq
 (.seq
 (.reg [.p (o1 (faddrG 4) r1) pushW, .p (o1 load1G l0) pushW, .p (callO 32 [l0]) pushW, .p (o1 mvG l0) w3])
 (.seq
 (.reg [.p (o2 (eqG eqIV true) r3 (ctK (.int .i64 (Int.ofNat 0)))) w26])
 (.cond r26
 (.seq
 (.reg [.p (o1 mvG r3) w2])
 .ret)
 .skip)))
 (.seq
 (.reg [.p (o1 (loadnG 6) r1) pushW, .p (callO 33 [l0]) pushW, .p (buildO [.mnil, (.int .i64 (Int.ofNat 0))] [(0, 1, l0)]) pushW, .p (o1 boxG l0) pushW, .p (o1 mvG l0) w4])
 (.seq
 (.seq
 (.reg [.p (o1 (faddrG 4) r1) pushW, .p (o1 load1G l0) w33, .p (o1 lenLG r33) w34, .p (o1 mvG (ctK (.int .i64 (Int.ofNat 0)))) w35])
 (.block 0
 (.loop
 (.seq
 (.reg [.p (o2 (binG (cmpB .lss ltI)) r35 r34) w36])
 (.seq
 (.cond r36
 .skip
 (.exit 0))
 (.seq
 (.block 1
 (.seq
 (.reg [.p (o2 (iaddrG 5) r33 r35) pushW, .p (o1 (loadnG 5) l0) pushW, .p (allocO [(.str 0 0), (.int .i64 (Int.ofNat 0)), (.str 0 0), .snil, .snil]) w6, .p (o2 (storeG 5) r6 l0) noW])
 (.seq
 (.reg [.p (o1 (faddrG 1) r6) pushW, .p (o1 (loadnG 4) l0) pushW, .p (callO 34 [r4, l0, (ctK (.int .i64 (Int.ofNat 1)))]) pushW, .p (o1 mvG l0) w7])
 (.seq
 (.reg [.p (o2 (eqG eqIV true) r7 (ctK (.int .i64 (Int.ofNat 0)))) w44])
 (.cond r44
 (.seq
 (.reg [.p (o1 mvG r7) w2])
 .ret)
 .skip)))))
 (.reg [.p (o2 (binG addB) r35 (ctK (.int .i64 (Int.ofNat 1)))) pushW, .p (o1 mvG l0) w35])))))))
 (.seq
 (.seq
 (.reg [.p (o1 (faddrG 0) r1) pushW, .p (o1 (loadnG 4) l0) pushW, .p (callO 34 [r4, l0, (ctK (.int .i64 (Int.ofNat 1)))]) pushW, .p (o1 mvG l0) w8])
 (.seq
 (.reg [.p (o2 (eqG eqIV true) r8 (ctK (.int .i64 (Int.ofNat 0)))) w52])
 (.cond r52
 (.seq
 (.reg [.p (o1 mvG r8) w2])
 .ret)
 .skip)))
 (.seq
 (.seq
 (.reg [.p (o1 (faddrG 5) r1) pushW, .p (o1 load1G l0) pushW, .p (callO 35 [r4, l0]) pushW, .p (o1 mvG l0) w9])
 (.seq
 (.reg [.p (o2 (eqG eqIV true) r9 (ctK (.int .i64 (Int.ofNat 0)))) w59])
 (.cond r59
 (.seq
 (.reg [.p (o1 mvG r9) w2])
 .ret)
 .skip)))
 (.seq
 (.seq
 (.reg [.p (o1 (faddrG 4) r1) pushW, .p (o1 load1G l0) w62, .p (o1 lenLG r62) w63, .p (o1 mvG (ctK (.int .i64 (Int.ofNat 0)))) w64])
 (.block 2
 (.loop
 (.seq
 (.reg [.p (o2 (binG (cmpB .lss ltI)) r64 r63) w65])
 (.seq
 (.cond r65
 .skip
 (.exit 2))
 (.seq
 (.block 3
 (.seq
 (.reg [.p (o2 (iaddrG 5) r62 r64) pushW, .p (o1 (loadnG 5) l0) pushW, .p (allocO [(.str 0 0), (.int .i64 (Int.ofNat 0)), (.str 0 0), .snil, .snil]) w11, .p (o2 (storeG 5) r11 l0) noW])
 (.seq
 (.reg [.p (o1 (loadnG 6) r1) pushW, .p (o1 (faddrG 1) r11) pushW, .p (o1 (loadnG 4) l0) pushW, .p (callO 36 [l2, l0]) pushW, .p (o1 notG l0) w72])
 (.cond r72
 (.seq
 (.reg [.p (o1 mvG (ctK (.int .i64 (Int.ofNat 14)))) w2])
 .ret)
 .skip))))
 (.reg [.p (o2 (binG addB) r64 (ctK (.int .i64 (Int.ofNat 1)))) pushW, .p (o1 mvG l0) w64])))))))
 (.seq
 (.seq
 (.reg [.p (o1 (loadnG 6) r1) pushW, .p (callO 38 [l0]) pushW, .p (mkfnO 39 [r4] []) pushW, .p (callO 37 [l1, l0]) w78])
 (.cond r78
 (.seq
 (.reg [.p (o1 mvG (ctK (.int .i64 (Int.ofNat 17)))) w2])
 .ret)
 .skip))
 (.seq
 (.reg [.p (o1 mvG (ctK (.int .i64 (Int.ofNat 0)))) w2])
 .ret)))))))))) }
theorem kf19_ok : (compFn Try.prog Try.f19 [[1], [1], [1, 4], [1, 4, 33, 34, 35], [1, 4, 33, 34, 35], [1, 4, 33, 34, 35], [1, 4], [1, 4], [1, 4], [1, 4, 62, 63, 64], [1, 4, 62, 63, 64], [1, 4, 62, 63, 64], []]).bind (toKFn [12, 13, 14, 15, 16, 17, 18, 19, 20, 22, 23, 24, 25, 27, 28, 29, 30, 31, 32, 37, 38, 39, 40, 41, 42, 43, 45, 46, 47, 48, 49, 50, 51, 53, 54, 55, 56, 57, 58, 60, 61, 66, 67, 68, 69, 70, 71, 73, 74, 75, 76, 77] 1) = some kf19 := by kernel_rfl
noncomputable def kf32 : KFn := { params := [w0], res := [(.s r2)], body :=
 (.seq
 (.reg [.p (o1 mvG (ctK (.int .i64 (Int.ofNat 0)))) w2])
 (.seq
 (.seq
 (.reg [.p (o1 mvG r0) w5, .p (o1 lenLG r5) w6, .p (o1 mvG (ctK (.int .i64 (Int.ofNat 0)))) w7])
 (.block 0
 (.loop
 (.seq
 (.reg [.p (o2 (binG (cmpB .lss ltI)) r7 r6) w8])
 (.seq
 (.cond r8
 .skip
 (.exit 0))
 (.seq
 (.block 1
 (.seq
 (.reg [.p (o2 (iaddrG 5) r5 r7) pushW, .p (o1 (loadnG 5) l0) pushW, .p (allocO [(.str 0 0), (.int .i64 (Int.ofNat 0)), (.str 0 0), .snil, .snil]) w4, .p (o1 mvG r7) w3, .p (o2 (storeG 5) r4 l0) noW])
 (.block 2
 (.seq
 (.reg [.p (o1 (faddrG 0) r4) pushW, .p (o1 load1G l0) pushW, .p (callO 60 [l0]) pushW, .p (o1 notG l0) pushW, .g l0 false false none (o1 (faddrG 0) r4) pushW, .g l1 false false none (o1 load1G l0) pushW, .g l2 false false none (o2 (binG addB) (ctK (.str 1 32)) l0) pushW, .g l3 false false none (o2 (binG addB) l0 (ctK (.str 1 32))) pushW, .g l4 false false none (callO 61 [(ctK (.str 34 961356317854820710213059487311157994386979551947476703340595819215633401072534048)), l0]) pushW, .p (o3 pickG l5 (ctK (.bool true)) l0) pushW, .p (o1 mvG l0) w12])
 (.cond r12
 (.seq
 (.reg [.p (o1 mvG (ctK (.int .i64 (Int.ofNat 15)))) w2])
 .ret)
 (.seq
 (.drw [.p (o2 (binG (cmpB .gtr gtI)) r3 (ctK (.int .i64 (Int.ofNat 0)))) pushW, .g l0 true false none (o1 mvG r0) pushW, .g l1 true false none (o1 mvG r3) pushW, .g l2 true false none (o2 (binG subB) l0 (ctK (.int .i64 (Int.ofNat 1)))) pushW, .g l3 true false none (o2 (iaddrG 5) l2 l0) pushW, .g l4 true false none (o1 (faddrG 0) l0) pushW, .g l5 true false none (o1 load1G l0) pushW, .g l6 true false none (o1 (faddrG 0) r4) pushW, .g l7 true false none (o1 load1G l0) pushW, .g l8 true false none (o2 (binG (cmpB .geq geI)) l2 l0) pushW, .p (o3 pickG l9 l0 (ctK (.bool false))) pushW, .p (o1 mvG l0) w24] [])
 (.cond r24
 (.seq
 (.reg [.p (o1 mvG (ctK (.int .i64 (Int.ofNat 6)))) w2])
 .ret)
 .skip)))))))
 (.reg [.p (o2 (binG addB) r7 (ctK (.int .i64 (Int.ofNat 1)))) pushW, .p (o1 mvG l0) w7])))))))
 (.seq
 (.reg [.p (o1 mvG (ctK (.int .i64 (Int.ofNat 0)))) w2])
 .ret))) }
theorem kf32_ok : (compFn Try.prog Try.f32 [[], [0, 5, 6, 7], [0, 5, 6, 7], [0, 5, 6, 7]]).bind (toKFn [9, 10, 11, 13, 14, 15, 16, 17, 18, 19, 20, 21, 22, 23, 25, 26, 27, 28, 29, 30, 31, 32, 33, 34, 35, 36, 37, 38] 1) = some kf32 := by kernel_rfl
noncomputable def kf60 : KFn := { params := [w0], res := [(.s r2)], body :=
 (.seq
 (.reg [.p (o1 mvG (ctK (.bool false))) w2])
 (.seq
 (.reg [.p (o2 (eqG eqSV true) r0 (ctK (.str 0 0))) pushW, .g l0 true false none (o1 mvG r0) pushW, .g l1 true false none (o1 lenSG l0) pushW, .g l2 true false none (o2 (binG (cmpB .leq leI)) l0 (ctK (.int .i64 (Int.ofNat 16)))) pushW, .p (o3 pickG l3 l0 (ctK (.bool false))) pushW, .g l0 true false none (o1 mvG r0) pushW, .g l1 true false none (o2 idxG l0 (ctK (.int .i64 (Int.ofNat 0)))) pushW, .g l2 true false none (callO 77 [l0]) pushW, .g l3 true false none (o1 notG l0) pushW, .p (o3 pickG l4 l0 (ctK (.bool false))) pushW, .g l0 true false none (o1 mvG r0) pushW, .g l1 true false none (callO 78 [l0]) pushW, .g l2 true false none (o1 mvG r0) pushW, .g l3 true false none (o1 lenSG l0) pushW, .g l4 true false none (o2 (eqG eqIV false) l2 l0) pushW, .p (o3 pickG l5 l0 (ctK (.bool false))) pushW, .p (o1 mvG l0) w2])
 .ret)) }
theorem kf60_ok : (compFn Try.prog Try.f60 []).bind (toKFn [3, 4, 5, 6, 7, 8, 9, 10, 11, 12, 13, 14, 15, 16, 17, 18, 19, 20, 21, 22] 1) = some kf60 := by kernel_rfl
noncomputable def kf77 : KFn := { params := [w0], res := [(.s r2)], body :=
 (.seq
 (.reg [.p (o1 mvG (ctK (.bool false))) w2])
 (.seq
 (.reg [.p (o2 (binG (cmpB .geq geI)) r0 (ctK (.int .u8 (Int.ofNat 48)))) pushW, .g l0 true false none (o1 mvG r0) pushW, .g l1 true false none (o2 (binG (cmpB .leq leI)) l0 (ctK (.int .u8 (Int.ofNat 57)))) pushW, .p (o3 pickG l2 l0 (ctK (.bool false))) pushW, .p (o1 mvG l0) w2])
 .ret)) }
theorem kf77_ok : (compFn Try.prog Try.f77 []).bind (toKFn [3, 4, 5, 6, 7, 8] 1) = some kf77 := by kernel_rfl
noncomputable def kf78 : KFn := { params := [w0], res := [(.s r2)], body :=
 (.seq
 (.reg [.p (o1 mvG (ctK (.int .i64 (Int.ofNat 0)))) w2])
 (.seq
 (.reg [.p (callO 85 [r0, (ctK (.fn 86 [] []))]) pushW, .p (o1 mvG l0) w2])
 .ret)) }
theorem kf78_ok : (compFn Try.prog Try.f78 []).bind (toKFn [3, 4] 1) = some kf78 := by kernel_rfl
noncomputable def kf85 : KFn := { params := [w0, w1], res := [(.s r4)], body :=
 (.seq
 (.reg [.p (o1 mvG (ctK (.int .i64 (Int.ofNat 0)))) w4])
 (.seq
 (.seq
 (.reg [.p (o1 rngSG r0) w7])
 (.block 0
 (.loop
 (.seq
 (.reg [.p (o1 nextSG r7) w8, .p (o1 (extG 0) r8) w9])
 (.seq
 (.cond r9
 .skip
 (.exit 0))
 (.block 1
 (.seq
 (.reg [.p (o1 (extG 1) r8) pushW, .p (o1 mvG l0) w5])
 (.seq
 (.reg [.p (o2 idxG r0 r5) pushW, .p (callvO r1 [l0]) pushW, .p (o1 notG l0) w16])
 (.cond r16
 (.seq
 (.reg [.p (o1 mvG r5) w4])
 .ret)
 .skip)))))))))
 (.seq
 (.reg [.p (o1 lenSG r0) pushW, .p (o1 mvG l0) w4])
 .ret))) }
theorem kf85_ok : (compFn Try.prog Try.f85 [[0], [0, 1, 7], [0, 1, 7, 8]]).bind (toKFn [6, 10, 11, 12, 13, 14, 15, 17, 18, 19] 2) = some kf85 := by kernel_rfl
noncomputable def kf86 : KFn := { params := [w0], res := [(.s r2)], body :=
 (.seq
 (.reg [.p (o1 mvG (ctK (.bool false))) w2])
 (.seq
 (.reg [.p (callO 87 [r0]) pushW, .g l0 false false none (o1 mvG r0) pushW, .g l1 false false none (callO 77 [l0]) pushW, .p (o3 pickG l2 (ctK (.bool true)) l0) pushW, .p (o1 mvG l0) w2])
 .ret)) }
theorem kf86_ok : (compFn Try.prog Try.f86 []).bind (toKFn [3, 4, 5, 6, 7, 8] 1) = some kf86 := by kernel_rfl
noncomputable def kf87 : KFn := { params := [w0], res := [(.s r2)], body :=
 (.seq
 (.reg [.p (o1 mvG (ctK (.bool false))) w2])
 (.seq
 (.reg [.p (o2 (eqG eqIV false) r0 (ctK (.int .u8 (Int.ofNat 95)))) pushW, .g l0 false false none (o1 mvG r0) pushW, .g l1 false false none (o2 (binG (slowBin .or)) l0 (ctK (.int .u8 (Int.ofNat 32)))) pushW, .g l2 false false none (o2 (binG (cmpB .geq geI)) l0 (ctK (.int .u8 (Int.ofNat 97)))) pushW, .g l3 false false none (o1 mvG l0) pushW, .g l0 true false none (o1 mvG r0) pushW, .g l1 true false none (o2 (binG (slowBin .or)) l0 (ctK (.int .u8 (Int.ofNat 32)))) pushW, .g l2 true false none (o2 (binG (cmpB .leq leI)) l0 (ctK (.int .u8 (Int.ofNat 122)))) pushW, .g l7 false false none (o3 pickG l3 l0 (ctK (.bool false))) pushW, .p (o3 pickG l8 (ctK (.bool true)) l0) pushW, .p (o1 mvG l0) w2])
 .ret)) }
theorem kf87_ok : (compFn Try.prog Try.f87 []).bind (toKFn [3, 4, 5, 6, 7, 8, 9, 10, 11, 12, 13, 14] 1) = some kf87 := by kernel_rfl
noncomputable def kf33 : KFn := { params := [w0], res := [(.s r2)], body :=
 (.seq
 (.reg [.p (o1 boxG r0) w1, .p (o1 mvG (ctK .mnil)) w2])
 (.seq
 (.reg [.p mkmapO pushW, .p (o1 mvG l0) w3])
 (.seq
 (.seq
 (.reg [.p (o1 (faddrG 4) r1) pushW, .p (o1 load1G l0) w8, .p (o1 lenLG r8) w9, .p (o1 mvG (ctK (.int .i64 (Int.ofNat 0)))) w10])
 (.block 0
 (.loop
 (.seq
 (.reg [.p (o2 (binG (cmpB .lss ltI)) r10 r9) w11])
 (.seq
 (.cond r11
 .skip
 (.exit 0))
 (.seq
 (.block 1
 (.seq
 (.reg [.p (o2 (iaddrG 5) r8 r10) pushW, .p (o1 (loadnG 5) l0) pushW, .p (allocO [(.str 0 0), (.int .i64 (Int.ofNat 0)), (.str 0 0), .snil, .snil]) w5, .p (o2 (storeG 5) r5 l0) noW])
 (.reg [.p (o1 (faddrG 0) r5) pushW, .p (o1 load1G l0) pushW, .p (o1 (faddrG 1) r5) pushW, .p (o1 (loadnG 4) l0) pushW, .p (o3 (mupdG (.one .s)) r3 l2 l0) noW])))
 (.reg [.p (o2 (binG addB) r10 (ctK (.int .i64 (Int.ofNat 1)))) pushW, .p (o1 mvG l0) w10])))))))
 (.seq
 (.reg [.p (o1 mvG r3) w2])
 .ret)))) }
theorem kf33_ok : (compFn Try.prog Try.f33 [[3], [3, 8, 9, 10], [3, 8, 9, 10], [3, 8, 9, 10]]).bind (toKFn [6, 7, 12, 13, 14, 15, 16, 17, 18, 19, 20] 1) = some kf33 := by kernel_rfl
noncomputable def kf34 : KFn := { params := [w0, w1, w2], res := [(.s r6)], body :=
 (.seq
 (.reg [.p (o1 boxG r1) w4, .p (o1 mvG (ctK (.int .i64 (Int.ofNat 0)))) w6])
 (.seq
 (.reg [.p (o1 nilckG r0) pushW, .p (o1 (faddrG 1) l0) pushW, .p (o1 load1G l0) pushW, .p (o2 (binG addB) l0 (ctK (.int .i64 (Int.ofNat 1)))) pushW, .p (o1 nilckG r0) pushW, .p (o1 (faddrG 1) l0) pushW, .p (o2 (storeG 1) l0 l2) noW])
 (.seq
 (.drw [.p (o1 nilckG r0) pushW, .p (o1 (faddrG 0) l0) pushW, .p (o1 load1G l0) pushW, .p (o1 (faddrG 1) r4) pushW, .p (o1 load1G l0) pushW, .p (o2 (lookupG (.one .s) (.agg [(.int .i64 (Int.ofNat 0)), (.str 0 0), .snil, .snil]) true) l2 l0) pushW, .p (o1 (extG 0) l0) pushW, .p (o1 (extG 1) l1) pushW, .p (allocO [(.int .i64 (Int.ofNat 0)), (.str 0 0), .snil, .snil]) pushW, .p (o2 (storeG 4) l0 l2) noW, .p (o1 mvG l1) w8] [])
 (.seq
 (.reg [.p (o1 (faddrG 0) r4) pushW, .p (o1 load1G l0) pushW, .p (o2 (eqG eqIV false) l0 (ctK (.int .i64 (Int.ofNat 7)))) pushW, .g l0 false false none (o1 (faddrG 0) r4) pushW, .g l1 false false none (o1 load1G l0) pushW, .g l2 false false none (o2 (eqG eqIV false) l0 (ctK (.int .i64 (Int.ofNat 8)))) pushW, .p (o3 pickG l3 (ctK (.bool true)) l0) pushW, .p (o1 mvG l0) w9])
 (.seq
 (.block 0
 (.seq
 (.reg [.p (o1 nilckG r0) pushW, .p (o1 (faddrG 1) l0) pushW, .p (o1 load1G l0) pushW, .p (o2 (binG (cmpB .gtr gtI)) l0 (ctK (.int .i64 (Int.ofNat 400)))) pushW, .p (o1 mvG l0) w39])
 (.cond r39
 (.seq
 (.reg [.p (o1 mvG (ctK (.int .i64 (Int.ofNat 3)))) w6])
 .ret)
 (.seq
 (.reg [.p (o2 (binG (cmpB .gtr gtI)) r2 (ctK (.int .i64 (Int.ofNat 12)))) pushW, .p (o1 mvG l0) w45])
 (.cond r45
 (.seq
 (.reg [.p (o1 mvG (ctK (.int .i64 (Int.ofNat 13)))) w6])
 .ret)
 (.seq
 (.reg [.p (o1 (faddrG 0) r4) pushW, .p (o1 load1G l0) pushW, .p (o2 (binG (cmpB .lss ltI)) l0 (ctK (.int .i64 (Int.ofNat 1)))) pushW, .g l0 false false none (o1 (faddrG 0) r4) pushW, .g l1 false false none (o1 load1G l0) pushW, .g l2 false false none (o2 (binG (cmpB .gtr gtI)) l0 (ctK (.int .i64 (Int.ofNat 9)))) pushW, .p (o3 pickG l3 (ctK (.bool true)) l0) pushW, .p (o1 mvG l0) w48])
 (.cond r48
 (.seq
 (.reg [.p (o1 mvG (ctK (.int .i64 (Int.ofNat 1)))) w6])
 .ret)
 (.seq
 (.drw [.p (o1 (faddrG 3) r4) w58, .p (o1 load1G r58) pushW, .p (o1 lenLG l0) pushW, .p (o1 (loadnG 4) r4) pushW, .m (callO 62 [l0]) pushW (some [58]), .p (o2 (eqG eqIV true) l2 l0) pushW, .g l0 false false none (o1 (faddrG 1) r4) pushW, .g l1 false false none (o1 load1G l0) pushW, .g l2 false false none (o2 (eqG eqSV true) l0 (ctK (.str 0 0))) pushW, .g l3 false false none (o1 mvG l0) pushW, .g l0 true false none (o1 (faddrG 0) r4) pushW, .g l1 true false none (o1 load1G l0) pushW, .g l2 true false none (o2 (eqG eqIV true) l0 (ctK (.int .i64 (Int.ofNat 9)))) pushW, .g l7 false false none (o3 pickG l3 l0 (ctK (.bool false))) pushW, .p (o3 pickG l8 (ctK (.bool true)) l0) pushW, .g l0 false false none (o1 (faddrG 2) r4) pushW, .g l1 false false none (o1 load1G l0) pushW, .g l2 false false none (o1 lenLG l0) pushW, .g l3 false false none (o2 (binG (cmpB .gtr gtI)) l0 (ctK (.int .i64 (Int.ofNat 0)))) pushW, .g l4 false false none (o1 mvG l0) pushW, .g l0 true false none (o1 mvG r9) pushW, .g l1 true false none (o1 notG l0) pushW, .g l7 false false none (o3 pickG l2 l0 (ctK (.bool false))) pushW, .p (o3 pickG l8 (ctK (.bool true)) l0) pushW, .p (o1 mvG l0) w57] [])
 (.cond r57
 (.seq
 (.reg [.p (o1 mvG (ctK (.int .i64 (Int.ofNat 12)))) w6])
 .ret)
 (.seq
 (.reg [.p (o1 (faddrG 0) r4) pushW, .p (o1 load1G l0) pushW, .p (o2 (eqG eqIV false) l0 (ctK (.int .i64 (Int.ofNat 9)))) pushW, .g l0 true false none (o1 mvG r8) pushW, .g l1 true false none (o1 notG l0) pushW, .p (o3 pickG l2 l0 (ctK (.bool false))) pushW, .p (o1 mvG l0) w84])
 (.cond r84
 (.seq
 (.reg [.p (o1 mvG (ctK (.int .i64 (Int.ofNat 15)))) w6])
 .ret)
 .skip)))))))))))
 (.seq
 (.seq
 (.reg [.p (o1 (loadnG 4) r4) pushW, .p (callO 63 [l0]) pushW, .p (o1 mvG l0) w10])
 (.seq
 (.reg [.p (o2 (eqG eqIV true) r10 (ctK (.int .i64 (Int.ofNat 0)))) w95])
 (.cond r95
 (.seq
 (.reg [.p (o1 mvG r10) w6])
 .ret)
 .skip)))
 (.seq
 (.seq
 (.reg [.p (o1 (faddrG 3) r4) pushW, .p (o1 load1G l0) w98, .p (o1 lenLG r98) w99, .p (o1 mvG (ctK (.int .i64 (Int.ofNat 0)))) w100])
 (.block 1
 (.loop
 (.seq
 (.reg [.p (o2 (binG (cmpB .lss ltI)) r100 r99) w101])
 (.seq
 (.cond r101
 .skip
 (.exit 1))
 (.seq
 (.block 2
 (.seq
 (.reg [.p (o2 (iaddrG 4) r98 r100) pushW, .p (o1 (loadnG 4) l0) pushW, .p (allocO [(.int .i64 (Int.ofNat 0)), (.str 0 0), .snil, .snil]) w12, .p (o2 (storeG 4) r12 l0) noW])
 (.seq
 (.reg [.p (o1 (loadnG 4) r12) pushW, .p (o2 (binG addB) r2 (ctK (.int .i64 (Int.ofNat 1)))) pushW, .p (callO 34 [r0, l1, l0]) pushW, .p (o1 mvG l0) w13])
 (.seq
 (.reg [.p (o2 (eqG eqIV true) r13 (ctK (.int .i64 (Int.ofNat 0)))) w110])
 (.cond r110
 (.seq
 (.reg [.p (o1 mvG r13) w6])
 .ret)
 .skip)))))
 (.reg [.p (o2 (binG addB) r100 (ctK (.int .i64 (Int.ofNat 1)))) pushW, .p (o1 mvG l0) w100])))))))
 (.seq
 (.reg [.p (o1 mvG (ctK (.int .i64 (Int.ofNat 0)))) w6])
 .ret)))))))) }
theorem kf34_ok : (compFn Try.prog Try.f34 [[0, 2, 4], [0, 2, 4], [], [0, 2, 98, 99, 100], [0, 2, 98, 99, 100], [0, 2, 98, 99, 100]]).bind (toKFn [7, 14, 15, 16, 17, 18, 19, 20, 21, 22, 23, 24, 25, 26, 27, 28, 29, 30, 31, 32, 33, 34, 35, 36, 37, 38, 40, 41, 42, 43, 44, 46, 47, 49, 50, 51, 52, 53, 54, 55, 56, 59, 60, 61, 62, 63, 64, 65, 66, 67, 68, 69, 70, 71, 72, 73, 74, 75, 76, 77, 78, 79, 80, 81, 82, 83, 85, 86, 87, 88, 89, 90, 91, 92, 93, 94, 96, 97, 102, 103, 104, 105, 106, 107, 108, 109, 111, 112] 3) = some kf34 := by kernel_rfl
noncomputable def kf62 : KFn := { params := [w0], res := [(.s r2)], body :=
 (.seq
 (.reg [.p (o1 boxG r0) w1, .p (o1 mvG (ctK (.int .i64 (Int.ofNat 0)))) w2])
 (.seq
 (.seq
 (.reg [.p (o1 (faddrG 0) r1) pushW, .p (o1 load1G l0) w4])
 (.block 0
 (.seq
 (.seq
 (.reg [.p (o2 (eqG eqIV false) r4 (ctK (.int .i64 (Int.ofNat 4)))) pushW, .p (o1 mvG l0) w5])
 (.cond r5
 .skip
 (.seq
 (.reg [.p (o2 (eqG eqIV false) r4 (ctK (.int .i64 (Int.ofNat 5)))) pushW, .p (o1 mvG l0) w5])
 (.cond r5
 .skip
 (.reg [.p (o2 (eqG eqIV false) r4 (ctK (.int .i64 (Int.ofNat 6)))) pushW, .p (o1 mvG l0) w5])))))
 (.cond r5
 (.seq
 (.reg [.p (o1 mvG (ctK (.int .i64 (Int.ofNat 1)))) w2])
 .ret)
 (.seq
 (.seq
 (.reg [.p (o2 (eqG eqIV false) r4 (ctK (.int .i64 (Int.ofNat 7)))) pushW, .p (o1 mvG l0) w9])
 (.cond r9
 .skip
 (.reg [.p (o2 (eqG eqIV false) r4 (ctK (.int .i64 (Int.ofNat 8)))) pushW, .p (o1 mvG l0) w9])))
 (.cond r9
 (.seq
 (.reg [.p (o1 (faddrG 2) r1) pushW, .p (o1 load1G l0) pushW, .p (o1 lenLG l0) pushW, .p (o1 mvG l0) w2])
 .ret)
 .skip))))))
 (.seq
 (.reg [.p (o1 mvG (ctK (.int .i64 (Int.ofNat 0)))) w2])
 .ret))) }
theorem kf62_ok : (compFn Try.prog Try.f62 [[], [1, 4, 5], [1, 9]]).bind (toKFn [3, 6, 7, 8, 10, 11, 12, 13, 14] 1) = some kf62 := by kernel_rfl
noncomputable def kf63 : KFn := { params := [w0], res := [(.s r2)], body :=
 (.seq
 (.reg [.p (o1 boxG r0) w1, .p (o1 mvG (ctK (.int .i64 (Int.ofNat 0)))) w2])
 (.seq
 (.seq
 (.reg [.p (o1 (faddrG 2) r1) pushW, .p (o1 load1G l0) pushW, .p (o1 lenLG l0) pushW, .p (o2 (binG (cmpB .gtr gtI)) l0 (ctK (.int .i64 (Int.ofNat 8)))) w8])
 (.cond r8
 (.seq
 (.reg [.p (o1 mvG (ctK (.int .i64 (Int.ofNat 3)))) w2])
 .ret)
 .skip))
 (.seq
 (.seq
 (.reg [.p (o1 (faddrG 2) r1) pushW, .p (o1 load1G l0) w10, .p (o1 lenLG r10) w11, .p (o1 mvG (ctK (.int .i64 (Int.ofNat 0)))) w12])
 (.block 0
 (.loop
 (.seq
 (.reg [.p (o2 (binG (cmpB .lss ltI)) r12 r11) w13])
 (.seq
 (.cond r13
 .skip
 (.exit 0))
 (.seq
 (.block 1
 (.seq
 (.reg [.p (o2 (iaddrG 1) r10 r12) pushW, .p (o1 load1G l0) pushW, .p (o1 mvG r12) w3, .p (o1 mvG l0) w4])
 (.block 2
 (.seq
 (.reg [.p (callO 60 [r4]) pushW, .p (o1 notG l0) pushW, .p (o1 mvG l0) w17])
 (.cond r17
 (.seq
 (.reg [.p (o1 mvG (ctK (.int .i64 (Int.ofNat 15)))) w2])
 .ret)
 (.seq
 (.reg [.p (o2 (binG (cmpB .gtr gtI)) r3 (ctK (.int .i64 (Int.ofNat 0)))) pushW, .g l0 true false none (o1 (faddrG 2) r1) pushW, .g l1 true false none (o1 load1G l0) pushW, .g l2 true false none (o1 mvG r3) pushW, .g l3 true false none (o2 (binG subB) l0 (ctK (.int .i64 (Int.ofNat 1)))) pushW, .g l4 true false none (o2 (iaddrG 1) l2 l0) pushW, .g l5 true false none (o1 load1G l0) pushW, .g l6 true false none (o1 mvG r4) pushW, .g l7 true false none (o2 (binG (cmpB .geq geI)) l1 l0) pushW, .p (o3 pickG l8 l0 (ctK (.bool false))) pushW, .p (o1 mvG l0) w21])
 (.cond r21
 (.seq
 (.reg [.p (o1 mvG (ctK (.int .i64 (Int.ofNat 6)))) w2])
 .ret)
 .skip)))))))
 (.reg [.p (o2 (binG addB) r12 (ctK (.int .i64 (Int.ofNat 1)))) pushW, .p (o1 mvG l0) w12])))))))
 (.seq
 (.seq
 (.reg [.p (o1 (faddrG 0) r1) pushW, .p (o1 load1G l0) pushW, .p (o2 (eqG eqIV false) l0 (ctK (.int .i64 (Int.ofNat 8)))) pushW, .g l0 true false none (o1 (faddrG 2) r1) pushW, .g l1 true false none (o1 load1G l0) pushW, .g l2 true false none (o1 lenLG l0) pushW, .g l3 true false none (o2 (eqG eqIV false) l0 (ctK (.int .i64 (Int.ofNat 0)))) pushW, .p (o3 pickG l4 l0 (ctK (.bool false))) w43])
 (.cond r43
 (.seq
 (.reg [.p (o1 mvG (ctK (.int .i64 (Int.ofNat 12)))) w2])
 .ret)
 .skip))
 (.seq
 (.reg [.p (o1 mvG (ctK (.int .i64 (Int.ofNat 0)))) w2])
 .ret))))) }
theorem kf63_ok : (compFn Try.prog Try.f63 [[1], [1], [1, 10, 11, 12], [1, 10, 11, 12], [1, 10, 11, 12], []]).bind (toKFn [5, 6, 7, 9, 14, 15, 16, 18, 19, 20, 22, 23, 24, 25, 26, 27, 28, 29, 30, 31, 32, 33, 34, 35, 36, 37, 38, 39, 40, 41, 42] 1) = some kf63 := by kernel_rfl
noncomputable def kf35 : KFn := { params := [w0, w1], res := [(.s r4)], body :=
 (.seq
 (.reg [.p (o1 mvG (ctK (.int .i64 (Int.ofNat 0)))) w4])
 (.seq
 (.seq
 (.reg [.p (o1 mvG r1) w8, .p (o1 lenLG r8) w9, .p (o1 mvG (ctK (.int .i64 (Int.ofNat 0)))) w10])
 (.block 0
 (.loop
 (.seq
 (.reg [.p (o2 (binG (cmpB .lss ltI)) r10 r9) w11])
 (.seq
 (.cond r11
 .skip
 (.exit 0))
 (.seq
 (.block 1
 (.seq
 (.reg [.p (o2 (iaddrG 6) r8 r10) pushW, .p (o1 (loadnG 6) l0) pushW, .p (allocO [(.str 0 0), .snil, (.int .i64 (Int.ofNat 0)), (.str 0 0), .snil, .snil]) w6, .p (o1 mvG r10) w5, .p (o2 (storeG 6) r6 l0) noW])
 (.seq
 (.block 2
 (.seq
 (.reg [.p (o1 (faddrG 0) r6) pushW, .p (o1 load1G l0) pushW, .p (callO 60 [l0]) pushW, .p (o1 notG l0) pushW, .g l0 false false none (o1 (faddrG 0) r6) pushW, .g l1 false false none (o1 load1G l0) pushW, .g l2 false false none (callO 51 [l0]) pushW, .p (o3 pickG l3 (ctK (.bool true)) l0) pushW, .p (o1 mvG l0) w15])
 (.cond r15
 (.seq
 (.reg [.p (o1 mvG (ctK (.int .i64 (Int.ofNat 15)))) w4])
 .ret)
 (.seq
 (.drw [.p (o2 (binG (cmpB .gtr gtI)) r5 (ctK (.int .i64 (Int.ofNat 0)))) pushW, .g l0 true false none (o1 mvG r1) pushW, .g l1 true false none (o1 mvG r5) pushW, .g l2 true false none (o2 (binG subB) l0 (ctK (.int .i64 (Int.ofNat 1)))) pushW, .g l3 true false none (o2 (iaddrG 6) l2 l0) pushW, .g l4 true false none (o1 (faddrG 0) l0) pushW, .g l5 true false none (o1 load1G l0) pushW, .g l6 true false none (o1 (faddrG 0) r6) pushW, .g l7 true false none (o1 load1G l0) pushW, .g l8 true false none (o2 (binG (cmpB .geq geI)) l2 l0) pushW, .p (o3 pickG l9 l0 (ctK (.bool false))) pushW, .p (o1 mvG l0) w25] [])
 (.cond r25
 (.seq
 (.reg [.p (o1 mvG (ctK (.int .i64 (Int.ofNat 6)))) w4])
 .ret)
 (.seq
 (.reg [.p (o1 (faddrG 1) r6) pushW, .p (o1 load1G l0) pushW, .p (o1 lenLG l0) pushW, .p (o2 (binG (cmpB .gtr gtI)) l0 (ctK (.int .i64 (Int.ofNat 4)))) pushW, .p (o1 mvG l0) w39])
 (.cond r39
 (.seq
 (.reg [.p (o1 mvG (ctK (.int .i64 (Int.ofNat 18)))) w4])
 .ret)
 .skip)))))))
 (.seq
 (.drw [.p (o1 (faddrG 1) r6) pushW, .p (o1 load1G l0) pushW, .m (callO 21 [l0]) pushW none, .p (o1 (faddrG 2) r6) pushW, .p (o1 (loadnG 4) l0) pushW, .p (bslO 4 1 [(.int .i64 (Int.ofNat 0)), (.str 0 0), .snil, .snil] [(0, 4, l0)]) pushW, .p (o2 (appG 4) l3 l0) pushW, .m (callO 64 [r0, l0]) pushW (some []), .p (o1 mvG l0) w7] [])
 (.seq
 (.reg [.p (o2 (eqG eqIV true) r7 (ctK (.int .i64 (Int.ofNat 0)))) w54])
 (.cond r54
 (.seq
 (.reg [.p (o1 mvG r7) w4])
 .ret)
 .skip))))))
 (.reg [.p (o2 (binG addB) r10 (ctK (.int .i64 (Int.ofNat 1)))) pushW, .p (o1 mvG l0) w10])))))))
 (.seq
 (.reg [.p (o1 mvG (ctK (.int .i64 (Int.ofNat 0)))) w4])
 .ret))) }
theorem kf35_ok : (compFn Try.prog Try.f35 [[], [0, 1, 8, 9, 10], [0, 1, 8, 9, 10], [0, 1, 8, 9, 10], [0, 1, 6, 8, 9, 10]]).bind (toKFn [12, 13, 14, 16, 17, 18, 19, 20, 21, 22, 23, 24, 26, 27, 28, 29, 30, 31, 32, 33, 34, 35, 36, 37, 38, 40, 41, 42, 43, 44, 45, 46, 47, 48, 49, 50, 51, 52, 53, 55, 56] 2) = some kf35 := by kernel_rfl
noncomputable def kf51 : KFn := { params := [w0], res := [(.s r2)], body :=
 (.seq
 (.reg [.p (o1 mvG (ctK (.bool false))) w2])
 (.seq
 (.reg [.p (callO 60 [r0]) pushW, .g l0 true false none (o1 mvG r0) pushW, .g l1 true false none (o2 (binG addB) (ctK (.str 1 32)) l0) pushW, .g l2 true false none (o2 (binG addB) l0 (ctK (.str 1 32))) pushW, .g l3 true false none (callO 61 [(ctK (.str 91 178686683887446287100313889210838612883293650169161782699781515008887049184836398825504385070224074575899429074951214181473750552558099404030661262664651392350738735132031991416282501624620935436484047697889576312204320)), l0]) pushW, .p (o3 pickG l4 l0 (ctK (.bool false))) pushW, .p (o1 mvG l0) w2])
 .ret)) }
theorem kf51_ok : (compFn Try.prog Try.f51 []).bind (toKFn [3, 4, 5, 6, 7, 8, 9, 10] 1) = some kf51 := by kernel_rfl
noncomputable def kf21 : KFn := { params := [w0], res := [(.s r2)], body :=
 (.seq
 (.reg [.p (o1 mvG (ctK .snil)) w2])
 (.seq
 (.seq
 (.reg [.p (o2 (eqG (slowEq (.one .l)) false) r0 (ctK .snil)) w4])
 (.cond r4
 (.seq
 (.reg [.p (o1 mvG (ctK .snil)) w2])
 .ret)
 .skip))
 (.seq
 (.reg [.p (bslO 4 0 [] []) pushW, .p (o2 (appG 4) l0 r0) pushW, .p (o1 mvG l0) w2])
 .ret))) }
theorem kf21_ok : (compFn Try.prog Try.f21 [[0]]).bind (toKFn [3, 5, 6, 7] 1) = some kf21 := by kernel_rfl
noncomputable def kf64 : KFn := { params := [w0, w1], res := [(.s r4)], body :=
 (.seq
 (.reg [.p (o1 mvG (ctK (.int .i64 (Int.ofNat 0)))) w4])
 (.seq
 (.seq
 (.reg [.p (o1 mvG r1) w8, .p (o1 lenLG r8) w9, .p (o1 mvG (ctK (.int .i64 (Int.ofNat 0)))) w10])
 (.block 0
 (.loop
 (.seq
 (.reg [.p (o2 (binG (cmpB .lss ltI)) r10 r9) w11])
 (.seq
 (.cond r11
 .skip
 (.exit 0))
 (.seq
 (.block 1
 (.seq
 (.reg [.p (o2 (iaddrG 4) r8 r10) pushW, .p (o1 (loadnG 4) l0) pushW, .p (allocO [(.int .i64 (Int.ofNat 0)), (.str 0 0), .snil, .snil]) w6, .p (o2 (storeG 4) r6 l0) noW])
 (.seq
 (.reg [.p (o1 (loadnG 4) r6) pushW, .p (callO 34 [r0, l0, (ctK (.int .i64 (Int.ofNat 1)))]) pushW, .p (o1 mvG l0) w7])
 (.seq
 (.reg [.p (o2 (eqG eqIV true) r7 (ctK (.int .i64 (Int.ofNat 0)))) w18])
 (.cond r18
 (.seq
 (.reg [.p (o1 mvG r7) w4])
 .ret)
 .skip)))))
 (.reg [.p (o2 (binG addB) r10 (ctK (.int .i64 (Int.ofNat 1)))) pushW, .p (o1 mvG l0) w10])))))))
 (.seq
 (.reg [.p (o1 mvG (ctK (.int .i64 (Int.ofNat 0)))) w4])
 .ret))) }
theorem kf64_ok : (compFn Try.prog Try.f64 [[], [0, 8, 9, 10], [0, 8, 9, 10], [0, 8, 9, 10]]).bind (toKFn [12, 13, 14, 15, 16, 17, 19, 20] 2) = some kf64 := by kernel_rfl
noncomputable def kf36 : KFn := { params := [w0, w1], res := [(.s r4)], body :=
 (.seq
 (.reg [.p (o1 boxG r0) w2, .p (o1 boxG r1) w3, .p (o1 mvG (ctK (.bool false))) w4])
 (.seq
 (.reg [.p (o1 (loadnG 6) r2) pushW, .p (callO 33 [l0]) pushW, .p (buildO [.mnil, (.int .i64 (Int.ofNat 0))] [(0, 1, l0)]) pushW, .p (o1 boxG l0) pushW, .p (o1 mvG l0) w5])
 (.seq
 (.seq
 (.reg [.p (o1 (faddrG 4) r2) pushW, .p (o1 load1G l0) w16, .p (o1 lenLG r16) w17, .p (o1 mvG (ctK (.int .i64 (Int.ofNat 0)))) w18])
 (.block 0
 (.loop
 (.seq
 (.reg [.p (o2 (binG (cmpB .lss ltI)) r18 r17) w19])
 (.seq
 (.cond r19
 .skip
 (.exit 0))
 (.seq
 (.block 1
 (.seq
 (.reg [.p (o2 (iaddrG 5) r16 r18) pushW, .p (o1 (loadnG 5) l0) pushW, .p (allocO [(.str 0 0), (.int .i64 (Int.ofNat 0)), (.str 0 0), .snil, .snil]) w7, .p (o2 (storeG 5) r7 l0) noW])
 (.seq
 (.reg [.p (o1 (faddrG 1) r7) pushW, .p (o1 (loadnG 4) l0) pushW, .p (callO 34 [r5, l0, (ctK (.int .i64 (Int.ofNat 1)))]) pushW, .p (o2 (eqG eqIV true) l0 (ctK (.int .i64 (Int.ofNat 0)))) w26])
 (.cond r26
 (.seq
 (.reg [.p (o1 mvG (ctK (.bool false))) w4])
 .ret)
 .skip))))
 (.reg [.p (o2 (binG addB) r18 (ctK (.int .i64 (Int.ofNat 1)))) pushW, .p (o1 mvG l0) w18])))))))
 (.seq
 (.reg [.p (o1 nilckG r5) pushW, .p (o1 (faddrG 1) l0) pushW, .p (o2 (storeG 1) l0 (ctK (.int .i64 (Int.ofNat 0)))) noW])
 (.seq
 (.seq
 (.reg [.p (o1 (loadnG 4) r3) pushW, .p (callO 34 [r5, l0, (ctK (.int .i64 (Int.ofNat 1)))]) pushW, .p (o2 (eqG eqIV true) l0 (ctK (.int .i64 (Int.ofNat 0)))) w34])
 (.cond r34
 (.seq
 (.reg [.p (o1 mvG (ctK (.bool false))) w4])
 .ret)
 .skip))
 (.seq
 (.reg [.p mkmapO pushW, .p (o1 mvG l0) w8])
 (.seq
 (.seq
 (.reg [.p (o1 (faddrG 4) r2) pushW, .p (o1 load1G l0) pushW, .p (o1 lenLG l0) w38, .p (o1 mvG (ctK (.int .i64 (Int.ofNat 0)))) w39])
 (.block 2
 (.loop
 (.seq
 (.reg [.p (o2 (binG (cmpB .lss ltI)) r39 r38) w40])
 (.seq
 (.cond r40
 .skip
 (.exit 2))
 (.seq
 (.block 3
 (.seq
 (.reg [.p (o1 (faddrG 4) r2) pushW, .p (o1 load1G l0) w42, .p (o1 lenLG r42) w43, .p (o1 mvG (ctK (.int .i64 (Int.ofNat 0)))) w44])
 (.block 4
 (.loop
 (.seq
 (.reg [.p (o2 (binG (cmpB .lss ltI)) r44 r43) w45])
 (.seq
 (.cond r45
 .skip
 (.exit 4))
 (.seq
 (.block 5
 (.seq
 (.reg [.p (o2 (iaddrG 5) r42 r44) pushW, .p (o1 (loadnG 5) l0) pushW, .p (allocO [(.str 0 0), (.int .i64 (Int.ofNat 0)), (.str 0 0), .snil, .snil]) w10, .p (o2 (storeG 5) r10 l0) noW])
 (.drw [.p (o1 (faddrG 0) r10) w49, .p (o1 load1G r49) pushW, .p (o1 (faddrG 0) r10) pushW, .p (o1 load1G l0) pushW, .p (o2 (lookupG (.one .s) (.bool false) false) r8 l0) pushW, .g l0 false false none (o1 (faddrG 1) r10) pushW, .g l1 false false none (o1 (loadnG 4) l0) pushW, .g l2 false false none (o1 mvG r8) pushW, .g l3 false true (some [49]) (callO 65 [l1, l0, (ctK (.int .i64 (Int.ofNat 1)))]) pushW, .p (o3 pickG l4 (ctK (.bool true)) l0) pushW, .p (o3 (mupdG (.one .s)) r8 l8 l0) noW] [])))
 (.reg [.p (o2 (binG addB) r44 (ctK (.int .i64 (Int.ofNat 1)))) pushW, .p (o1 mvG l0) w44]))))))))
 (.reg [.p (o2 (binG addB) r39 (ctK (.int .i64 (Int.ofNat 1)))) pushW, .p (o1 mvG l0) w39])))))))
 (.seq
 (.reg [.p (o1 (loadnG 4) r3) pushW, .p (callO 65 [l0, r8, (ctK (.int .i64 (Int.ofNat 1)))]) pushW, .p (o1 mvG l0) w4])
 .ret)))))))) }
theorem kf36_ok : (compFn Try.prog Try.f36 [[2, 3, 5], [2, 3, 5, 16, 17, 18], [2, 3, 5, 16, 17, 18], [2, 3, 5, 16, 17, 18], [2, 3], [3, 8], [2, 3, 8, 38, 39], [2, 3, 8, 38, 39], [2, 3, 8, 38, 39], [2, 3, 8, 38, 39, 42, 43, 44], [2, 3, 8, 38, 39, 42, 43, 44], [2, 3, 8, 38, 39, 42, 43, 44]]).bind (toKFn [11, 12, 13, 14, 15, 20, 21, 22, 23, 24, 25, 27, 28, 29, 30, 31, 32, 33, 35, 36, 37, 41, 46, 47, 48, 50, 51, 52, 53, 54, 55, 56, 57, 58, 59, 60, 61, 62, 63, 64, 65] 2) = some kf36 := by kernel_rfl
noncomputable def kf65 : KFn := { params := [w0, w1, w2], res := [(.s r6)], body :=
 (.seq
 (.reg [.p (o1 boxG r0) w3, .p (o1 boxG r1) w4, .p (o1 boxG r2) w5, .p (o1 mvG (ctK (.bool false))) w6])
 (.seq
 (.seq
 (.reg [.p (o1 load1G r5) pushW, .p (o2 (binG (cmpB .gtr gtI)) l0 (ctK (.int .i64 (Int.ofNat 12)))) w9])
 (.cond r9
 (.seq
 (.reg [.p (o1 mvG (ctK (.bool false))) w6])
 .ret)
 .skip))
 (.seq
 (.reg [.p (mkfnO 80 [] [r4, r5]) pushW, .p (allocO [.fnil]) w7, .p (o2 (storeG 1) r7 l0) noW])
 (.seq
 (.seq
 (.reg [.p (o1 (faddrG 0) r3) pushW, .p (o1 load1G l0) w12])
 (.block 0
 (.seq
 (.reg [.p (o2 (eqG eqIV false) r12 (ctK (.int .i64 (Int.ofNat 9)))) pushW, .p (o1 mvG l0) w13])
 (.cond r13
 (.seq
 (.reg [.p (o1 load1G r4) pushW, .p (o1 (faddrG 1) r3) pushW, .p (o1 load1G l0) pushW, .p (o2 (lookupG (.one .s) (.bool false) false) l2 l0) pushW, .p (o1 mvG l0) w6])
 .ret)
 (.seq
 (.reg [.p (o2 (eqG eqIV false) r12 (ctK (.int .i64 (Int.ofNat 8)))) pushW, .p (o1 mvG l0) w19])
 (.cond r19
 (.seq
 (.reg [.p (o1 (faddrG 3) r3) pushW, .p (o1 load1G l0) pushW, .p (o1 load1G r7) pushW, .p (callO 37 [l1, l0]) pushW, .p (o1 mvG l0) w6])
 .ret)
 (.seq
 (.reg [.p (o2 (eqG eqIV false) r12 (ctK (.int .i64 (Int.ofNat 7)))) pushW, .p (o1 mvG l0) w25])
 (.cond r25
 (.seq
 (.reg [.p (o1 (faddrG 3) r3) pushW, .p (o1 load1G l0) pushW, .p (mkfnO 81 [] [r7]) pushW, .p (callO 37 [l1, l0]) pushW, .p (o1 notG l0) pushW, .p (o1 mvG l0) w6])
 .ret)
 .skip))))))))
 (.seq
 (.reg [.p (o1 mvG (ctK (.bool true))) w6])
 .ret))))) }
theorem kf65_ok : (compFn Try.prog Try.f65 [[3, 4, 5], []]).bind (toKFn [8, 10, 11, 14, 15, 16, 17, 18, 20, 21, 22, 23, 24, 26, 27, 28, 29, 30, 31] 3) = some kf65 := by kernel_rfl
noncomputable def kf80 : KFn := { params := [w0, w1, w2], res := [(.s r4)], body :=
 (.seq
 (.reg [.p (o1 boxG r0) w3, .p (o1 mvG (ctK (.bool false))) w4])
 (.seq
 (.reg [.p (o1 (loadnG 4) r3) pushW, .p (o1 load1G r1) pushW, .p (o1 load1G r2) pushW, .p (o2 (binG addB) l0 (ctK (.int .i64 (Int.ofNat 1)))) pushW, .p (callO 65 [l3, l2, l0]) pushW, .p (o1 mvG l0) w4])
 .ret)) }
theorem kf80_ok : (compFn Try.prog Try.f80 []).bind (toKFn [5, 6, 7, 8, 9] 3) = some kf80 := by kernel_rfl
noncomputable def kf37 : KFn := { params := [w0, w1], res := [(.s r4)], body :=
 (.seq
 (.reg [.p (o1 mvG (ctK (.bool false))) w4])
 (.seq
 (.reg [.p (callO 66 [r0, r1]) pushW, .p (o2 (binG (cmpB .geq geI)) l0 (ctK (.int .i64 (Int.ofNat 0)))) pushW, .p (o1 mvG l0) w4])
 .ret)) }
theorem kf37_ok : (compFn Try.prog Try.f37 []).bind (toKFn [5, 6, 7, 8] 2) = some kf37 := by kernel_rfl
noncomputable def kf66 : KFn := { params := [w0, w1], res := [(.s r4)], body :=
 (.seq
 (.reg [.p (o1 mvG (ctK (.int .i64 (Int.ofNat 0)))) w4])
 (.seq
 (.seq
 (.reg [.p (o1 lenLG r0) w7, .p (o1 mvG (ctK (.int .i64 (Int.ofNat 0)))) w8])
 (.block 0
 (.loop
 (.seq
 (.reg [.p (o2 (binG (cmpB .lss ltI)) r8 r7) w9])
 (.seq
 (.cond r9
 .skip
 (.exit 0))
 (.seq
 (.block 1
 (.seq
 (.reg [.p (o1 mvG r8) w5])
 (.seq
 (.reg [.p (o2 (iaddrG 4) r0 r5) pushW, .p (o1 (loadnG 4) l0) pushW, .p (callvO r1 [l0]) w16])
 (.cond r16
 (.seq
 (.reg [.p (o1 mvG r5) w4])
 .ret)
 .skip))))
 (.reg [.p (o2 (binG addB) r8 (ctK (.int .i64 (Int.ofNat 1)))) pushW, .p (o1 mvG l0) w8])))))))
 (.seq
 (.reg [.p (o1 mvG (ctK (.int .i64 (Int.negSucc 0)))) w4])
 .ret))) }
theorem kf66_ok : (compFn Try.prog Try.f66 [[], [0, 1, 7, 8], [0, 1, 7, 8], [0, 1, 7, 8]]).bind (toKFn [6, 10, 11, 12, 13, 14, 15, 17, 18] 2) = some kf66 := by kernel_rfl
noncomputable def kf81 : KFn := { params := [w0, w1], res := [(.s r3)], body :=
 (.seq
 (.reg [.p (o1 boxG r0) w2, .p (o1 mvG (ctK (.bool false))) w3])
 (.seq
 (.reg [.p (o1 load1G r1) pushW, .p (o1 (loadnG 4) r2) pushW, .p (callvO l1 [l0]) pushW, .p (o1 notG l0) pushW, .p (o1 mvG l0) w3])
 .ret)) }
theorem kf81_ok : (compFn Try.prog Try.f81 []).bind (toKFn [4, 5, 6, 7] 2) = some kf81 := by kernel_rfl
noncomputable def kf38 : KFn := { params := [w0], res := [(.s r2)], body :=
 (.seq
 (.reg [.p (o1 boxG r0) w1, .p (o1 mvG (ctK .snil)) w2])
 (.seq
 (.reg [.p (o1 mvG (ctK .snil)) w3])
 (.seq
 (.seq
 (.reg [.p (o1 (faddrG 4) r1) pushW, .p (o1 load1G l0) w9, .p (o1 lenLG r9) w10, .p (o1 mvG (ctK (.int .i64 (Int.ofNat 0)))) w11])
 (.block 0
 (.loop
 (.seq
 (.reg [.p (o2 (binG (cmpB .lss ltI)) r11 r10) w12])
 (.seq
 (.cond r12
 .skip
 (.exit 0))
 (.seq
 (.block 1
 (.seq
 (.reg [.p (o2 (iaddrG 5) r9 r11) pushW, .p (o1 (loadnG 5) l0) pushW, .p (allocO [(.str 0 0), (.int .i64 (Int.ofNat 0)), (.str 0 0), .snil, .snil]) w5, .p (o2 (storeG 5) r5 l0) noW])
 (.reg [.p (o1 mvG r3) pushW, .p (o1 (faddrG 1) r5) pushW, .p (o1 (loadnG 4) l0) pushW, .p (bslO 4 1 [(.int .i64 (Int.ofNat 0)), (.str 0 0), .snil, .snil] [(0, 4, l0)]) pushW, .p (o2 (appG 4) l3 l0) pushW, .p (o1 mvG l0) w3])))
 (.reg [.p (o2 (binG addB) r11 (ctK (.int .i64 (Int.ofNat 1)))) pushW, .p (o1 mvG l0) w11])))))))
 (.seq
 (.reg [.p (o1 mvG r3) pushW, .p (o1 (faddrG 0) r1) pushW, .p (o1 (loadnG 4) l0) pushW, .p (bslO 4 1 [(.int .i64 (Int.ofNat 0)), (.str 0 0), .snil, .snil] [(0, 4, l0)]) pushW, .p (o2 (appG 4) l3 l0) pushW, .p (o1 mvG l0) w3])
 (.seq
 (.seq
 (.reg [.p (o1 (faddrG 5) r1) pushW, .p (o1 load1G l0) w27, .p (o1 lenLG r27) w28, .p (o1 mvG (ctK (.int .i64 (Int.ofNat 0)))) w29])
 (.block 2
 (.loop
 (.seq
 (.reg [.p (o2 (binG (cmpB .lss ltI)) r29 r28) w30])
 (.seq
 (.cond r30
 .skip
 (.exit 2))
 (.seq
 (.block 3
 (.seq
 (.reg [.p (o2 (iaddrG 6) r27 r29) pushW, .p (o1 (loadnG 6) l0) pushW, .p (allocO [(.str 0 0), .snil, (.int .i64 (Int.ofNat 0)), (.str 0 0), .snil, .snil]) w7, .p (o2 (storeG 6) r7 l0) noW])
 (.drw [.p (o1 mvG r3) w33, .p (o1 (faddrG 1) r7) pushW, .p (o1 load1G l0) pushW, .p (o2 (appG 4) r33 l0) pushW, .p (o1 (faddrG 2) r7) w37, .p (o1 (loadnG 4) r37) pushW, .p (bslO 4 1 [(.int .i64 (Int.ofNat 0)), (.str 0 0), .snil, .snil] [(0, 4, l0)]) pushW, .p (o2 (appG 4) l2 l0) pushW, .p (o1 mvG l0) w3] [([r33], [r37])])))
 (.reg [.p (o2 (binG addB) r29 (ctK (.int .i64 (Int.ofNat 1)))) pushW, .p (o1 mvG l0) w29])))))))
 (.seq
 (.reg [.p (o1 mvG r3) w2])
 .ret)))))) }
theorem kf38_ok : (compFn Try.prog Try.f38 [[1, 3], [1, 3, 9, 10, 11], [1, 3, 9, 10, 11], [1, 3, 9, 10, 11], [3], [3, 27, 28, 29], [3, 27, 28, 29], [3, 27, 28, 29]]).bind (toKFn [8, 13, 14, 15, 16, 17, 18, 19, 20, 21, 22, 23, 24, 25, 26, 31, 32, 34, 35, 36, 38, 39, 40, 41, 42] 1) = some kf38 := by kernel_rfl
noncomputable def kf39 : KFn := { params := [w0, w1], res := [(.s r4)], body :=
 (.seq
 (.reg [.p (o1 boxG r1) w3, .p (o1 mvG (ctK (.bool false))) w4])
 (.seq
 (.seq
 (.reg [.p (o1 (faddrG 0) r3) pushW, .p (o1 load1G l0) pushW, .p (o2 (eqG eqIV false) l0 (ctK (.int .i64 (Int.ofNat 6)))) pushW, .g l0 true false none (o1 (faddrG 3) r3) pushW, .g l1 true false none (o1 load1G l0) pushW, .g l2 true false none (o1 lenLG l0) pushW, .g l3 true false none (o2 (eqG eqIV false) l0 (ctK (.int .i64 (Int.ofNat 1)))) pushW, .p (o3 pickG l4 l0 (ctK (.bool false))) w14])
 (.cond r14
 (.seq
 (.reg [.p (o1 (faddrG 3) r3) pushW, .p (o1 load1G l0) pushW, .p (o2 (iaddrG 4) l0 (ctK (.int .i64 (Int.ofNat 0)))) pushW, .p (o1 (loadnG 4) l0) pushW, .p (allocO [(.int .i64 (Int.ofNat 0)), (.str 0 0), .snil, .snil]) w5, .p (o2 (storeG 4) r5 l0) noW])
 (.seq
 (.seq
 (.reg [.p (o1 nilckG r0) pushW, .p (o1 (faddrG 0) l0) pushW, .p (o1 load1G l0) pushW, .p (o1 rngMG l0) w23])
 (.block 0
 (.loop
 (.seq
 (.reg [.p (o1 nextMG r23) pushW, .p (o1 (extG 0) l0) w25])
 (.seq
 (.cond r25
 .skip
 (.exit 0))
 (.block 1
 (.seq
 (.reg [.p (o1 (faddrG 0) r5) pushW, .p (o1 load1G l0) pushW, .p (o2 (eqG eqIV false) l0 (ctK (.int .i64 (Int.ofNat 9)))) w29])
 (.cond r29
 (.drw [.p (o1 nilckG r0) pushW, .p (o1 (faddrG 0) l0) pushW, .p (o1 load1G l0) pushW, .p (o1 (faddrG 1) r5) pushW, .p (o1 load1G l0) pushW, .p (o2 (lookupG (.one .s) (.agg [(.int .i64 (Int.ofNat 0)), (.str 0 0), .snil, .snil]) false) l2 l0) pushW, .p (o2 (storeG 4) r5 l0) noW] [])
 .skip))))))))
 (.seq
 (.reg [.p (o1 (faddrG 0) r5) pushW, .p (o1 load1G l0) pushW, .p (o2 (eqG eqIV false) l0 (ctK (.int .i64 (Int.ofNat 6)))) w39])
 (.cond r39
 (.seq
 (.reg [.p (o1 mvG (ctK (.bool true))) w4])
 .ret)
 .skip))))
 .skip))
 (.seq
 (.reg [.p (o1 (faddrG 3) r3) pushW, .p (o1 load1G l0) pushW, .p (mkfnO 39 [r0] []) pushW, .p (callO 37 [l1, l0]) pushW, .p (o1 mvG l0) w4])
 .ret))) }
theorem kf39_ok : (compFn Try.prog Try.f39 [[0, 3], [0, 3, 5], [0, 3, 5, 23], [0, 3, 5, 23]]).bind (toKFn [6, 7, 8, 9, 10, 11, 12, 13, 15, 16, 17, 18, 19, 20, 21, 22, 24, 27, 28, 30, 31, 32, 33, 34, 35, 36, 37, 38, 40, 41, 42, 43, 44] 2) = some kf39 := by kernel_rfl
noncomputable def kf20 : KFn := { params := [w0, w1], res := [(.s r4), (.s r5)], body :=
 (.seq
 (.reg [.p (o1 boxG r1) w3, .p (o1 mvG (ctK (.int .i64 (Int.ofNat 0)))) w4, .p (o1 mvG (ctK (.int .i64 (Int.ofNat 0)))) w5])
 (.seq
 (.reg [.p (allocO [(.int .i64 (Int.ofNat 0))]) w6, .p (o2 (storeG 1) r6 (ctK (.int .i64 (Int.ofNat 400)))) noW])
 (.seq
 (.reg [.p (o1 (loadnG 4) r3) pushW, .p (callO 40 [r0, l0, r6]) pushW, .p (o1 (extG 0) l0) pushW, .p (o1 (extG 1) l1) pushW, .p (o1 mvG l1) w4, .p (o1 mvG l0) w5])
 .ret))) }
theorem kf20_ok : (compFn Try.prog Try.f20 []).bind (toKFn [7, 8, 9, 10, 11] 2) = some kf20 := by kernel_rfl
noncomputable def kf40 : KFn := { params := [w0, w1, w2], res := [(.s r6), (.s r7)], body :=
 (.seq
 (.reg [.p (o1 boxG r1) w4, .p (o1 mvG (ctK (.int .i64 (Int.ofNat 0)))) w6, .p (o1 mvG (ctK (.int .i64 (Int.ofNat 0)))) w7])
 (.seq
 (.reg [.p (o1 nilckG r2) pushW, .p (o1 load1G l0) pushW, .p (o2 (binG subB) l0 (ctK (.int .i64 (Int.ofNat 1)))) pushW, .p (o1 nilckG r2) pushW, .p (o2 (storeG 1) l0 l1) noW])
 (.seq
 (.seq
 (.reg [.p (o1 nilckG r2) pushW, .p (o1 load1G l0) pushW, .p (o2 (binG (cmpB .lss ltI)) l0 (ctK (.int .i64 (Int.ofNat 0)))) pushW, .g l0 false false none (o1 (faddrG 3) r4) pushW, .g l1 false false none (o1 load1G l0) pushW, .g l2 false false none (o1 lenLG l0) pushW, .g l3 false false none (o2 (binG (cmpB .gtr gtI)) l0 (ctK (.int .i64 (Int.ofNat 8)))) pushW, .p (o3 pickG l4 (ctK (.bool true)) l0) pushW, .g l0 false false none (o1 (faddrG 2) r4) pushW, .g l1 false false none (o1 load1G l0) pushW, .g l2 false false none (o1 lenLG l0) pushW, .g l3 false false none (o2 (binG (cmpB .gtr gtI)) l0 (ctK (.int .i64 (Int.ofNat 8)))) pushW, .p (o3 pickG l4 (ctK (.bool true)) l0) w33])
 (.cond r33
 (.seq
 (.reg [.p (o1 mvG (ctK (.int .i64 (Int.ofNat 0)))) w6, .p (o1 mvG (ctK (.int .i64 (Int.ofNat 20)))) w7])
 .ret)
 .skip))
 (.seq
 (.reg [.p (o1 (faddrG 0) r4) pushW, .p (o1 load1G l0) pushW, .p (o1 (faddrG 1) r4) pushW, .p (o1 load1G l0) pushW, .p (o1 (faddrG 2) r4) pushW, .p (o1 load1G l0) pushW, .p (buildO [(.int .i64 (Int.ofNat 0)), (.str 0 0), .snil, .snil] [(0, 1, l4), (1, 1, l2), (2, 1, l0)]) pushW, .p (allocO [(.int .i64 (Int.ofNat 0)), (.str 0 0), .snil, .snil]) w8, .p (o2 (storeG 4) r8 l0) noW])
 (.seq
 (.seq
 (.reg [.p (o1 (faddrG 3) r4) pushW, .p (o1 load1G l0) w42, .p (o1 lenLG r42) w43, .p (o1 mvG (ctK (.int .i64 (Int.ofNat 0)))) w44])
 (.block 0
 (.loop
 (.seq
 (.reg [.p (o2 (binG (cmpB .lss ltI)) r44 r43) w45])
 (.seq
 (.cond r45
 .skip
 (.exit 0))
 (.seq
 (.block 1
 (.seq
 (.reg [.p (o2 (iaddrG 4) r42 r44) pushW, .p (o1 (loadnG 4) l0) pushW, .p (allocO [(.int .i64 (Int.ofNat 0)), (.str 0 0), .snil, .snil]) w10, .p (o2 (storeG 4) r10 l0) noW])
 (.seq
 (.reg [.p (o1 (loadnG 4) r10) pushW, .p (callO 40 [r0, l0, r2]) pushW, .p (o1 (extG 0) l0) pushW, .p (o1 (extG 1) l1) pushW, .p (o1 mvG l1) w11, .p (o1 mvG l0) w12])
 (.seq
 (.seq
 (.reg [.p (o2 (eqG eqIV true) r12 (ctK (.int .i64 (Int.ofNat 0)))) w56])
 (.cond r56
 (.seq
 (.reg [.p (o1 mvG (ctK (.int .i64 (Int.ofNat 0)))) w6, .p (o1 mvG r12) w7])
 .ret)
 .skip))
 (.reg [.p (o1 (faddrG 3) r8) pushW, .p (o1 load1G l0) pushW, .p (bslO 1 1 [(.int .i64 (Int.ofNat 0))] [(0, 1, r11)]) pushW, .p (o2 (appG 1) l1 l0) pushW, .p (o1 (faddrG 3) r8) pushW, .p (o2 (storeG 1) l0 l1) noW])))))
 (.reg [.p (o2 (binG addB) r44 (ctK (.int .i64 (Int.ofNat 1)))) pushW, .p (o1 mvG l0) w44])))))))
 (.seq
 (.reg [.p (o1 (loadnG 4) r8) pushW, .p (callO 56 [r0, l0]) pushW, .p (o1 (extG 0) l0) pushW, .p (o1 (extG 1) l1) pushW, .p (o1 mvG l1) w6, .p (o1 mvG l0) w7])
 .ret)))))) }
theorem kf40_ok : (compFn Try.prog Try.f40 [[0, 2, 4], [0, 8], [0, 2, 8, 42, 43, 44], [0, 2, 8, 42, 43, 44], [0, 2, 8, 42, 43, 44], [0, 2, 8, 11, 42, 43, 44]]).bind (toKFn [13, 14, 15, 16, 17, 18, 19, 20, 21, 22, 23, 24, 25, 26, 27, 28, 29, 30, 31, 32, 34, 35, 36, 37, 38, 39, 40, 41, 46, 47, 48, 49, 50, 51, 52, 53, 54, 55, 57, 58, 59, 60, 61, 62, 63, 64, 65, 66, 67, 68, 69] 3) = some kf40 := by kernel_rfl
noncomputable def kf56 : KFn := { params := [w0, w1], res := [(.s r4), (.s r5)], body :=
 (.seq
 (.reg [.p (o1 boxG r1) w3, .p (o1 mvG (ctK (.int .i64 (Int.ofNat 0)))) w4, .p (o1 mvG (ctK (.int .i64 (Int.ofNat 0)))) w5])
 (.seq
 (.reg [.p (o1 (loadnG 4) r3) pushW, .p (callO 74 [l0]) pushW, .p (allocO [(.int .i64 (Int.ofNat 0)), (.int .i64 (Int.ofNat 0)), (.int .i64 (Int.ofNat 0)), (.str 0 0), (.str 0 0), (.str 0 0), (.str 0 0), (.str 0 0), (.str 0 0), (.str 0 0), (.str 0 0), (.str 0 0), (.int .i64 (Int.ofNat 0)), (.int .i64 (Int.ofNat 0)), (.int .i64 (Int.ofNat 0)), (.int .i64 (Int.ofNat 0)), (.int .i64 (Int.ofNat 0)), (.int .i64 (Int.ofNat 0)), (.int .i64 (Int.ofNat 0)), (.int .i64 (Int.ofNat 0))]) w6, .p (o2 (storeG 20) r6 l0) noW])
 (.seq
 (.seq
 (.drw [.p (o1 nilckG r0) pushW, .p (o1 (faddrG 1) l0) pushW, .p (o1 load1G l0) pushW, .p (o1 (loadnG 20) r6) pushW, .p (o2 (lookupG (.many [.i, .i, .i, .s, .s, .s, .s, .s, .s, .s, .s, .s, .i, .i, .i, .i, .i, .i, .i, .i]) (.int .i64 (Int.ofNat 0)) true) l1 l0) pushW, .p (o1 (extG 0) l0) pushW, .p (o1 (extG 1) l1) pushW, .p (o1 mvG l1) w7, .p (o1 mvG l0) w8] [])
 (.seq
 (.drw [.g r8 true false none (o1 mvG r0) pushW, .g r8 true false none (o1 nilckG l0) pushW, .g r8 true false none (o1 (faddrG 0) l0) pushW, .g r8 true false none (o1 load1G l0) pushW, .g r8 true false none (o1 mvG r7) pushW, .g r8 true false none (o2 (iaddrG 4) l1 l0) pushW, .g r8 true false none (o1 (loadnG 4) l0) pushW, .g r8 true true none (callO 74 [l0]) pushW, .g r8 true false none (o1 (fldnG 12 8) l0) pushW, .g r8 true false none (o1 (faddrG 12) r6) pushW, .g r8 true false none (o1 (loadnG 8) l0) pushW, .g r8 true false none (o2 (eqG (slowEq (.many [.i, .i, .i, .i, .i, .i, .i, .i])) false) l2 l0) pushW, .p (o3 pickG r8 l0 (ctK (.bool false))) w34] [])
 (.cond r34
 (.seq
 (.reg [.p (o1 mvG r7) w4, .p (o1 mvG (ctK (.int .i64 (Int.ofNat 0)))) w5])
 .ret)
 .skip)))
 (.seq
 (.seq
 (.reg [.p (o1 nilckG r0) pushW, .p (o1 (faddrG 0) l0) pushW, .p (o1 load1G l0) pushW, .p (o1 lenLG l0) pushW, .p (o2 (binG (cmpB .geq geI)) l0 (ctK (.int .i64 (Int.ofNat 120)))) w41])
 (.cond r41
 (.seq
 (.reg [.p (o1 mvG (ctK (.int .i64 (Int.ofNat 0)))) w4, .p (o1 mvG (ctK (.int .i64 (Int.ofNat 20)))) w5])
 .ret)
 .skip))
 (.seq
 (.drw [.p (o1 (faddrG 2) r3) pushW, .p (o1 load1G l0) pushW, .m (callO 22 [l0]) pushW none, .p (o1 (faddrG 3) r3) pushW, .p (o1 load1G l0) pushW, .m (callO 23 [l0]) pushW (some []), .p (o1 (faddrG 2) r3) pushW, .p (o2 (storeG 1) l0 l4) noW, .p (o1 (faddrG 3) r3) pushW, .p (o2 (storeG 1) l0 l2) noW] [])
 (.seq
 (.drw [.p (o1 nilckG r0) pushW, .p (o1 (faddrG 1) l0) pushW, .p (o1 load1G l0) pushW, .p (o1 (loadnG 20) r6) pushW, .p (o1 nilckG r0) pushW, .p (o1 (faddrG 0) l0) pushW, .p (o1 load1G l0) pushW, .p (o1 lenLG l0) pushW, .p (o3 (mupdG (.many [.i, .i, .i, .s, .s, .s, .s, .s, .s, .s, .s, .s, .i, .i, .i, .i, .i, .i, .i, .i])) l5 l4 l0) noW] [])
 (.seq
 (.drw [.p (o1 nilckG r0) pushW, .p (o1 (faddrG 0) l0) pushW, .p (o1 load1G l0) pushW, .p (o1 (loadnG 4) r3) pushW, .p (bslO 4 1 [(.int .i64 (Int.ofNat 0)), (.str 0 0), .snil, .snil] [(0, 4, l0)]) pushW, .p (o2 (appG 4) l2 l0) pushW, .p (o1 nilckG r0) pushW, .p (o1 (faddrG 0) l0) pushW, .p (o2 (storeG 1) l0 l2) noW] [])
 (.seq
 (.reg [.p (o1 nilckG r0) pushW, .p (o1 (faddrG 0) l0) pushW, .p (o1 load1G l0) pushW, .p (o1 lenLG l0) pushW, .p (o2 (binG subB) l0 (ctK (.int .i64 (Int.ofNat 1)))) pushW, .p (o1 mvG l0) w4, .p (o1 mvG (ctK (.int .i64 (Int.ofNat 0)))) w5])
 .ret)))))))) }
theorem kf56_ok : (compFn Try.prog Try.f56 [[0, 3, 6], [0, 3, 6]]).bind (toKFn [9, 10, 11, 12, 13, 14, 15, 16, 17, 18, 19, 20, 21, 22, 23, 24, 25, 26, 27, 28, 29, 30, 31, 32, 33, 35, 36, 37, 38, 39, 40, 42, 43, 44, 45, 46, 47, 48, 49, 50, 51, 52, 53, 54, 55, 56, 57, 58, 59, 60, 61, 62, 63, 64, 65, 66, 67, 68, 69, 70, 71, 72, 73, 74, 75] 2) = some kf56 := by kernel_rfl
noncomputable def kf74 : KFn := { params := [w0], res := [(.cn r2 20)], body :=
 (.seq
 (.reg [.p (o1 boxG r0) w1, .p (allocO [(.int .i64 (Int.ofNat 0)), (.int .i64 (Int.ofNat 0)), (.int .i64 (Int.ofNat 0)), (.str 0 0), (.str 0 0), (.str 0 0), (.str 0 0), (.str 0 0), (.str 0 0), (.str 0 0), (.str 0 0), (.str 0 0), (.int .i64 (Int.ofNat 0)), (.int .i64 (Int.ofNat 0)), (.int .i64 (Int.ofNat 0)), (.int .i64 (Int.ofNat 0)), (.int .i64 (Int.ofNat 0)), (.int .i64 (Int.ofNat 0)), (.int .i64 (Int.ofNat 0)), (.int .i64 (Int.ofNat 0))]) w2])
 (.seq
 (.reg [.p (o1 (faddrG 0) r1) pushW, .p (o1 load1G l0) pushW, .p (o1 (faddrG 2) r1) pushW, .p (o1 load1G l0) pushW, .p (o1 lenLG l0) pushW, .p (o1 (faddrG 3) r1) pushW, .p (o1 load1G l0) pushW, .p (o1 lenLG l0) pushW, .p (o1 (faddrG 1) r1) pushW, .p (o1 load1G l0) pushW, .p (buildO [(.int .i64 (Int.ofNat 0)), (.int .i64 (Int.ofNat 0)), (.int .i64 (Int.ofNat 0)), (.str 0 0), (.str 0 0), (.str 0 0), (.str 0 0), (.str 0 0), (.str 0 0), (.str 0 0), (.str 0 0), (.str 0 0), (.int .i64 (Int.ofNat 0)), (.int .i64 (Int.ofNat 0)), (.int .i64 (Int.ofNat 0)), (.int .i64 (Int.ofNat 0)), (.int .i64 (Int.ofNat 0)), (.int .i64 (Int.ofNat 0)), (.int .i64 (Int.ofNat 0)), (.int .i64 (Int.ofNat 0))] [(0, 1, l8), (1, 1, l5), (2, 1, l2), (3, 1, l0)]) pushW, .p (allocO [(.int .i64 (Int.ofNat 0)), (.int .i64 (Int.ofNat 0)), (.int .i64 (Int.ofNat 0)), (.str 0 0), (.str 0 0), (.str 0 0), (.str 0 0), (.str 0 0), (.str 0 0), (.str 0 0), (.str 0 0), (.str 0 0), (.int .i64 (Int.ofNat 0)), (.int .i64 (Int.ofNat 0)), (.int .i64 (Int.ofNat 0)), (.int .i64 (Int.ofNat 0)), (.int .i64 (Int.ofNat 0)), (.int .i64 (Int.ofNat 0)), (.int .i64 (Int.ofNat 0)), (.int .i64 (Int.ofNat 0))]) w3, .p (o2 (storeG 20) r3 l0) noW])
 (.seq
 (.drw [.p (o1 (faddrG 4) r3) pushW, .p (cutAO 8 1 l0 none none none) pushW, .p (o1 (faddrG 2) r1) pushW, .p (o1 load1G l0) pushW, .p (o2 (copyG 1) l2 l0) pushW] [])
 (.seq
 (.drw [.p (o1 (faddrG 12) r3) pushW, .p (cutAO 8 1 l0 none none none) pushW, .p (o1 (faddrG 3) r1) pushW, .p (o1 load1G l0) pushW, .p (o2 (copyG 1) l2 l0) pushW] [])
 (.seq
 (.reg [.p (o1 (loadnG 20) r3) pushW, .p (o2 (storeG 20) r2 l0) noW])
 .ret))))) }
theorem kf74_ok : (compFn Try.prog Try.f74 []).bind (toKFn [4, 5, 6, 7, 8, 9, 10, 11, 12, 13, 14, 15, 16, 17, 18, 19, 20, 21, 22, 23, 24, 25] 1) = some kf74 := by kernel_rfl
noncomputable def kf22 : KFn := { params := [w0], res := [(.s r2)], body :=
 (.seq
 (.reg [.p (o1 mvG (ctK .snil)) w2])
 (.seq
 (.seq
 (.reg [.p (o2 (eqG (slowEq (.one .l)) false) r0 (ctK .snil)) w4])
 (.cond r4
 (.seq
 (.reg [.p (o1 mvG (ctK .snil)) w2])
 .ret)
 .skip))
 (.seq
 (.reg [.p (bslO 1 0 [] []) pushW, .p (o2 (appG 1) l0 r0) pushW, .p (o1 mvG l0) w2])
 .ret))) }
theorem kf22_ok : (compFn Try.prog Try.f22 [[0]]).bind (toKFn [3, 5, 6, 7] 1) = some kf22 := by kernel_rfl
noncomputable def kf23 : KFn := { params := [w0], res := [(.s r2)], body :=
 (.seq
 (.reg [.p (o1 mvG (ctK .snil)) w2])
 (.seq
 (.seq
 (.reg [.p (o2 (eqG (slowEq (.one .l)) false) r0 (ctK .snil)) w4])
 (.cond r4
 (.seq
 (.reg [.p (o1 mvG (ctK .snil)) w2])
 .ret)
 .skip))
 (.seq
 (.reg [.p (bslO 1 0 [] []) pushW, .p (o2 (appG 1) l0 r0) pushW, .p (o1 mvG l0) w2])
 .ret))) }
theorem kf23_ok : (compFn Try.prog Try.f23 [[0]]).bind (toKFn [3, 5, 6, 7] 1) = some kf23 := by kernel_rfl
noncomputable def kf8 : KFn := { params := [w0], res := [(.s r2), (.s r3)], body :=
 (.seq
 (.reg [.p (o1 mvG (ctK .snil)) w2, .p (o1 mvG (ctK (.int .i64 (Int.ofNat 0)))) w3])
 (.seq
 (.reg [.p (callO 14 [r0]) pushW, .p (o1 (extG 0) l0) pushW, .p (o1 (extG 1) l1) pushW, .p (o1 mvG l1) w4, .p (o1 mvG l0) w5])
 (.seq
 (.seq
 (.reg [.p (o2 (eqG eqIV true) r5 (ctK (.int .i64 (Int.ofNat 0)))) w14])
 (.cond r14
 (.seq
 (.reg [.p (o1 mvG (ctK .snil)) w2, .p (o1 mvG r5) w3])
 .ret)
 .skip))
 (.seq
 (.reg [.p (buildO [.snil, (.int .i64 (Int.ofNat 0)), (.int .i64 (Int.ofNat 0))] [(0, 1, r4)]) pushW, .p (o1 boxG l0) pushW, .p (o1 mvG l0) w6])
 (.seq
 (.reg [.p (callO 15 [r6, (ctK (.int .i64 (Int.ofNat 0)))]) pushW, .p (o1 mvG l0) w7])
 (.seq
 (.seq
 (.reg [.p (callO 16 [r6]) pushW, .p (o2 (eqG eqIV true) l0 (ctK (.int .i64 (Int.ofNat 0)))) w23])
 (.cond r23
 (.seq
 (.drw [.p (o1 nilckG r6) pushW, .p (o1 (faddrG 2) l0) pushW, .p (o1 load1G l0) pushW, .p (o1 mvG (ctK .snil)) w2, .p (o1 mvG l0) w3] [])
 .ret)
 .skip))
 (.seq
 (.reg [.p (o1 mvG r7) w2, .p (o1 mvG (ctK (.int .i64 (Int.ofNat 0)))) w3])
 .ret))))))) }
theorem kf8_ok : (compFn Try.prog Try.f8 [[4], [7]]).bind (toKFn [8, 9, 10, 11, 12, 13, 15, 16, 17, 18, 19, 20, 21, 22, 24, 25, 26, 27, 28] 1) = some kf8 := by kernel_rfl
noncomputable def kf14 : KFn := { params := [w0], res := [(.s r2), (.s r3)], body :=
 (.seq
 (.reg [.p (o1 mvG (ctK .snil)) w2, .p (o1 mvG (ctK (.int .i64 (Int.ofNat 0)))) w3])
 (.seq
 (.seq
 (.reg [.p (o1 lenSG r0) pushW, .p (o2 (binG (cmpB .gtr gtI)) l0 (ctK (.int .i64 (Int.ofNat 1500)))) w11])
 (.cond r11
 (.seq
 (.reg [.p (o1 mvG (ctK .snil)) w2, .p (o1 mvG (ctK (.int .i64 (Int.ofNat 4)))) w3])
 .ret)
 .skip))
 (.seq
 (.reg [.p (o1 mvG (ctK .snil)) w4])
 (.seq
 (.reg [.p (o1 mvG (ctK (.int .i64 (Int.ofNat 0)))) w5])
 (.seq
 (.block 0
 (.loop
 (.seq
 (.seq
 (.reg [.p (o1 lenSG r0) pushW, .p (o2 (binG (cmpB .lss ltI)) r5 l0) w15])
 (.cond r15
 .skip
 (.exit 0)))
 (.block 1
 (.seq
 (.seq
 (.reg [.p (o2 idxG r0 r5) pushW, .p (callO 24 [l0]) w19])
 (.cond r19
 (.seq
 (.reg [.p (o1 mvG r5) pushW, .p (o2 (binG addB) l0 (ctK (.int .i64 (Int.ofNat 1)))) pushW, .p (o1 mvG l0) w5])
 (.exit 1))
 .skip))
 (.seq
 (.reg [.p (callO 25 [r0, r5]) pushW, .p (o1 (extG 0) l0) pushW, .p (o1 (extG 1) l1) pushW, .p (o1 (extG 2) l2) pushW, .p (allocO [(.int .i64 (Int.ofNat 0)), (.str 0 0), (.int .i64 (Int.ofNat 0)), (.int .i64 (Int.ofNat 0))]) w6, .p (o2 (storeG 4) r6 l2) noW, .p (o1 mvG l1) w7, .p (o1 mvG l0) w8])
 (.seq
 (.seq
 (.reg [.p (o2 (eqG eqIV true) r8 (ctK (.int .i64 (Int.ofNat 0)))) w30])
 (.cond r30
 (.seq
 (.reg [.p (o1 mvG (ctK .snil)) w2, .p (o1 mvG r8) w3])
 .ret)
 .skip))
 (.seq
 (.reg [.p (o1 mvG r4) pushW, .p (o1 (loadnG 4) r6) pushW, .p (bslO 4 1 [(.int .i64 (Int.ofNat 0)), (.str 0 0), (.int .i64 (Int.ofNat 0)), (.int .i64 (Int.ofNat 0))] [(0, 4, l0)]) pushW, .p (o2 (appG 4) l2 l0) pushW, .p (o1 mvG l0) w4])
 (.reg [.p (o1 mvG r7) w5])))))))))
 (.seq
 (.seq
 (.reg [.p (o1 lenLG r4) pushW, .p (o2 (binG (cmpB .gtr gtI)) l0 (ctK (.int .i64 (Int.ofNat 400)))) w39])
 (.cond r39
 (.seq
 (.reg [.p (o1 mvG (ctK .snil)) w2, .p (o1 mvG (ctK (.int .i64 (Int.ofNat 3)))) w3])
 .ret)
 .skip))
 (.seq
 (.reg [.p (o1 mvG r4) w2, .p (o1 mvG (ctK (.int .i64 (Int.ofNat 0)))) w3])
 .ret))))))) }
theorem kf14_ok : (compFn Try.prog Try.f14 [[0], [4], [0, 4, 5], [0, 4, 5], [0, 4, 5], [0, 4, 6, 7], [4]]).bind (toKFn [9, 10, 12, 13, 14, 16, 17, 18, 20, 21, 22, 23, 24, 25, 26, 27, 28, 29, 31, 32, 33, 34, 35, 36, 37, 38, 40] 1) = some kf14 := by kernel_rfl
noncomputable def kf24 : KFn := { params := [w0], res := [(.s r2)], body :=
 (.seq
 (.reg [.p (o1 mvG (ctK (.bool false))) w2])
 (.seq
 (.reg [.p (o2 (eqG eqIV false) r0 (ctK (.int .u8 (Int.ofNat 32)))) pushW, .g l0 false false none (o1 mvG r0) pushW, .g l1 false false none (o2 (eqG eqIV false) l0 (ctK (.int .u8 (Int.ofNat 9)))) pushW, .p (o3 pickG l2 (ctK (.bool true)) l0) pushW, .g l0 false false none (o1 mvG r0) pushW, .g l1 false false none (o2 (eqG eqIV false) l0 (ctK (.int .u8 (Int.ofNat 10)))) pushW, .p (o3 pickG l2 (ctK (.bool true)) l0) pushW, .g l0 false false none (o1 mvG r0) pushW, .g l1 false false none (o2 (eqG eqIV false) l0 (ctK (.int .u8 (Int.ofNat 13)))) pushW, .p (o3 pickG l2 (ctK (.bool true)) l0) pushW, .p (o1 mvG l0) w2])
 .ret)) }
theorem kf24_ok : (compFn Try.prog Try.f24 []).bind (toKFn [3, 4, 5, 6, 7, 8, 9, 10, 11, 12, 13, 14, 15, 16] 1) = some kf24 := by kernel_rfl
noncomputable def kf25 : KFn := { params := [w0, w1], res := [(.cn r4 4), (.s r5), (.s r6)], body :=
 (.seq
 (.reg [.p (allocO [(.int .i64 (Int.ofNat 0)), (.str 0 0), (.int .i64 (Int.ofNat 0)), (.int .i64 (Int.ofNat 0))]) w4, .p (o1 mvG (ctK (.int .i64 (Int.ofNat 0)))) w5, .p (o1 mvG (ctK (.int .i64 (Int.ofNat 0)))) w6])
 (.seq
 (.reg [.p (o1 mvG r1) w7])
 (.seq
 (.block 0
 (.seq
 (.reg [.p (o2 idxG r0 r1) pushW, .p (callO 41 [l0]) pushW, .p (o1 mvG l0) w15])
 (.cond r15
 (.seq
 (.block 1
 (.loop
 (.seq
 (.seq
 (.reg [.p (o1 lenSG r0) pushW, .p (o2 (binG (cmpB .lss ltI)) r7 l0) pushW, .g l0 true false none (o1 mvG r0) pushW, .g l1 true false none (o1 mvG r7) pushW, .g l2 true false none (o2 idxG l1 l0) pushW, .g l3 true false none (callO 41 [l0]) pushW, .g l4 true false none (o1 mvG l0) pushW, .g l0 false false none (o1 mvG r0) pushW, .g l1 false false none (o1 mvG r7) pushW, .g l2 false false none (o2 idxG l1 l0) pushW, .g l3 false false none (callO 42 [l0]) pushW, .g l9 true false none (o3 pickG l4 (ctK (.bool true)) l0) pushW, .p (o3 pickG l10 l0 (ctK (.bool false))) w35])
 (.cond r35
 .skip
 (.exit 1)))
 (.block 2
 (.reg [.p (o1 mvG r7) pushW, .p (o2 (binG addB) l0 (ctK (.int .i64 (Int.ofNat 1)))) pushW, .p (o1 mvG l0) w7])))))
 (.seq
 (.seq
 (.reg [.p (o2 (binG subB) r7 r1) pushW, .p (o2 (binG (cmpB .gtr gtI)) l0 (ctK (.int .i64 (Int.ofNat 16)))) w41])
 (.cond r41
 (.seq
 (.reg [.p (buildO [(.int .i64 (Int.ofNat 0)), (.str 0 0), (.int .i64 (Int.ofNat 0)), (.int .i64 (Int.ofNat 0))] []) pushW, .p (o2 (storeG 4) r4 l0) noW, .p (o1 mvG (ctK (.int .i64 (Int.ofNat 0)))) w5, .p (o1 mvG (ctK (.int .i64 (Int.ofNat 4)))) w6])
 .ret)
 .skip))
 (.seq
 (.reg [.p (cutSO r0 (some r1) (some r7)) pushW, .p (buildO [(.int .i64 (Int.ofNat 0)), (.str 0 0), (.int .i64 (Int.ofNat 0)), (.int .i64 (Int.ofNat 0))] [(0, 1, (ctK (.int .i64 (Int.ofNat 1)))), (1, 1, l0), (3, 1, r1)]) pushW, .p (o2 (storeG 4) r4 l0) noW, .p (o1 mvG r7) w5, .p (o1 mvG (ctK (.int .i64 (Int.ofNat 0)))) w6])
 .ret)))
 (.seq
 (.reg [.p (o2 idxG r0 r1) pushW, .p (callO 42 [l0]) pushW, .g l0 false false none (o1 mvG r0) pushW, .g l1 false false none (o1 mvG r1) pushW, .g l2 false false none (o2 idxG l1 l0) pushW, .g l3 false false none (o2 (eqG eqIV false) l0 (ctK (.int .u8 (Int.ofNat 45)))) pushW, .g l4 false false none (o1 mvG l0) pushW, .g l0 true false none (o1 mvG r1) pushW, .g l1 true false none (o2 (binG addB) l0 (ctK (.int .i64 (Int.ofNat 1)))) pushW, .g l2 true false none (o1 mvG r0) pushW, .g l3 true false none (o1 lenSG l0) pushW, .g l4 true false none (o2 (binG (cmpB .lss ltI)) l2 l0) pushW, .g l10 false false none (o3 pickG l5 l0 (ctK (.bool false))) pushW, .g l11 false false none (o1 mvG l0) pushW, .g l0 true false none (o1 mvG r0) pushW, .g l1 true false none (o1 mvG r1) pushW, .g l2 true false none (o2 (binG addB) l0 (ctK (.int .i64 (Int.ofNat 1)))) pushW, .g l3 true false none (o2 idxG l2 l0) pushW, .g l4 true false none (callO 42 [l0]) pushW, .g l17 false false none (o3 pickG l5 l0 (ctK (.bool false))) pushW, .p (o3 pickG l18 (ctK (.bool true)) l0) pushW, .p (o1 mvG l0) w50])
 (.cond r50
 (.seq
 (.reg [.p (o1 mvG r7) pushW, .p (o2 (binG addB) l0 (ctK (.int .i64 (Int.ofNat 1)))) pushW, .p (o1 mvG l0) w7])
 (.seq
 (.block 3
 (.loop
 (.seq
 (.seq
 (.reg [.p (o1 lenSG r0) pushW, .p (o2 (binG (cmpB .lss ltI)) r7 l0) pushW, .g l0 true false none (o1 mvG r0) pushW, .g l1 true false none (o1 mvG r7) pushW, .g l2 true false none (o2 idxG l1 l0) pushW, .g l3 true false none (callO 42 [l0]) pushW, .p (o3 pickG l4 l0 (ctK (.bool false))) w86])
 (.cond r86
 .skip
 (.exit 3)))
 (.block 4
 (.reg [.p (o1 mvG r7) pushW, .p (o2 (binG addB) l0 (ctK (.int .i64 (Int.ofNat 1)))) pushW, .p (o1 mvG l0) w7])))))
 (.seq
 (.reg [.p (cutSO r0 (some r1) (some r7)) pushW, .p (callO 43 [l0]) pushW, .p (o1 (extG 0) l0) pushW, .p (o1 (extG 1) l1) pushW, .p (o1 mvG l1) w8, .p (o1 mvG l0) w9])
 (.seq
 (.reg [.p (buildO [(.int .i64 (Int.ofNat 0)), (.str 0 0), (.int .i64 (Int.ofNat 0)), (.int .i64 (Int.ofNat 0))] [(0, 1, (ctK (.int .i64 (Int.ofNat 3)))), (2, 1, r8), (3, 1, r1)]) pushW, .p (o2 (storeG 4) r4 l0) noW, .p (o1 mvG r7) w5, .p (o1 mvG r9) w6])
 .ret))))
 (.seq
 (.reg [.p (o2 idxG r0 r1) pushW, .p (o2 (eqG eqIV false) l0 (ctK (.int .u8 (Int.ofNat 34)))) pushW, .p (o1 mvG l0) w102])
 (.cond r102
 (.seq
 (.reg [.p (callO 44 [r0, r1]) pushW, .p (o1 (extG 0) l0) pushW, .p (o1 (extG 1) l1) pushW, .p (o1 mvG l1) w10, .p (o1 mvG l0) w11])
 (.seq
 (.seq
 (.reg [.p (o2 (binG (cmpB .lss ltI)) r11 (ctK (.int .i64 (Int.ofNat 0)))) w114])
 (.cond r114
 (.seq
 (.reg [.p (buildO [(.int .i64 (Int.ofNat 0)), (.str 0 0), (.int .i64 (Int.ofNat 0)), (.int .i64 (Int.ofNat 0))] []) pushW, .p (o2 (storeG 4) r4 l0) noW, .p (o1 mvG (ctK (.int .i64 (Int.ofNat 0)))) w5, .p (o1 mvG (ctK (.int .i64 (Int.ofNat 11)))) w6])
 .ret)
 .skip))
 (.seq
 (.seq
 (.reg [.p (o1 lenSG r10) pushW, .p (o2 (binG (cmpB .gtr gtI)) l0 (ctK (.int .i64 (Int.ofNat 200)))) w118])
 (.cond r118
 (.seq
 (.reg [.p (buildO [(.int .i64 (Int.ofNat 0)), (.str 0 0), (.int .i64 (Int.ofNat 0)), (.int .i64 (Int.ofNat 0))] []) pushW, .p (o2 (storeG 4) r4 l0) noW, .p (o1 mvG (ctK (.int .i64 (Int.ofNat 0)))) w5, .p (o1 mvG (ctK (.int .i64 (Int.ofNat 4)))) w6])
 .ret)
 .skip))
 (.seq
 (.reg [.p (buildO [(.int .i64 (Int.ofNat 0)), (.str 0 0), (.int .i64 (Int.ofNat 0)), (.int .i64 (Int.ofNat 0))] [(0, 1, (ctK (.int .i64 (Int.ofNat 2)))), (1, 1, r10), (3, 1, r1)]) pushW, .p (o2 (storeG 4) r4 l0) noW, .p (o1 mvG r11) w5, .p (o1 mvG (ctK (.int .i64 (Int.ofNat 0)))) w6])
 .ret))))
 .skip)))))))
 (.seq
 (.seq
 (.reg [.p (o2 (binG addB) r1 (ctK (.int .i64 (Int.ofNat 2)))) pushW, .p (o1 lenSG r0) pushW, .p (o2 (binG (cmpB .leq leI)) l1 l0) pushW, .g l0 true false none (o1 mvG r0) pushW, .g l1 true false none (o1 mvG r1) pushW, .g l2 true false none (o1 mvG r1) pushW, .g l3 true false none (o2 (binG addB) l0 (ctK (.int .i64 (Int.ofNat 2)))) pushW, .g l4 true false none (cutSO l3 (some l2) (some l0)) pushW, .g l5 true false none (o2 (eqG eqSV false) l0 (ctK (.str 2 15917))) pushW, .g l6 true false none (o1 mvG l0) pushW, .g l0 false false none (o1 mvG r0) pushW, .g l1 false false none (o1 mvG r1) pushW, .g l2 false false none (o1 mvG r1) pushW, .g l3 false false none (o2 (binG addB) l0 (ctK (.int .i64 (Int.ofNat 2)))) pushW, .g l4 false false none (cutSO l3 (some l2) (some l0)) pushW, .g l5 false false none (o2 (eqG eqSV false) l0 (ctK (.str 2 15674))) pushW, .g l13 true false none (o3 pickG l6 (ctK (.bool true)) l0) pushW, .p (o3 pickG l14 l0 (ctK (.bool false))) w144])
 (.cond r144
 (.seq
 (.reg [.p (o2 (binG addB) r1 (ctK (.int .i64 (Int.ofNat 2)))) pushW, .p (cutSO r0 (some r1) (some l0)) pushW, .p (buildO [(.int .i64 (Int.ofNat 0)), (.str 0 0), (.int .i64 (Int.ofNat 0)), (.int .i64 (Int.ofNat 0))] [(0, 1, (ctK (.int .i64 (Int.ofNat 4)))), (1, 1, l0), (3, 1, r1)]) pushW, .p (o2 (binG addB) r1 (ctK (.int .i64 (Int.ofNat 2)))) pushW, .p (o2 (storeG 4) r4 l1) noW, .p (o1 mvG l0) w5, .p (o1 mvG (ctK (.int .i64 (Int.ofNat 0)))) w6])
 .ret)
 .skip))
 (.seq
 (.reg [.p (o1 mvG (ctK (.str 13 4693490251599039476243155942779))) w12])
 (.seq
 (.seq
 (.reg [.p (o1 mvG (ctK (.int .i64 (Int.ofNat 0)))) w13])
 (.block 5
 (.loop
 (.seq
 (.seq
 (.reg [.p (o1 lenSG r12) pushW, .p (o2 (binG (cmpB .lss ltI)) r13 l0) w157])
 (.cond r157
 .skip
 (.exit 5)))
 (.seq
 (.block 6
 (.seq
 (.drw [.p (o2 idxG r12 r13) pushW, .p (o2 idxG r0 r1) pushW, .p (o2 (eqG eqIV false) l1 l0) w166] [])
 (.cond r166
 (.seq
 (.reg [.p (o2 (binG addB) r1 (ctK (.int .i64 (Int.ofNat 1)))) pushW, .p (cutSO r0 (some r1) (some l0)) pushW, .p (buildO [(.int .i64 (Int.ofNat 0)), (.str 0 0), (.int .i64 (Int.ofNat 0)), (.int .i64 (Int.ofNat 0))] [(0, 1, (ctK (.int .i64 (Int.ofNat 4)))), (1, 1, l0), (3, 1, r1)]) pushW, .p (o2 (binG addB) r1 (ctK (.int .i64 (Int.ofNat 1)))) pushW, .p (o2 (storeG 4) r4 l1) noW, .p (o1 mvG l0) w5, .p (o1 mvG (ctK (.int .i64 (Int.ofNat 0)))) w6])
 .ret)
 .skip)))
 (.reg [.p (o1 mvG r13) pushW, .p (o2 (binG addB) l0 (ctK (.int .i64 (Int.ofNat 1)))) pushW, .p (o1 mvG l0) w13]))))))
 (.seq
 (.reg [.p (buildO [(.int .i64 (Int.ofNat 0)), (.str 0 0), (.int .i64 (Int.ofNat 0)), (.int .i64 (Int.ofNat 0))] []) pushW, .p (o2 (storeG 4) r4 l0) noW, .p (o1 mvG (ctK (.int .i64 (Int.ofNat 0)))) w5, .p (o1 mvG (ctK (.int .i64 (Int.ofNat 11)))) w6])
 .ret))))))) }
theorem kf25_ok : (compFn Try.prog Try.f25 [[0, 1, 4], [0, 1, 4, 7], [0, 1, 4, 7], [0, 1, 4, 7], [0, 1, 4, 7], [0, 1, 4, 7], [0, 1, 4, 7], [0, 1, 4, 7], [1, 4, 10, 11], [1, 4, 10, 11], [0, 1, 4], [4], [0, 1, 4, 12, 13], [0, 1, 4, 12, 13], [0, 1, 4, 12, 13]]).bind (toKFn [14, 16, 17, 18, 19, 20, 21, 22, 23, 24, 25, 26, 27, 28, 29, 30, 31, 32, 33, 34, 36, 37, 38, 39, 40, 42, 43, 44, 45, 46, 47, 48, 49, 51, 52, 53, 54, 55, 56, 57, 58, 59, 60, 61, 62, 63, 64, 65, 66, 67, 68, 69, 70, 71, 72, 73, 74, 75, 76, 77, 78, 79, 80, 81, 82, 83, 84, 85, 87, 88, 89, 90, 91, 92, 93, 94, 95, 96, 97, 98, 99, 100, 101, 103, 104, 105, 106, 107, 108, 109, 110, 111, 112, 113, 115, 116, 117, 119, 120, 121, 122, 123, 124, 125, 126, 127, 128, 129, 130, 131, 132, 133, 134, 135, 136, 137, 138, 139, 140, 141, 142, 143, 145, 146, 147, 148, 149, 150, 151, 152, 153, 154, 155, 156, 158, 159, 160, 161, 162, 163, 164, 165, 167, 168, 169, 170, 171, 172, 173, 174, 175, 176] 2) = some kf25 := by kernel_rfl
noncomputable def kf41 : KFn := { params := [w0], res := [(.s r2)], body :=
 (.seq
 (.reg [.p (o1 mvG (ctK (.bool false))) w2])
 (.seq
 (.reg [.p (o2 (binG (cmpB .geq geI)) r0 (ctK (.int .u8 (Int.ofNat 97)))) pushW, .g l0 true false none (o1 mvG r0) pushW, .g l1 true false none (o2 (binG (cmpB .leq leI)) l0 (ctK (.int .u8 (Int.ofNat 122)))) pushW, .p (o3 pickG l2 l0 (ctK (.bool false))) pushW, .g l0 false false none (o1 mvG r0) pushW, .g l1 false false none (o2 (binG (cmpB .geq geI)) l0 (ctK (.int .u8 (Int.ofNat 65)))) pushW, .g l2 false false none (o1 mvG l0) pushW, .g l0 true false none (o1 mvG r0) pushW, .g l1 true false none (o2 (binG (cmpB .leq leI)) l0 (ctK (.int .u8 (Int.ofNat 90)))) pushW, .g l5 false false none (o3 pickG l2 l0 (ctK (.bool false))) pushW, .p (o3 pickG l6 (ctK (.bool true)) l0) pushW, .g l0 false false none (o1 mvG r0) pushW, .g l1 false false none (o2 (eqG eqIV false) l0 (ctK (.int .u8 (Int.ofNat 95)))) pushW, .p (o3 pickG l2 (ctK (.bool true)) l0) pushW, .p (o1 mvG l0) w2])
 .ret)) }
theorem kf41_ok : (compFn Try.prog Try.f41 []).bind (toKFn [3, 4, 5, 6, 7, 8, 9, 10, 11, 12, 13, 14, 15, 16, 17, 18, 19, 20] 1) = some kf41 := by kernel_rfl
noncomputable def kf42 : KFn := { params := [w0], res := [(.s r2)], body :=
 (.seq
 (.reg [.p (o1 mvG (ctK (.bool false))) w2])
 (.seq
 (.reg [.p (o2 (binG (cmpB .geq geI)) r0 (ctK (.int .u8 (Int.ofNat 48)))) pushW, .g l0 true false none (o1 mvG r0) pushW, .g l1 true false none (o2 (binG (cmpB .leq leI)) l0 (ctK (.int .u8 (Int.ofNat 57)))) pushW, .p (o3 pickG l2 l0 (ctK (.bool false))) pushW, .p (o1 mvG l0) w2])
 .ret)) }
theorem kf42_ok : (compFn Try.prog Try.f42 []).bind (toKFn [3, 4, 5, 6, 7, 8] 1) = some kf42 := by kernel_rfl
noncomputable def kf43 : KFn := { params := [w0], res := [(.s r2), (.s r3)], body :=
 (.seq
 (.reg [.p (o1 mvG (ctK (.int .i64 (Int.ofNat 0)))) w2, .p (o1 mvG (ctK (.int .i64 (Int.ofNat 0)))) w3])
 (.seq
 (.reg [.p (o1 mvG r0) w4])
 (.seq
 (.seq
 (.reg [.p (o2 idxG r0 (ctK (.int .i64 (Int.ofNat 0)))) pushW, .p (o2 (eqG eqIV false) l0 (ctK (.int .u8 (Int.ofNat 45)))) w10])
 (.cond r10
 (.reg [.p (cutSO r0 (some (ctK (.int .i64 (Int.ofNat 1)))) none) pushW, .p (o1 mvG l0) w4])
 .skip))
 (.seq
 (.seq
 (.reg [.p (o1 lenSG r4) pushW, .p (o2 (binG (cmpB .gtr gtI)) l0 (ctK (.int .i64 (Int.ofNat 19)))) w15])
 (.cond r15
 (.seq
 (.reg [.p (o1 mvG (ctK (.int .i64 (Int.ofNat 0)))) w2, .p (o1 mvG (ctK (.int .i64 (Int.ofNat 4)))) w3])
 .ret)
 .skip))
 (.seq
 (.reg [.p (o1 mvG (ctK (.int .u64 (Int.ofNat 0)))) w5])
 (.seq
 (.seq
 (.reg [.p (o1 mvG (ctK (.int .i64 (Int.ofNat 0)))) w6])
 (.block 0
 (.loop
 (.seq
 (.seq
 (.reg [.p (o1 lenSG r4) pushW, .p (o2 (binG (cmpB .lss ltI)) r6 l0) w19])
 (.cond r19
 .skip
 (.exit 0)))
 (.seq
 (.block 1
 (.reg [.p (o1 mvG r5) pushW, .p (o2 (binG (slowBin .mul)) l0 (ctK (.int .u64 (Int.ofNat 10)))) pushW, .p (o2 idxG r4 r6) pushW, .p (o2 (binG subB) l0 (ctK (.int .u8 (Int.ofNat 48)))) pushW, .p (o1 (tointG .u64) l0) pushW, .p (o2 (binG addB) l3 l0) pushW, .p (o1 mvG l0) w5]))
 (.reg [.p (o1 mvG r6) pushW, .p (o2 (binG addB) l0 (ctK (.int .i64 (Int.ofNat 1)))) pushW, .p (o1 mvG l0) w6]))))))
 (.seq
 (.seq
 (.reg [.p (o2 idxG r0 (ctK (.int .i64 (Int.ofNat 0)))) pushW, .p (o2 (eqG eqIV false) l0 (ctK (.int .u8 (Int.ofNat 45)))) w32])
 (.cond r32
 (.seq
 (.seq
 (.reg [.p (o2 (binG (cmpB .gtr gtI)) r5 (ctK (.int .u64 (Int.ofNat 9223372036854775808)))) w34])
 (.cond r34
 (.seq
 (.reg [.p (o1 mvG (ctK (.int .i64 (Int.ofNat 0)))) w2, .p (o1 mvG (ctK (.int .i64 (Int.ofNat 11)))) w3])
 .ret)
 .skip))
 (.seq
 (.reg [.p (o1 negG r5) pushW, .p (o1 (tointG .i64) l0) pushW, .p (o1 mvG l0) w2, .p (o1 mvG (ctK (.int .i64 (Int.ofNat 0)))) w3])
 .ret))
 .skip))
 (.seq
 (.seq
 (.reg [.p (o2 (binG (cmpB .gtr gtI)) r5 (ctK (.int .u64 (Int.ofNat 9223372036854775807)))) w39])
 (.cond r39
 (.seq
 (.reg [.p (o1 mvG (ctK (.int .i64 (Int.ofNat 0)))) w2, .p (o1 mvG (ctK (.int .i64 (Int.ofNat 11)))) w3])
 .ret)
 .skip))
 (.seq
 (.reg [.p (o1 (tointG .i64) r5) pushW, .p (o1 mvG l0) w2, .p (o1 mvG (ctK (.int .i64 (Int.ofNat 0)))) w3])
 .ret))))))))) }
theorem kf43_ok : (compFn Try.prog Try.f43 [[0, 4], [0, 4], [0, 5], [0, 4, 5, 6], [0, 4, 5, 6], [0, 4, 5, 6], [5], [5], [5]]).bind (toKFn [7, 8, 9, 11, 12, 13, 14, 16, 17, 18, 20, 21, 22, 23, 24, 25, 26, 27, 28, 29, 30, 31, 33, 35, 36, 37, 38, 40, 41] 1) = some kf43 := by kernel_rfl
noncomputable def kf44 : KFn := { params := [w0, w1], res := [(.s r4), (.s r5)], body :=
 (.seq
 (.reg [.p (o1 mvG (ctK (.str 0 0))) w4, .p (o1 mvG (ctK (.int .i64 (Int.ofNat 0)))) w5])
 (.seq
 (.reg [.p (o1 mvG (ctK (.str 0 0))) w6])
 (.seq
 (.reg [.p (o1 mvG r1) pushW, .p (o2 (binG addB) l0 (ctK (.int .i64 (Int.ofNat 1)))) pushW, .p (o1 mvG l0) w1])
 (.seq
 (.block 0
 (.loop
 (.seq
 (.seq
 (.reg [.p (o1 lenSG r0) pushW, .p (o2 (binG (cmpB .lss ltI)) r1 l0) w13])
 (.cond r13
 .skip
 (.exit 0)))
 (.block 1
 (.seq
 (.reg [.p (o2 idxG r0 r1) pushW, .p (o1 mvG l0) w7])
 (.seq
 (.block 2
 (.seq
 (.reg [.p (o2 (eqG eqIV false) r7 (ctK (.int .u8 (Int.ofNat 34)))) pushW, .p (o1 mvG l0) w17])
 (.cond r17
 (.seq
 (.reg [.p (o2 (binG addB) r1 (ctK (.int .i64 (Int.ofNat 1)))) pushW, .p (o1 mvG r6) w4, .p (o1 mvG l0) w5])
 .ret)
 (.seq
 (.reg [.p (o2 (binG (cmpB .lss ltI)) r7 (ctK (.int .u8 (Int.ofNat 32)))) pushW, .p (o1 mvG l0) w23])
 (.cond r23
 (.seq
 (.reg [.p (o1 mvG (ctK (.str 0 0))) w4, .p (o1 mvG (ctK (.int .i64 (Int.negSucc 0)))) w5])
 .ret)
 (.seq
 (.reg [.p (o2 (eqG eqIV true) r7 (ctK (.int .u8 (Int.ofNat 92)))) pushW, .p (o1 mvG l0) w26])
 (.cond r26
 (.seq
 (.reg [.p (o1 mvG r6) pushW, .p (o2 (binG addB) r1 (ctK (.int .i64 (Int.ofNat 1)))) pushW, .p (cutSO r0 (some r1) (some l0)) pushW, .p (o2 (binG addB) l2 l0) pushW, .p (o1 mvG l0) w6])
 (.seq
 (.reg [.p (o1 mvG r1) pushW, .p (o2 (binG addB) l0 (ctK (.int .i64 (Int.ofNat 1)))) pushW, .p (o1 mvG l0) w1])
 (.exit 1)))
 .skip)))))))
 (.seq
 (.seq
 (.reg [.p (o2 (binG addB) r1 (ctK (.int .i64 (Int.ofNat 1)))) pushW, .p (o1 lenSG r0) pushW, .p (o2 (binG (cmpB .geq geI)) l1 l0) w42])
 (.cond r42
 (.seq
 (.reg [.p (o1 mvG (ctK (.str 0 0))) w4, .p (o1 mvG (ctK (.int .i64 (Int.negSucc 0)))) w5])
 .ret)
 .skip))
 (.seq
 (.seq
 (.reg [.p (o2 (binG addB) r1 (ctK (.int .i64 (Int.ofNat 1)))) pushW, .p (o2 idxG r0 l0) w46])
 (.block 3
 (.seq
 (.seq
 (.reg [.p (o2 (eqG eqIV false) r46 (ctK (.int .u8 (Int.ofNat 92)))) pushW, .p (o1 mvG l0) w47])
 (.cond r47
 .skip
 (.reg [.p (o2 (eqG eqIV false) r46 (ctK (.int .u8 (Int.ofNat 34)))) pushW, .p (o1 mvG l0) w47])))
 (.cond r47
 (.reg [.p (o1 mvG r6) pushW, .p (o2 (binG addB) r1 (ctK (.int .i64 (Int.ofNat 1)))) pushW, .p (o2 (binG addB) r1 (ctK (.int .i64 (Int.ofNat 2)))) pushW, .p (cutSO r0 (some l1) (some l0)) pushW, .p (o2 (binG addB) l3 l0) pushW, .p (o1 mvG l0) w6])
 (.seq
 (.reg [.p (o2 (eqG eqIV false) r46 (ctK (.int .u8 (Int.ofNat 110)))) pushW, .p (o1 mvG l0) w58])
 (.cond r58
 (.reg [.p (o1 mvG r6) pushW, .p (o2 (binG addB) l0 (ctK (.str 1 10))) pushW, .p (o1 mvG l0) w6])
 (.seq
 (.reg [.p (o2 (eqG eqIV false) r46 (ctK (.int .u8 (Int.ofNat 116)))) pushW, .p (o1 mvG l0) w62])
 (.cond r62
 (.reg [.p (o1 mvG r6) pushW, .p (o2 (binG addB) l0 (ctK (.str 1 9))) pushW, .p (o1 mvG l0) w6])
 (.seq
 (.reg [.p (o1 mvG (ctK (.str 0 0))) w4, .p (o1 mvG (ctK (.int .i64 (Int.negSucc 0)))) w5])
 .ret)))))))))
 (.reg [.p (o1 mvG r1) pushW, .p (o2 (binG addB) l0 (ctK (.int .i64 (Int.ofNat 2)))) pushW, .p (o1 mvG l0) w1])))))))))
 (.seq
 (.reg [.p (o1 mvG (ctK (.str 0 0))) w4, .p (o1 mvG (ctK (.int .i64 (Int.negSucc 0)))) w5])
 .ret))))) }
theorem kf44_ok : (compFn Try.prog Try.f44 [[], [0, 1, 6], [0, 1, 6], [0, 1, 6], [0, 1, 6], [0, 1, 6], [0, 1, 6, 46, 47]]).bind (toKFn [8, 9, 10, 11, 12, 14, 15, 16, 18, 19, 20, 21, 22, 24, 25, 27, 28, 29, 30, 31, 32, 33, 34, 35, 36, 37, 38, 39, 40, 41, 43, 44, 45, 48, 49, 50, 51, 52, 53, 54, 55, 56, 57, 59, 60, 61, 63, 64, 65, 66, 67] 2) = some kf44 := by kernel_rfl
noncomputable def kf15 : KFn := { params := [w0, w1], res := [(.s r4)], body :=
 (.seq
 (.reg [.p (o1 mvG (ctK .snil)) w4])
 (.seq
 (.reg [.p (callO 26 [r0, r1]) pushW, .p (bslO 1 1 [.snil] [(0, 1, l0)]) pushW, .p (o1 mvG l0) w5])
 (.seq
 (.block 0
 (.loop
 (.seq
 (.seq
 (.reg [.p (callO 27 [r0, (ctK (.str 1 124))]) w11])
 (.cond r11
 .skip
 (.exit 0)))
 (.block 1
 (.seq
 (.reg [.p (o1 nilckG r0) pushW, .p (o1 (faddrG 1) l0) pushW, .p (o1 load1G l0) pushW, .p (o2 (binG addB) l0 (ctK (.int .i64 (Int.ofNat 1)))) pushW, .p (o1 nilckG r0) pushW, .p (o1 (faddrG 1) l0) pushW, .p (o2 (storeG 1) l0 l2) noW])
 (.reg [.p (o1 mvG r5) pushW, .p (callO 26 [r0, r1]) pushW, .p (bslO 1 1 [.snil] [(0, 1, l0)]) pushW, .p (o2 (appG 1) l2 l0) pushW, .p (o1 mvG l0) w5]))))))
 (.seq
 (.reg [.p (o1 mvG r5) w4])
 .ret)))) }
theorem kf15_ok : (compFn Try.prog Try.f15 [[5], [0, 1, 5], [0, 1, 5]]).bind (toKFn [6, 7, 8, 9, 10, 12, 13, 14, 15, 16, 17, 18, 19, 20, 21, 22, 23, 24, 25] 2) = some kf15 := by kernel_rfl
noncomputable def kf26 : KFn := { params := [w0, w1], res := [(.cn r4 1)], body :=
 (.seq
 (.reg [.p (allocO [.snil]) w4])
 (.seq
 (.seq
 (.drw [.m (callO 45 [r0, (ctK (.int .i64 (Int.ofNat 1)))]) pushW (some []), .p (o1 notG l0) pushW, .g l0 false false none (o1 mvG r0) pushW, .g l1 false false none (o1 nilckG l0) pushW, .g l2 false false none (o1 (faddrG 0) l0) pushW, .g l3 false false none (o1 load1G l0) pushW, .g l4 false false none (o1 mvG r0) pushW, .g l5 false false none (o1 nilckG l0) pushW, .g l6 false false none (o1 (faddrG 1) l0) pushW, .g l7 false false none (o1 load1G l0) pushW, .g l8 false false none (o2 (iaddrG 4) l4 l0) pushW, .g l9 false false none (o1 (faddrG 1) l0) pushW, .g l10 false false none (o1 load1G l0) pushW, .g l11 false true (some []) (callO 46 [l0]) pushW, .p (o3 pickG l12 (ctK (.bool true)) l0) w22] [])
 (.cond r22
 (.seq
 (.reg [.p (callO 47 [r0, r1]) pushW, .p (bslO 7 1 [(.int .i64 (Int.ofNat 0)), (.str 0 0), .snil, (.str 0 0), (.int .i64 (Int.ofNat 0)), (.bool false), .snil] [(0, 7, l0)]) pushW, .p (buildO [.snil] [(0, 1, l0)]) pushW, .p (o2 (storeG 1) r4 l0) noW])
 .ret)
 .skip))
 (.seq
 (.reg [.p (callO 48 [r0, (ctK (.int .i64 (Int.ofNat 1)))]) pushW, .p (o1 (fld1G 1) l0) pushW, .p (buildO [(.int .i64 (Int.ofNat 0)), (.str 0 0), .snil, (.str 0 0), (.int .i64 (Int.ofNat 0)), (.bool false), .snil] [(0, 1, (ctK (.int .i64 (Int.ofNat 6)))), (3, 1, l0)]) pushW, .p (bslO 7 1 [(.int .i64 (Int.ofNat 0)), (.str 0 0), .snil, (.str 0 0), (.int .i64 (Int.ofNat 0)), (.bool false), .snil] [(0, 7, l0)]) pushW, .p (buildO [.snil] [(0, 1, l0)]) pushW, .p (allocO [.snil]) w5, .p (o2 (storeG 1) r5 l0) noW])
 (.seq
 (.block 0
 (.loop
 (.seq
 (.seq
 (.reg [.p (callO 49 [r0]) w35])
 (.cond r35
 .skip
 (.exit 0)))
 (.block 1
 (.seq
 (.seq
 (.reg [.p (o1 (faddrG 0) r5) pushW, .p (o1 load1G l0) pushW, .p (o1 lenLG l0) pushW, .p (o2 (binG (cmpB .gtr gtI)) l0 (ctK (.int .i64 (Int.ofNat 4)))) w39])
 (.cond r39
 (.seq
 (.reg [.p (callO 28 [r0, (ctK (.int .i64 (Int.ofNat 18)))]) pushW])
 (.seq
 (.reg [.p (o1 (loadnG 1) r5) pushW, .p (o2 (storeG 1) r4 l0) noW])
 .ret))
 .skip))
 (.drw [.p (o1 (faddrG 0) r5) w43, .p (o1 load1G r43) pushW, .m (callO 47 [r0, r1]) pushW (some [43]), .p (bslO 7 1 [(.int .i64 (Int.ofNat 0)), (.str 0 0), .snil, (.str 0 0), (.int .i64 (Int.ofNat 0)), (.bool false), .snil] [(0, 7, l0)]) pushW, .p (o2 (appG 7) l2 l0) pushW, .p (o1 (faddrG 0) r5) pushW, .p (o2 (storeG 1) l0 l1) noW] []))))))
 (.seq
 (.reg [.p (o1 (loadnG 1) r5) pushW, .p (o2 (storeG 1) r4 l0) noW])
 .ret))))) }
theorem kf26_ok : (compFn Try.prog Try.f26 [[0, 1, 4], [4, 5], [0, 1, 4, 5], [0, 1, 4, 5], [0, 1, 4, 5]]).bind (toKFn [6, 7, 8, 9, 10, 11, 12, 13, 14, 15, 16, 17, 18, 19, 20, 21, 23, 24, 25, 26, 27, 28, 29, 30, 31, 32, 33, 34, 36, 37, 38, 40, 41, 42, 44, 45, 46, 47, 48, 49, 50, 51] 2) = some kf26 := by kernel_rfl
noncomputable def kf45 : KFn := { params := [w0, w1], res := [(.s r4)], body :=
 (.seq
 (.reg [.p (o1 mvG (ctK (.bool false))) w4])
 (.seq
 (.drw [.p (o1 nilckG r0) pushW, .p (o1 (faddrG 2) l0) pushW, .p (o1 load1G l0) pushW, .p (o2 (eqG eqIV false) l0 (ctK (.int .i64 (Int.ofNat 0)))) pushW, .g l0 true false none (o1 mvG r0) pushW, .g l1 true false none (o1 nilckG l0) pushW, .g l2 true false none (o1 (faddrG 1) l0) pushW, .g l3 true false none (o1 load1G l0) pushW, .g l4 true false none (o1 mvG r0) pushW, .g l5 true false none (o1 nilckG l0) pushW, .g l6 true false none (o1 (faddrG 0) l0) pushW, .g l7 true false none (o1 load1G l0) pushW, .g l8 true false none (o1 lenLG l0) pushW, .g l9 true false none (o2 (binG (cmpB .lss ltI)) l5 l0) pushW, .p (o3 pickG l10 l0 (ctK (.bool false))) pushW, .g l0 true false none (o1 mvG r0) pushW, .g l1 true false none (o1 nilckG l0) pushW, .g l2 true false none (o1 (faddrG 0) l0) pushW, .g l3 true false none (o1 load1G l0) pushW, .g l4 true false none (o1 mvG r0) pushW, .g l5 true false none (o1 nilckG l0) pushW, .g l6 true false none (o1 (faddrG 1) l0) pushW, .g l7 true false none (o1 load1G l0) pushW, .g l8 true false none (o2 (iaddrG 4) l4 l0) pushW, .g l9 true false none (o1 (faddrG 0) l0) pushW, .g l10 true false none (o1 load1G l0) pushW, .g l11 true false none (o1 mvG r1) pushW, .g l12 true false none (o2 (eqG eqIV false) l1 l0) pushW, .p (o3 pickG l13 l0 (ctK (.bool false))) pushW, .p (o1 mvG l0) w4] [])
 .ret)) }
theorem kf45_ok : (compFn Try.prog Try.f45 []).bind (toKFn [5, 6, 7, 8, 9, 10, 11, 12, 13, 14, 15, 16, 17, 18, 19, 20, 21, 22, 23, 24, 25, 26, 27, 28, 29, 30, 31, 32, 33, 34, 35, 36] 2) = some kf45 := by kernel_rfl
noncomputable def kf46 : KFn := { params := [w0], res := [(.s r2)], body :=
 (.seq
 (.reg [.p (o1 mvG (ctK (.bool false))) w2])
 (.seq
 (.seq
 (.reg [.p (o1 mvG r0) w3])
 (.block 0
 (.seq
 (.seq
 (.reg [.p (o2 (eqG eqSV false) r3 (ctK (.str 2 26217))) pushW, .p (o1 mvG l0) w4])
 (.cond r4
 .skip
 (.seq
 (.reg [.p (o2 (eqG eqSV false) r3 (ctK (.str 4 1752459639))) pushW, .p (o1 mvG l0) w4])
 (.cond r4
 .skip
 (.seq
 (.reg [.p (o2 (eqG eqSV false) r3 (ctK (.str 5 435526984050))) pushW, .p (o1 mvG l0) w4])
 (.cond r4
 .skip
 (.seq
 (.reg [.p (o2 (eqG eqSV false) r3 (ctK (.str 5 448345170285))) pushW, .p (o1 mvG l0) w4])
 (.cond r4
 .skip
 (.seq
 (.reg [.p (o2 (eqG eqSV false) r3 (ctK (.str 4 1702063205))) pushW, .p (o1 mvG l0) w4])
 (.cond r4
 .skip
 (.seq
 (.reg [.p (o2 (eqG eqSV false) r3 (ctK (.str 3 6581861))) pushW, .p (o1 mvG l0) w4])
 (.cond r4
 .skip
 (.seq
 (.reg [.p (o2 (eqG eqSV false) r3 (ctK (.str 4 1702060387))) pushW, .p (o1 mvG l0) w4])
 (.cond r4
 .skip
 (.seq
 (.reg [.p (o2 (eqG eqSV false) r3 (ctK (.str 8 7310575213499737460))) pushW, .p (o1 mvG l0) w4])
 (.cond r4
 .skip
 (.seq
 (.reg [.p (o2 (eqG eqSV false) r3 (ctK (.str 6 111524889126244))) pushW, .p (o1 mvG l0) w4])
 (.cond r4
 .skip
 (.seq
 (.reg [.p (o2 (eqG eqSV false) r3 (ctK (.str 4 1702195828))) pushW, .p (o1 mvG l0) w4])
 (.cond r4
 .skip
 (.reg [.p (o2 (eqG eqSV false) r3 (ctK (.str 5 435728179558))) pushW, .p (o1 mvG l0) w4])))))))))))))))))))))
 (.cond r4
 (.seq
 (.reg [.p (o1 mvG (ctK (.bool true))) w2])
 .ret)
 .skip))))
 (.seq
 (.reg [.p (o1 mvG (ctK (.bool false))) w2])
 .ret))) }
theorem kf46_ok : (compFn Try.prog Try.f46 [[], [4]]).bind (toKFn [5, 6, 7, 8, 9, 10, 11, 12, 13, 14, 15] 1) = some kf46 := by kernel_rfl
noncomputable def kf47 : KFn := { params := [w0, w1], res := [(.cn r4 7)], body :=
 (.seq
 (.reg [.p (allocO [(.int .i64 (Int.ofNat 0)), (.str 0 0), .snil, (.str 0 0), (.int .i64 (Int.ofNat 0)), (.bool false), .snil]) w4])
 (.seq
 (.seq
 (.reg [.p (callO 49 [r0]) pushW, .p (o1 notG l0) w11])
 (.cond r11
 (.seq
 (.reg [.p (callO 28 [r0, (ctK (.int .i64 (Int.ofNat 12)))]) pushW])
 (.seq
 (.reg [.p (buildO [(.int .i64 (Int.ofNat 0)), (.str 0 0), .snil, (.str 0 0), (.int .i64 (Int.ofNat 0)), (.bool false), .snil] []) pushW, .p (o2 (storeG 7) r4 l0) noW])
 .ret))
 .skip))
 (.seq
 (.drw [.p (o1 nilckG r0) pushW, .p (o1 (faddrG 0) l0) pushW, .p (o1 load1G l0) pushW, .p (o1 nilckG r0) pushW, .p (o1 (faddrG 1) l0) pushW, .p (o1 load1G l0) pushW, .p (o2 (iaddrG 4) l3 l0) pushW, .p (o1 (loadnG 4) l0) pushW, .p (allocO [(.int .i64 (Int.ofNat 0)), (.str 0 0), (.int .i64 (Int.ofNat 0)), (.int .i64 (Int.ofNat 0))]) w5, .p (o2 (storeG 4) r5 l0) noW] [])
 (.seq
 (.block 0
 (.seq
 (.reg [.p (o1 (faddrG 0) r5) pushW, .p (o1 load1G l0) pushW, .p (o2 (eqG eqIV false) l0 (ctK (.int .i64 (Int.ofNat 2)))) pushW, .p (o1 mvG l0) w25])
 (.cond r25
 (.seq
 (.reg [.p (o1 nilckG r0) pushW, .p (o1 (faddrG 1) l0) pushW, .p (o1 load1G l0) pushW, .p (o2 (binG addB) l0 (ctK (.int .i64 (Int.ofNat 1)))) pushW, .p (o1 nilckG r0) pushW, .p (o1 (faddrG 1) l0) pushW, .p (o2 (storeG 1) l0 l2) noW])
 (.seq
 (.reg [.p (o1 (faddrG 1) r5) pushW, .p (o1 load1G l0) pushW, .p (buildO [(.int .i64 (Int.ofNat 0)), (.str 0 0), .snil, (.str 0 0), (.int .i64 (Int.ofNat 0)), (.bool false), .snil] [(0, 1, (ctK (.int .i64 (Int.ofNat 2)))), (3, 1, l0)]) pushW, .p (o2 (storeG 7) r4 l0) noW])
 .ret))
 (.seq
 (.reg [.p (o1 (faddrG 0) r5) pushW, .p (o1 load1G l0) pushW, .p (o2 (eqG eqIV false) l0 (ctK (.int .i64 (Int.ofNat 3)))) pushW, .p (o1 mvG l0) w39])
 (.cond r39
 (.seq
 (.reg [.p (o1 nilckG r0) pushW, .p (o1 (faddrG 1) l0) pushW, .p (o1 load1G l0) pushW, .p (o2 (binG addB) l0 (ctK (.int .i64 (Int.ofNat 1)))) pushW, .p (o1 nilckG r0) pushW, .p (o1 (faddrG 1) l0) pushW, .p (o2 (storeG 1) l0 l2) noW])
 (.seq
 (.reg [.p (o1 (faddrG 2) r5) pushW, .p (o1 load1G l0) pushW, .p (buildO [(.int .i64 (Int.ofNat 0)), (.str 0 0), .snil, (.str 0 0), (.int .i64 (Int.ofNat 0)), (.bool false), .snil] [(0, 1, (ctK (.int .i64 (Int.ofNat 3)))), (4, 1, l0)]) pushW, .p (o2 (storeG 7) r4 l0) noW])
 .ret))
 (.seq
 (.reg [.p (o1 (faddrG 0) r5) pushW, .p (o1 load1G l0) pushW, .p (o2 (eqG eqIV false) l0 (ctK (.int .i64 (Int.ofNat 1)))) pushW, .p (o1 mvG l0) w53])
 (.cond r53
 (.seq
 (.reg [.p (o1 nilckG r0) pushW, .p (o1 (faddrG 1) l0) pushW, .p (o1 load1G l0) pushW, .p (o2 (binG addB) l0 (ctK (.int .i64 (Int.ofNat 1)))) pushW, .p (o1 nilckG r0) pushW, .p (o1 (faddrG 1) l0) pushW, .p (o2 (storeG 1) l0 l2) noW])
 (.seq
 (.reg [.p (o1 (faddrG 1) r5) pushW, .p (o1 load1G l0) pushW, .p (o2 (eqG eqSV false) l0 (ctK (.str 4 1702195828))) pushW, .p (buildO [(.int .i64 (Int.ofNat 0)), (.str 0 0), .snil, (.str 0 0), (.int .i64 (Int.ofNat 0)), (.bool false), .snil] [(0, 1, (ctK (.int .i64 (Int.ofNat 4)))), (5, 1, l0)]) pushW, .p (o2 (storeG 7) r4 l0) noW])
 .ret))
 (.seq
 (.reg [.p (o1 (faddrG 1) r5) pushW, .p (o1 load1G l0) pushW, .p (o2 (eqG eqSV false) l0 (ctK (.str 1 36))) pushW, .p (o1 mvG l0) w68])
 (.cond r68
 (.seq
 (.reg [.p (o1 nilckG r0) pushW, .p (o1 (faddrG 1) l0) pushW, .p (o1 load1G l0) pushW, .p (o2 (binG addB) l0 (ctK (.int .i64 (Int.ofNat 1)))) pushW, .p (o1 nilckG r0) pushW, .p (o1 (faddrG 1) l0) pushW, .p (o2 (storeG 1) l0 l2) noW])
 (.seq
 (.reg [.p (callO 48 [r0, (ctK (.int .i64 (Int.ofNat 1)))]) pushW, .p (allocO [(.int .i64 (Int.ofNat 0)), (.str 0 0), (.int .i64 (Int.ofNat 0)), (.int .i64 (Int.ofNat 0))]) w6, .p (o2 (storeG 4) r6 l0) noW])
 (.seq
 (.drw [.p (o1 (faddrG 1) r6) w81, .p (o1 load1G r81) pushW, .p (o1 (faddrG 3) r6) pushW, .p (o1 load1G l0) pushW, .p (o1 (faddrG 1) r6) pushW, .p (o1 load1G l0) pushW, .p (o1 lenSG l0) pushW, .p (o2 (binG addB) l3 l0) pushW, .m (callO 67 [r0, l0]) pushW (some [81]), .p (buildO [(.int .i64 (Int.ofNat 0)), (.str 0 0), .snil, (.str 0 0), (.int .i64 (Int.ofNat 0)), (.bool false), .snil] [(0, 1, (ctK (.int .i64 (Int.ofNat 1)))), (1, 1, l7), (2, 1, l0)]) pushW, .p (o2 (storeG 7) r4 l0) noW] [])
 .ret)))
 (.seq
 (.reg [.p (o1 (faddrG 1) r5) pushW, .p (o1 load1G l0) pushW, .p (o2 (eqG eqSV false) l0 (ctK (.str 1 40))) pushW, .p (o1 mvG l0) w92])
 (.cond r92
 (.seq
 (.seq
 (.reg [.p (o2 (binG addB) r1 (ctK (.int .i64 (Int.ofNat 1)))) pushW, .p (o2 (binG (cmpB .gtr gtI)) l0 (ctK (.int .i64 (Int.ofNat 12)))) w98])
 (.cond r98
 (.seq
 (.reg [.p (callO 28 [r0, (ctK (.int .i64 (Int.ofNat 13)))]) pushW])
 (.seq
 (.reg [.p (buildO [(.int .i64 (Int.ofNat 0)), (.str 0 0), .snil, (.str 0 0), (.int .i64 (Int.ofNat 0)), (.bool false), .snil] []) pushW, .p (o2 (storeG 7) r4 l0) noW])
 .ret))
 .skip))
 (.seq
 (.reg [.p (o1 nilckG r0) pushW, .p (o1 (faddrG 1) l0) pushW, .p (o1 load1G l0) pushW, .p (o2 (binG addB) l0 (ctK (.int .i64 (Int.ofNat 1)))) pushW, .p (o1 nilckG r0) pushW, .p (o1 (faddrG 1) l0) pushW, .p (o2 (storeG 1) l0 l2) noW])
 (.seq
 (.reg [.p (o2 (binG addB) r1 (ctK (.int .i64 (Int.ofNat 1)))) pushW, .p (callO 15 [r0, l0]) pushW, .p (o1 mvG l0) w7])
 (.seq
 (.reg [.p (callO 68 [r0, (ctK (.str 1 41))]) pushW])
 (.seq
 (.reg [.p (buildO [(.int .i64 (Int.ofNat 0)), (.str 0 0), .snil, (.str 0 0), (.int .i64 (Int.ofNat 0)), (.bool false), .snil] [(0, 1, (ctK (.int .i64 (Int.ofNat 5)))), (6, 1, r7)]) pushW, .p (o2 (storeG 7) r4 l0) noW])
 .ret)))))
 .skip)))))))))))
 (.seq
 (.reg [.p (callO 67 [r0, (ctK (.int .i64 (Int.negSucc 0)))]) pushW, .p (o1 mvG l0) w8])
 (.seq
 (.seq
 (.reg [.p (o1 lenLG r8) pushW, .p (o2 (eqG eqIV false) l0 (ctK (.int .i64 (Int.ofNat 0)))) w121])
 (.cond r121
 (.reg [.p (o1 nilckG r0) pushW, .p (o1 (faddrG 1) l0) pushW, .p (o1 load1G l0) pushW, .p (o2 (binG addB) l0 (ctK (.int .i64 (Int.ofNat 1)))) pushW, .p (o1 nilckG r0) pushW, .p (o1 (faddrG 1) l0) pushW, .p (o2 (storeG 1) l0 l2) noW])
 .skip))
 (.seq
 (.reg [.p (buildO [(.int .i64 (Int.ofNat 0)), (.str 0 0), .snil, (.str 0 0), (.int .i64 (Int.ofNat 0)), (.bool false), .snil] [(0, 1, (ctK (.int .i64 (Int.ofNat 1)))), (2, 1, r8)]) pushW, .p (o2 (storeG 7) r4 l0) noW])
 .ret))))))) }
theorem kf47_ok : (compFn Try.prog Try.f47 [[0, 1, 4], [0, 4], [0, 1, 4], [4, 8]]).bind (toKFn [9, 10, 12, 13, 14, 15, 16, 17, 18, 19, 20, 21, 22, 23, 24, 26, 27, 28, 29, 30, 31, 32, 33, 34, 35, 36, 37, 38, 40, 41, 42, 43, 44, 45, 46, 47, 48, 49, 50, 51, 52, 54, 55, 56, 57, 58, 59, 60, 61, 62, 63, 64, 65, 66, 67, 69, 70, 71, 72, 73, 74, 75, 76, 77, 78, 79, 80, 82, 83, 84, 85, 86, 87, 88, 89, 90, 91, 93, 94, 95, 96, 97, 99, 100, 101, 102, 103, 104, 105, 106, 107, 108, 109, 110, 111, 112, 113, 114, 115, 116, 117, 118, 119, 120, 122, 123, 124, 125, 126, 127, 128, 129, 130] 2) = some kf47 := by kernel_rfl
noncomputable def kf49 : KFn := { params := [w0], res := [(.s r2)], body :=
 (.seq
 (.reg [.p (o1 mvG (ctK (.bool false))) w2])
 (.seq
 (.drw [.m (callO 45 [r0, (ctK (.int .i64 (Int.ofNat 2)))]) pushW (some []), .g l0 false false none (o1 mvG r0) pushW, .g l1 false true (some []) (callO 45 [l0, (ctK (.int .i64 (Int.ofNat 3)))]) pushW, .p (o3 pickG l2 (ctK (.bool true)) l0) pushW, .g l0 false false none (o1 mvG r0) pushW, .g l1 false true (some []) (callO 27 [l0, (ctK (.str 1 46))]) pushW, .p (o3 pickG l2 (ctK (.bool true)) l0) pushW, .g l0 false false none (o1 mvG r0) pushW, .g l1 false true (some []) (callO 27 [l0, (ctK (.str 1 36))]) pushW, .p (o3 pickG l2 (ctK (.bool true)) l0) pushW, .g l0 false false none (o1 mvG r0) pushW, .g l1 false true (some []) (callO 27 [l0, (ctK (.str 1 40))]) pushW, .p (o3 pickG l2 (ctK (.bool true)) l0) pushW, .g l0 false false none (o1 mvG r0) pushW, .g l1 false true (some []) (callO 45 [l0, (ctK (.int .i64 (Int.ofNat 1)))]) pushW, .g l2 false false none (o1 mvG l0) pushW, .g l0 true false none (o1 mvG r0) pushW, .g l1 true false none (o1 nilckG l0) pushW, .g l2 true false none (o1 (faddrG 0) l0) pushW, .g l3 true false none (o1 load1G l0) pushW, .g l4 true false none (o1 mvG r0) pushW, .g l5 true false none (o1 nilckG l0) pushW, .g l6 true false none (o1 (faddrG 1) l0) pushW, .g l7 true false none (o1 load1G l0) pushW, .g l8 true false none (o2 (iaddrG 4) l4 l0) pushW, .g l9 true false none (o1 (faddrG 1) l0) pushW, .g l10 true false none (o1 load1G l0) pushW, .g l11 true false none (o2 (eqG eqSV false) l0 (ctK (.str 4 1702195828))) pushW, .g l12 true false none (o1 mvG l0) pushW, .g l0 false false none (o1 mvG r0) pushW, .g l1 false false none (o1 nilckG l0) pushW, .g l2 false false none (o1 (faddrG 0) l0) pushW, .g l3 false false none (o1 load1G l0) pushW, .g l4 false false none (o1 mvG r0) pushW, .g l5 false false none (o1 nilckG l0) pushW, .g l6 false false none (o1 (faddrG 1) l0) pushW, .g l7 false false none (o1 load1G l0) pushW, .g l8 false false none (o2 (iaddrG 4) l4 l0) pushW, .g l9 false false none (o1 (faddrG 1) l0) pushW, .g l10 false false none (o1 load1G l0) pushW, .g l11 false false none (o2 (eqG eqSV false) l0 (ctK (.str 5 435728179558))) pushW, .g l25 true false none (o3 pickG l12 (ctK (.bool true)) l0) pushW, .g l29 false false none (o3 pickG l26 l0 (ctK (.bool false))) pushW, .p (o3 pickG l30 (ctK (.bool true)) l0) pushW, .p (o1 mvG l0) w2] [])
 .ret)) }
theorem kf49_ok : (compFn Try.prog Try.f49 []).bind (toKFn [3, 4, 5, 6, 7, 8, 9, 10, 11, 12, 13, 14, 15, 16, 17, 18, 19, 20, 21, 22, 23, 24, 25, 26, 27, 28, 29, 30, 31, 32, 33, 34, 35, 36, 37, 38, 39, 40, 41, 42, 43, 44, 45, 46, 47, 48, 49, 50, 51, 52] 1) = some kf49 := by kernel_rfl
noncomputable def kf27 : KFn := { params := [w0, w1], res := [(.s r4)], body :=
 (.seq
 (.reg [.p (o1 mvG (ctK (.bool false))) w4])
 (.seq
 (.drw [.p (o1 nilckG r0) pushW, .p (o1 (faddrG 2) l0) pushW, .p (o1 load1G l0) pushW, .p (o2 (eqG eqIV false) l0 (ctK (.int .i64 (Int.ofNat 0)))) pushW, .g l0 true false none (o1 mvG r0) pushW, .g l1 true false none (o1 nilckG l0) pushW, .g l2 true false none (o1 (faddrG 1) l0) pushW, .g l3 true false none (o1 load1G l0) pushW, .g l4 true false none (o1 mvG r0) pushW, .g l5 true false none (o1 nilckG l0) pushW, .g l6 true false none (o1 (faddrG 0) l0) pushW, .g l7 true false none (o1 load1G l0) pushW, .g l8 true false none (o1 lenLG l0) pushW, .g l9 true false none (o2 (binG (cmpB .lss ltI)) l5 l0) pushW, .p (o3 pickG l10 l0 (ctK (.bool false))) pushW, .g l0 true false none (o1 mvG r0) pushW, .g l1 true false none (o1 nilckG l0) pushW, .g l2 true false none (o1 (faddrG 0) l0) pushW, .g l3 true false none (o1 load1G l0) pushW, .g l4 true false none (o1 mvG r0) pushW, .g l5 true false none (o1 nilckG l0) pushW, .g l6 true false none (o1 (faddrG 1) l0) pushW, .g l7 true false none (o1 load1G l0) pushW, .g l8 true false none (o2 (iaddrG 4) l4 l0) pushW, .g l9 true false none (o1 (faddrG 0) l0) pushW, .g l10 true false none (o1 load1G l0) pushW, .g l11 true false none (o2 (eqG eqIV false) l0 (ctK (.int .i64 (Int.ofNat 4)))) pushW, .p (o3 pickG l12 l0 (ctK (.bool false))) pushW, .g l0 true false none (o1 mvG r0) pushW, .g l1 true false none (o1 nilckG l0) pushW, .g l2 true false none (o1 (faddrG 0) l0) pushW, .g l3 true false none (o1 load1G l0) pushW, .g l4 true false none (o1 mvG r0) pushW, .g l5 true false none (o1 nilckG l0) pushW, .g l6 true false none (o1 (faddrG 1) l0) pushW, .g l7 true false none (o1 load1G l0) pushW, .g l8 true false none (o2 (iaddrG 4) l4 l0) pushW, .g l9 true false none (o1 (faddrG 1) l0) pushW, .g l10 true false none (o1 load1G l0) pushW, .g l11 true false none (o1 mvG r1) pushW, .g l12 true false none (o2 (eqG eqSV false) l1 l0) pushW, .p (o3 pickG l13 l0 (ctK (.bool false))) pushW, .p (o1 mvG l0) w4] [])
 .ret)) }
theorem kf27_ok : (compFn Try.prog Try.f27 []).bind (toKFn [5, 6, 7, 8, 9, 10, 11, 12, 13, 14, 15, 16, 17, 18, 19, 20, 21, 22, 23, 24, 25, 26, 27, 28, 29, 30, 31, 32, 33, 34, 35, 36, 37, 38, 39, 40, 41, 42, 43, 44, 45, 46, 47, 48, 49, 50] 2) = some kf27 := by kernel_rfl
noncomputable def kf28 : KFn := { params := [w0, w1], res := [], body :=
 (.seq
 (.reg [.p (o1 nilckG r0) pushW, .p (o1 (faddrG 2) l0) pushW, .p (o1 load1G l0) pushW, .p (o2 (eqG eqIV false) l0 (ctK (.int .i64 (Int.ofNat 0)))) w8])
 (.cond r8
 (.reg [.p (o1 nilckG r0) pushW, .p (o1 (faddrG 2) l0) pushW, .p (o2 (storeG 1) l0 r1) noW])
 .skip)) }
theorem kf28_ok : (compFn Try.prog Try.f28 []).bind (toKFn [4, 5, 6, 7, 9, 10, 11, 12] 2) = some kf28 := by kernel_rfl
noncomputable def kf48 : KFn := { params := [w0, w1], res := [(.cn r4 4)], body :=
 (.seq
 (.reg [.p (allocO [(.int .i64 (Int.ofNat 0)), (.str 0 0), (.int .i64 (Int.ofNat 0)), (.int .i64 (Int.ofNat 0))]) w4])
 (.seq
 (.seq
 (.reg [.p (callO 45 [r0, r1]) pushW, .p (o1 notG l0) w8])
 (.cond r8
 (.seq
 (.reg [.p (callO 28 [r0, (ctK (.int .i64 (Int.ofNat 12)))]) pushW])
 (.seq
 (.reg [.p (buildO [(.int .i64 (Int.ofNat 0)), (.str 0 0), (.int .i64 (Int.ofNat 0)), (.int .i64 (Int.ofNat 0))] []) pushW, .p (o2 (storeG 4) r4 l0) noW])
 .ret))
 .skip))
 (.seq
 (.reg [.p (o1 nilckG r0) pushW, .p (o1 (faddrG 1) l0) pushW, .p (o1 load1G l0) pushW, .p (o2 (binG addB) l0 (ctK (.int .i64 (Int.ofNat 1)))) pushW, .p (o1 nilckG r0) pushW, .p (o1 (faddrG 1) l0) pushW, .p (o2 (storeG 1) l0 l2) noW])
 (.seq
 (.drw [.p (o1 nilckG r0) pushW, .p (o1 (faddrG 0) l0) pushW, .p (o1 load1G l0) pushW, .p (o1 nilckG r0) pushW, .p (o1 (faddrG 1) l0) pushW, .p (o1 load1G l0) pushW, .p (o2 (binG subB) l0 (ctK (.int .i64 (Int.ofNat 1)))) pushW, .p (o2 (iaddrG 4) l4 l0) pushW, .p (o1 (loadnG 4) l0) pushW, .p (o2 (storeG 4) r4 l0) noW] [])
 .ret)))) }
theorem kf48_ok : (compFn Try.prog Try.f48 [[0, 4]]).bind (toKFn [5, 6, 7, 9, 10, 11, 12, 13, 14, 15, 16, 17, 18, 19, 20, 21, 22, 23, 24, 25, 26, 27, 28, 29] 2) = some kf48 := by kernel_rfl
noncomputable def kf67 : KFn := { params := [w0, w1], res := [(.s r4)], body :=
 (.seq
 (.reg [.p (o1 mvG (ctK .snil)) w4])
 (.seq
 (.reg [.p (o1 mvG (ctK .snil)) w5])
 (.seq
 (.block 0
 (.loop
 (.seq
 (.seq
 (.drw [.m (callO 27 [r0, (ctK (.str 1 46))]) pushW (some []), .g l0 true false none (o1 mvG r0) pushW, .g l1 true false none (o1 nilckG l0) pushW, .g l2 true false none (o1 (faddrG 1) l0) pushW, .g l3 true false none (o1 load1G l0) pushW, .g l4 true false none (o2 (binG addB) l0 (ctK (.int .i64 (Int.ofNat 1)))) pushW, .g l5 true false none (o1 mvG r0) pushW, .g l6 true false none (o1 nilckG l0) pushW, .g l7 true false none (o1 (faddrG 0) l0) pushW, .g l8 true false none (o1 load1G l0) pushW, .g l9 true false none (o1 lenLG l0) pushW, .g l10 true false none (o2 (binG (cmpB .lss ltI)) l5 l0) pushW, .p (o3 pickG l11 l0 (ctK (.bool false))) pushW, .g l0 true false none (o1 mvG r0) pushW, .g l1 true false none (o1 nilckG l0) pushW, .g l2 true false none (o1 (faddrG 0) l0) pushW, .g l3 true false none (o1 load1G l0) pushW, .g l4 true false none (o1 mvG r0) pushW, .g l5 true false none (o1 nilckG l0) pushW, .g l6 true false none (o1 (faddrG 1) l0) pushW, .g l7 true false none (o1 load1G l0) pushW, .g l8 true false none (o2 (binG addB) l0 (ctK (.int .i64 (Int.ofNat 1)))) pushW, .g l9 true false none (o2 (iaddrG 4) l5 l0) pushW, .g l10 true false none (o1 (faddrG 0) l0) pushW, .g l11 true false none (o1 load1G l0) pushW, .g l12 true false none (o2 (eqG eqIV false) l0 (ctK (.int .i64 (Int.ofNat 1)))) pushW, .p (o3 pickG l13 l0 (ctK (.bool false))) pushW, .g l0 true false none (o1 mvG r0) pushW, .g l1 true false none (o1 nilckG l0) pushW, .g l2 true false none (o1 (faddrG 0) l0) pushW, .g l3 true false none (o1 load1G l0) pushW, .g l4 true false none (o1 mvG r0) pushW, .g l5 true false none (o1 nilckG l0) pushW, .g l6 true false none (o1 (faddrG 1) l0) pushW, .g l7 true false none (o1 load1G l0) pushW, .g l8 true false none (o2 (binG addB) l0 (ctK (.int .i64 (Int.ofNat 1)))) pushW, .g l9 true false none (o2 (iaddrG 4) l5 l0) pushW, .g l10 true false none (o1 (faddrG 3) l0) pushW, .g l11 true false none (o1 load1G l0) pushW, .g l12 true false none (o1 mvG r0) pushW, .g l13 true false none (o1 nilckG l0) pushW, .g l14 true false none (o1 (faddrG 0) l0) pushW, .g l15 true false none (o1 load1G l0) pushW, .g l16 true false none (o1 mvG r0) pushW, .g l17 true false none (o1 nilckG l0) pushW, .g l18 true false none (o1 (faddrG 1) l0) pushW, .g l19 true false none (o1 load1G l0) pushW, .g l20 true false none (o2 (iaddrG 4) l4 l0) pushW, .g l21 true false none (o1 (faddrG 3) l0) pushW, .g l22 true false none (o1 load1G l0) pushW, .g l23 true false none (o2 (binG addB) l0 (ctK (.int .i64 (Int.ofNat 1)))) pushW, .g l24 true false none (o2 (eqG eqIV false) l12 l0) pushW, .p (o3 pickG l25 l0 (ctK (.bool false))) pushW, .g l0 true false none (o1 mvG r1) pushW, .g l1 true false none (o2 (binG (cmpB .lss ltI)) l0 (ctK (.int .i64 (Int.ofNat 0)))) pushW, .g l2 true false none (o1 mvG l0) pushW, .g l0 false false none (o1 mvG r0) pushW, .g l1 false false none (o1 nilckG l0) pushW, .g l2 false false none (o1 (faddrG 0) l0) pushW, .g l3 false false none (o1 load1G l0) pushW, .g l4 false false none (o1 mvG r0) pushW, .g l5 false false none (o1 nilckG l0) pushW, .g l6 false false none (o1 (faddrG 1) l0) pushW, .g l7 false false none (o1 load1G l0) pushW, .g l8 false false none (o2 (iaddrG 4) l4 l0) pushW, .g l9 false false none (o1 (faddrG 3) l0) pushW, .g l10 false false none (o1 load1G l0) pushW, .g l11 false false none (o1 mvG r1) pushW, .g l12 false false none (o2 (eqG eqIV false) l1 l0) pushW, .g l16 true false none (o3 pickG l13 (ctK (.bool true)) l0) pushW, .p (o3 pickG l17 l0 (ctK (.bool false))) w81] [])
 (.cond r81
 .skip
 (.exit 0)))
 (.block 1
 (.seq
 (.drw [.p (o1 mvG r5) pushW, .p (o1 nilckG r0) pushW, .p (o1 (faddrG 0) l0) pushW, .p (o1 load1G l0) pushW, .p (o1 nilckG r0) pushW, .p (o1 (faddrG 1) l0) pushW, .p (o1 load1G l0) pushW, .p (o2 (binG addB) l0 (ctK (.int .i64 (Int.ofNat 1)))) pushW, .p (o2 (iaddrG 4) l4 l0) pushW, .p (o1 (faddrG 1) l0) pushW, .p (o1 load1G l0) pushW, .p (bslO 1 1 [(.str 0 0)] [(0, 1, l0)]) pushW, .p (o2 (appG 1) l11 l0) pushW, .p (o1 mvG l0) w5] [])
 (.seq
 (.drw [.p (o1 nilckG r0) pushW, .p (o1 (faddrG 0) l0) pushW, .p (o1 load1G l0) pushW, .p (o1 nilckG r0) pushW, .p (o1 (faddrG 1) l0) pushW, .p (o1 load1G l0) pushW, .p (o2 (binG addB) l0 (ctK (.int .i64 (Int.ofNat 1)))) pushW, .p (o2 (iaddrG 4) l4 l0) pushW, .p (o1 (faddrG 3) l0) pushW, .p (o1 load1G l0) pushW, .p (o1 nilckG r0) pushW, .p (o1 (faddrG 0) l0) pushW, .p (o1 load1G l0) pushW, .p (o1 nilckG r0) pushW, .p (o1 (faddrG 1) l0) pushW, .p (o1 load1G l0) pushW, .p (o2 (binG addB) l0 (ctK (.int .i64 (Int.ofNat 1)))) pushW, .p (o2 (iaddrG 4) l4 l0) pushW, .p (o1 (faddrG 1) l0) pushW, .p (o1 load1G l0) pushW, .p (o1 lenSG l0) pushW, .p (o2 (binG addB) l11 l0) pushW, .p (o1 mvG l0) w1] [])
 (.reg [.p (o1 nilckG r0) pushW, .p (o1 (faddrG 1) l0) pushW, .p (o1 load1G l0) pushW, .p (o2 (binG addB) l0 (ctK (.int .i64 (Int.ofNat 2)))) pushW, .p (o1 nilckG r0) pushW, .p (o1 (faddrG 1) l0) pushW, .p (o2 (storeG 1) l0 l2) noW])))))))
 (.seq
 (.reg [.p (o1 mvG r5) w4])
 .ret)))) }
theorem kf67_ok : (compFn Try.prog Try.f67 [[5], [0, 1, 5], [0, 5]]).bind (toKFn [6, 7, 8, 9, 10, 11, 12, 13, 14, 15, 16, 17, 18, 19, 20, 21, 22, 23, 24, 25, 26, 27, 28, 29, 30, 31, 32, 33, 34, 35, 36, 37, 38, 39, 40, 41, 42, 43, 44, 45, 46, 47, 48, 49, 50, 51, 52, 53, 54, 55, 56, 57, 58, 59, 60, 61, 62, 63, 64, 65, 66, 67, 68, 69, 70, 71, 72, 73, 74, 75, 76, 77, 78, 79, 80, 82, 83, 84, 85, 86, 87, 88, 89, 90, 91, 92, 93, 94, 95, 96, 97, 98, 99, 100, 101, 102, 103, 104, 105, 106, 107, 108, 109, 110, 111, 112, 113, 114, 115, 116, 117, 118, 119, 120, 121, 122, 123, 124, 125, 126, 127, 128, 129, 130, 131] 2) = some kf67 := by kernel_rfl
noncomputable def kf68 : KFn := { params := [w0, w1], res := [], body :=
 (.seq
 (.reg [.p (callO 27 [r0, r1]) w6])
 (.cond r6
 (.reg [.p (o1 nilckG r0) pushW, .p (o1 (faddrG 1) l0) pushW, .p (o1 load1G l0) pushW, .p (o2 (binG addB) l0 (ctK (.int .i64 (Int.ofNat 1)))) pushW, .p (o1 nilckG r0) pushW, .p (o1 (faddrG 1) l0) pushW, .p (o2 (storeG 1) l0 l2) noW])
 (.reg [.p (callO 28 [r0, (ctK (.int .i64 (Int.ofNat 12)))]) pushW]))) }
theorem kf68_ok : (compFn Try.prog Try.f68 []).bind (toKFn [4, 5, 7, 8, 9, 10, 11, 12, 13, 14, 15] 2) = some kf68 := by kernel_rfl
noncomputable def kf16 : KFn := { params := [w0], res := [(.s r2)], body :=
 (.seq
 (.reg [.p (o1 mvG (ctK (.int .i64 (Int.ofNat 0)))) w2])
 (.seq
 (.seq
 (.drw [.p (o1 nilckG r0) pushW, .p (o1 (faddrG 1) l0) pushW, .p (o1 load1G l0) pushW, .p (o1 nilckG r0) pushW, .p (o1 (faddrG 0) l0) pushW, .p (o1 load1G l0) pushW, .p (o1 lenLG l0) pushW, .p (o2 (binG (cmpB .lss ltI)) l4 l0) w12] [])
 (.cond r12
 (.reg [.p (callO 28 [r0, (ctK (.int .i64 (Int.ofNat 12)))]) pushW])
 .skip))
 (.seq
 (.reg [.p (o1 nilckG r0) pushW, .p (o1 (faddrG 2) l0) pushW, .p (o1 load1G l0) pushW, .p (o1 mvG l0) w2])
 .ret))) }
theorem kf16_ok : (compFn Try.prog Try.f16 [[0]]).bind (toKFn [3, 4, 5, 6, 7, 8, 9, 10, 11, 13, 14, 15, 16, 17, 18] 1) = some kf16 := by kernel_rfl
noncomputable def kf12 : KFn := { params := [w0], res := [(.s r2)], body :=
 (.seq
 (.reg [.p (o1 mvG (ctK (.int .i64 (Int.ofNat 0)))) w2])
 (.seq
 (.reg [.p (o1 nilckG r0) pushW, .p (o1 (faddrG 3) l0) pushW, .p (o1 load1G l0) pushW, .p (o1 mvG l0) w2])
 .ret)) }
theorem kf12_ok : (compFn Try.prog Try.f12 []).bind (toKFn [3, 4, 5, 6] 1) = some kf12 := by kernel_rfl
noncomputable def kf9 : KFn := { params := [w0, w1, w2], res := [(.s r6), (.s r7)], body :=
 (.seq
 (.reg [.p (o1 boxG r1) w4, .p (o1 mvG (ctK (.int .i64 (Int.ofNat 0)))) w6, .p (o1 mvG (ctK (.int .i64 (Int.ofNat 0)))) w7])
 (.seq
 (.reg [.p (o1 mvG (ctK .snil)) w8])
 (.seq
 (.seq
 (.reg [.p (o1 mvG r2) w13, .p (o1 lenLG r13) w14, .p (o1 mvG (ctK (.int .i64 (Int.ofNat 0)))) w15])
 (.block 0
 (.loop
 (.seq
 (.reg [.p (o2 (binG (cmpB .lss ltI)) r15 r14) w16])
 (.seq
 (.cond r16
 .skip
 (.exit 0))
 (.seq
 (.block 1
 (.seq
 (.reg [.p (o2 (iaddrG 1) r13 r15) pushW, .p (o1 (loadnG 1) l0) pushW, .p (allocO [.snil]) w10, .p (o2 (storeG 1) r10 l0) noW])
 (.seq
 (.reg [.p (o1 mvG (ctK (.int .i64 (Int.ofNat 0)))) w11])
 (.seq
 (.reg [.p (o1 mvG (ctK (.int .i64 (Int.ofNat 12)))) w12])
 (.seq
 (.block 2
 (.seq
 (.reg [.p (o1 (faddrG 0) r10) pushW, .p (o1 load1G l0) pushW, .p (o1 lenLG l0) pushW, .p (o2 (eqG eqIV false) l0 (ctK (.int .i64 (Int.ofNat 0)))) pushW, .p (o1 mvG l0) w36])
 (.cond r36
 .skip
 (.seq
 (.reg [.p (o1 (faddrG 0) r10) pushW, .p (o1 load1G l0) pushW, .p (o2 (iaddrG 7) l0 (ctK (.int .i64 (Int.ofNat 0)))) pushW, .p (o1 (faddrG 0) l0) pushW, .p (o1 load1G l0) pushW, .p (o2 (eqG eqIV false) l0 (ctK (.int .i64 (Int.ofNat 6)))) pushW, .p (o1 mvG l0) w41])
 (.cond r41
 (.reg [.p (o1 (loadnG 3) r4) pushW, .p (o1 (loadnG 1) r10) pushW, .p (callO 17 [l1, r0, l0, r8]) pushW, .p (o1 (extG 0) l0) pushW, .p (o1 (extG 1) l1) pushW, .p (o1 mvG l1) w11, .p (o1 mvG l0) w12])
 (.seq
 (.drw [.p (o1 (loadnG 3) r4) pushW, .p (o1 (faddrG 0) r10) pushW, .p (o1 load1G l0) pushW, .p (o2 (iaddrG 7) l0 (ctK (.int .i64 (Int.ofNat 0)))) pushW, .p (o1 (loadnG 7) l0) pushW, .m (callO 18 [l4, r0, l0]) pushW (some []), .p (o1 (extG 0) l0) pushW, .p (o1 (extG 1) l1) pushW, .p (o1 mvG l1) w11, .p (o1 mvG l0) w12] [])
 (.seq
 (.reg [.p (o2 (eqG eqIV false) r12 (ctK (.int .i64 (Int.ofNat 0)))) pushW, .g l0 true false none (o1 mvG r8) pushW, .g l1 true false none (o1 lenLG l0) pushW, .g l2 true false none (o2 (binG (cmpB .gtr gtI)) l0 (ctK (.int .i64 (Int.ofNat 0)))) pushW, .p (o3 pickG l3 l0 (ctK (.bool false))) w35])
 (.cond r35
 (.reg [.p (o1 mvG (ctK (.int .i64 (Int.ofNat 18)))) w12])
 .skip))))))))
 (.seq
 (.seq
 (.reg [.p (o2 (eqG eqIV true) r12 (ctK (.int .i64 (Int.ofNat 0)))) w57])
 (.cond r57
 (.seq
 (.reg [.p (o1 mvG (ctK (.int .i64 (Int.ofNat 0)))) w6, .p (o1 mvG r12) w7])
 .ret)
 .skip))
 (.reg [.p (bslO 1 1 [(.int .i64 (Int.ofNat 0))] [(0, 1, r11)]) pushW, .p (o1 mvG l0) w8])))))))
 (.reg [.p (o2 (binG addB) r15 (ctK (.int .i64 (Int.ofNat 1)))) pushW, .p (o1 mvG l0) w15])))))))
 (.seq
 (.seq
 (.reg [.p (o1 lenLG r8) pushW, .p (o2 (eqG eqIV false) l0 (ctK (.int .i64 (Int.ofNat 0)))) w64])
 (.cond r64
 (.seq
 (.reg [.p (o1 mvG (ctK (.int .i64 (Int.ofNat 0)))) w6, .p (o1 mvG (ctK (.int .i64 (Int.ofNat 12)))) w7])
 .ret)
 .skip))
 (.seq
 (.reg [.p (o2 (iaddrG 1) r8 (ctK (.int .i64 (Int.ofNat 0)))) pushW, .p (o1 load1G l0) pushW, .p (o1 mvG l0) w6, .p (o1 mvG (ctK (.int .i64 (Int.ofNat 0)))) w7])
 .ret))))) }
theorem kf9_ok : (compFn Try.prog Try.f9 [[8], [0, 4, 8, 13, 14, 15], [0, 4, 8, 13, 14, 15], [0, 4, 8, 13, 14, 15], [0, 4, 11, 12, 13, 14, 15], [0, 4, 11, 13, 14, 15], [8]]).bind (toKFn [17, 18, 19, 20, 21, 22, 23, 24, 25, 26, 27, 28, 29, 30, 31, 32, 33, 34, 37, 38, 39, 40, 42, 43, 44, 45, 46, 47, 48, 49, 50, 51, 52, 53, 54, 55, 56, 58, 59, 60, 61, 62, 63, 65, 66, 67] 3) = some kf9 := by kernel_rfl
noncomputable def kf17 : KFn := { params := [w0, w1, w2, w3], res := [(.s r8), (.s r9)], body :=
 (.seq
 (.reg [.p (o1 boxG r0) w4, .p (o1 boxG r2) w6, .p (o1 mvG (ctK (.int .i64 (Int.ofNat 0)))) w8, .p (o1 mvG (ctK (.int .i64 (Int.ofNat 0)))) w9])
 (.seq
 (.reg [.p (o1 (faddrG 0) r6) pushW, .p (o1 load1G l0) pushW, .p (o1 lenLG l0) pushW, .p (o2 (binG subB) l0 (ctK (.int .i64 (Int.ofNat 1)))) pushW, .p (o1 (faddrG 0) r6) pushW, .p (o1 load1G l0) pushW, .p (o1 lenLG l0) pushW, .p (o2 (mkslG 1 [(.int .i64 (Int.ofNat 0))]) l3 l0) pushW, .p (o1 mvG l0) w10])
 (.seq
 (.seq
 (.reg [.p (o1 (faddrG 0) r6) pushW, .p (o1 load1G l0) pushW, .p (cutLO 7 l0 (some (ctK (.int .i64 (Int.ofNat 1)))) none none) w26, .p (o1 lenLG r26) w27, .p (o1 mvG (ctK (.int .i64 (Int.ofNat 0)))) w28])
 (.block 0
 (.loop
 (.seq
 (.reg [.p (o2 (binG (cmpB .lss ltI)) r28 r27) w29])
 (.seq
 (.cond r29
 .skip
 (.exit 0))
 (.seq
 (.block 1
 (.seq
 (.reg [.p (o2 (iaddrG 7) r26 r28) pushW, .p (o1 (loadnG 7) l0) pushW, .p (allocO [(.int .i64 (Int.ofNat 0)), (.str 0 0), .snil, (.str 0 0), (.int .i64 (Int.ofNat 0)), (.bool false), .snil]) w12, .p (o1 mvG r28) w11, .p (o2 (storeG 7) r12 l0) noW])
 (.seq
 (.reg [.p (o1 (loadnG 3) r4) pushW, .p (o1 (loadnG 7) r12) pushW, .p (callO 18 [l1, r1, l0]) pushW, .p (o1 (extG 0) l0) pushW, .p (o1 (extG 1) l1) pushW, .p (o1 mvG l1) w13, .p (o1 mvG l0) w14])
 (.seq
 (.seq
 (.reg [.p (o2 (eqG eqIV true) r14 (ctK (.int .i64 (Int.ofNat 0)))) w41])
 (.cond r41
 (.seq
 (.reg [.p (o1 mvG (ctK (.int .i64 (Int.ofNat 0)))) w8, .p (o1 mvG r14) w9])
 .ret)
 .skip))
 (.reg [.p (o2 (iaddrG 1) r10 r11) pushW, .p (o2 (storeG 1) l0 r13) noW])))))
 (.reg [.p (o2 (binG addB) r28 (ctK (.int .i64 (Int.ofNat 1)))) pushW, .p (o1 mvG l0) w28])))))))
 (.seq
 (.reg [.p (o1 lenLG r10) pushW, .p (o1 lenLG r3) pushW, .p (o2 (binG addB) l1 l0) pushW, .p (o2 (mkslG 1 [(.int .i64 (Int.ofNat 0))]) l0 l0) pushW, .p (o1 mvG l0) w15])
 (.seq
 (.reg [.p (o2 (copyG 1) r15 r10) pushW, .p (cutLO 1 r15 (some l0) none none) pushW, .p (o2 (copyG 1) l0 r3) pushW])
 (.seq
 (.reg [.p (o1 (faddrG 0) r6) pushW, .p (o1 load1G l0) pushW, .p (o2 (iaddrG 7) l0 (ctK (.int .i64 (Int.ofNat 0)))) pushW, .p (o1 (faddrG 3) l0) pushW, .p (o1 load1G l0) pushW, .p (callO 29 [r1, l0, r15]) pushW, .p (o1 (extG 0) l0) pushW, .p (o1 (extG 1) l1) pushW, .p (o1 mvG l1) w8, .p (o1 mvG l0) w9])
 .ret)))))) }
theorem kf17_ok : (compFn Try.prog Try.f17 [[1, 3, 6, 10], [1, 3, 4, 6, 10, 26, 27, 28], [1, 3, 4, 6, 10, 26, 27, 28], [1, 3, 4, 6, 10, 26, 27, 28], [1, 3, 4, 6, 10, 11, 13, 26, 27, 28]]).bind (toKFn [16, 17, 18, 19, 20, 21, 22, 23, 24, 25, 30, 31, 32, 33, 34, 35, 36, 37, 38, 39, 40, 42, 43, 44, 45, 46, 47, 48, 49, 50, 51, 52, 53, 54, 55, 56, 57, 58, 59, 60, 61, 62, 63, 64, 65, 66, 67, 68, 69, 70] 4) = some kf17 := by kernel_rfl
noncomputable def kf18 : KFn := { params := [w0, w1, w2], res := [(.s r6), (.s r7)], body :=
 (.seq
 (.reg [.p (o1 boxG r0) w3, .p (o1 boxG r2) w5, .p (o1 mvG (ctK (.int .i64 (Int.ofNat 0)))) w6, .p (o1 mvG (ctK (.int .i64 (Int.ofNat 0)))) w7])
 (.seq
 (.seq
 (.reg [.p (o1 (faddrG 0) r5) pushW, .p (o1 load1G l0) w9])
 (.block 0
 (.seq
 (.reg [.p (o2 (eqG eqIV false) r9 (ctK (.int .i64 (Int.ofNat 2)))) pushW, .p (o1 mvG l0) w10])
 (.cond r10
 (.seq
 (.reg [.p (callO 30 [r1, (ctK (.int .i64 (Int.ofNat 3)))]) pushW, .p (o1 (extG 0) l0) pushW, .p (o1 (extG 1) l1) pushW, .p (o1 mvG l1) w6, .p (o1 mvG l0) w7])
 .ret)
 (.seq
 (.reg [.p (o2 (eqG eqIV false) r9 (ctK (.int .i64 (Int.ofNat 3)))) pushW, .p (o1 mvG l0) w16])
 (.cond r16
 (.seq
 (.reg [.p (callO 30 [r1, (ctK (.int .i64 (Int.ofNat 2)))]) pushW, .p (o1 (extG 0) l0) pushW, .p (o1 (extG 1) l1) pushW, .p (o1 mvG l1) w6, .p (o1 mvG l0) w7])
 .ret)
 (.seq
 (.reg [.p (o2 (eqG eqIV false) r9 (ctK (.int .i64 (Int.ofNat 4)))) pushW, .p (o1 mvG l0) w22])
 (.cond r22
 (.seq
 (.reg [.p (callO 30 [r1, (ctK (.int .i64 (Int.ofNat 1)))]) pushW, .p (o1 (extG 0) l0) pushW, .p (o1 (extG 1) l1) pushW, .p (o1 mvG l1) w6, .p (o1 mvG l0) w7])
 .ret)
 (.seq
 (.reg [.p (o2 (eqG eqIV false) r9 (ctK (.int .i64 (Int.ofNat 5)))) pushW, .p (o1 mvG l0) w28])
 (.cond r28
 (.seq
 (.reg [.p (o1 (loadnG 3) r3) pushW, .p (o1 (faddrG 6) r5) pushW, .p (o1 load1G l0) pushW, .p (callO 9 [r1, l2, l0]) pushW, .p (o1 (extG 0) l0) pushW, .p (o1 (extG 1) l1) pushW, .p (o1 mvG l1) w6, .p (o1 mvG l0) w7])
 .ret)
 (.seq
 (.reg [.p (o2 (eqG eqIV false) r9 (ctK (.int .i64 (Int.ofNat 6)))) pushW, .p (o1 mvG l0) w37])
 (.cond r37
 (.seq
 (.reg [.p (o1 (faddrG 3) r5) pushW, .p (o1 load1G l0) pushW, .p (callO 29 [r1, l0, (ctK .snil)]) pushW, .p (o1 (extG 0) l0) pushW, .p (o1 (extG 1) l1) pushW, .p (o1 mvG l1) w6, .p (o1 mvG l0) w7])
 .ret)
 .skip))))))))))))
 (.seq
 (.reg [.p (o1 (loadnG 3) r3) pushW, .p (o1 (loadnG 7) r5) pushW, .p (callO 31 [l1, r1, l0]) pushW, .p (o1 (extG 0) l0) pushW, .p (o1 (extG 1) l1) pushW, .p (o1 mvG l1) w6, .p (o1 mvG l0) w7])
 .ret))) }
theorem kf18_ok : (compFn Try.prog Try.f18 [[1, 3, 5]]).bind (toKFn [8, 11, 12, 13, 14, 15, 17, 18, 19, 20, 21, 23, 24, 25, 26, 27, 29, 30, 31, 32, 33, 34, 35, 36, 38, 39, 40, 41, 42, 43, 44, 45, 46, 47, 48, 49, 50] 3) = some kf18 := by kernel_rfl
noncomputable def kf30 : KFn := { params := [w0, w1], res := [(.s r4), (.s r5)], body :=
 (.seq
 (.reg [.p (o1 mvG (ctK (.int .i64 (Int.ofNat 0)))) w4, .p (o1 mvG (ctK (.int .i64 (Int.ofNat 0)))) w5])
 (.seq
 (.reg [.p (buildO [(.int .i64 (Int.ofNat 0)), (.str 0 0), .snil, .snil] [(0, 1, r1)]) pushW, .p (callO 56 [r0, l0]) pushW, .p (o1 (extG 0) l0) pushW, .p (o1 (extG 1) l1) pushW, .p (o1 mvG l1) w4, .p (o1 mvG l0) w5])
 .ret)) }
theorem kf30_ok : (compFn Try.prog Try.f30 []).bind (toKFn [6, 7, 8, 9, 10, 11] 2) = some kf30 := by kernel_rfl
noncomputable def kf29 : KFn := { params := [w0, w1, w2], res := [(.s r6), (.s r7)], body :=
 (.seq
 (.reg [.p (o1 mvG (ctK (.int .i64 (Int.ofNat 0)))) w6, .p (o1 mvG (ctK (.int .i64 (Int.ofNat 0)))) w7])
 (.seq
 (.reg [.p (callO 50 [r0, r1]) pushW, .p (o1 (extG 0) l0) pushW, .p (o1 (extG 1) l1) pushW, .p (o1 (extG 2) l2) pushW, .p (o1 mvG l2) w8, .p (o1 mvG l1) w9, .p (o1 mvG l0) w10])
 (.seq
 (.reg [.p (o1 lenLG r8) pushW, .p (o1 mvG l0) w11])
 (.seq
 (.block 0
 (.seq
 (.reg [.p (callO 51 [r1]) pushW, .p (o1 mvG l0) w34])
 (.cond r34
 (.reg [.p (callO 52 [r1]) pushW, .p (o1 mvG l0) w11])
 (.seq
 (.reg [.p (o1 notG r10) pushW, .p (o1 mvG l0) w39])
 (.cond r39
 (.seq
 (.reg [.p (o1 mvG (ctK (.int .i64 (Int.ofNat 0)))) w6, .p (o1 mvG (ctK (.int .i64 (Int.ofNat 15)))) w7])
 .ret)
 .skip)))))
 (.seq
 (.seq
 (.reg [.p (o1 lenLG r2) pushW, .p (o2 (eqG eqIV true) l0 r11) w45])
 (.cond r45
 (.seq
 (.reg [.p (o1 mvG (ctK (.int .i64 (Int.ofNat 0)))) w6, .p (o1 mvG (ctK (.int .i64 (Int.ofNat 18)))) w7])
 .ret)
 .skip))
 (.seq
 (.seq
 (.reg [.p (callO 51 [r1]) pushW, .p (o1 notG l0) w48])
 (.cond r48
 (.seq
 (.seq
 (.reg [.p (o1 mvG r8) w49, .p (o1 lenLG r49) w50, .p (o1 mvG (ctK (.int .i64 (Int.ofNat 0)))) w51])
 (.block 1
 (.loop
 (.seq
 (.reg [.p (o2 (binG (cmpB .lss ltI)) r51 r50) w52])
 (.seq
 (.cond r52
 .skip
 (.exit 1))
 (.seq
 (.block 2
 (.seq
 (.reg [.p (o2 (iaddrG 1) r49 r51) pushW, .p (o1 load1G l0) pushW, .p (o1 mvG r51) w12, .p (o1 mvG l0) w13])
 (.seq
 (.reg [.p (o2 (iaddrG 1) r2 r12) pushW, .p (o1 load1G l0) pushW, .p (callO 53 [r0, l0, r13]) pushW, .p (o1 (extG 0) l0) pushW, .p (o1 (extG 1) l1) pushW, .p (o1 mvG l1) w14])
 (.seq
 (.reg [.p (o1 notG r14) w67])
 (.cond r67
 (.seq
 (.reg [.p (o1 mvG (ctK (.int .i64 (Int.ofNat 0)))) w6, .p (o1 mvG (ctK (.int .i64 (Int.ofNat 17)))) w7])
 .ret)
 .skip)))))
 (.reg [.p (o2 (binG addB) r51 (ctK (.int .i64 (Int.ofNat 1)))) pushW, .p (o1 mvG l0) w51])))))))
 (.seq
 (.reg [.p (o1 mvG r9) w6, .p (o1 mvG (ctK (.int .i64 (Int.ofNat 0)))) w7])
 .ret))
 .skip))
 (.seq
 (.reg [.p (buildO [.pnil, .snil, .snil] [(0, 1, r0), (2, 1, r2)]) pushW, .p (allocO [.pnil, .snil, .snil]) w16, .p (o2 (storeG 3) r16 l0) noW])
 (.seq
 (.seq
 (.reg [.p (o1 mvG r2) w73, .p (o1 lenLG r73) w74, .p (o1 mvG (ctK (.int .i64 (Int.ofNat 0)))) w75])
 (.block 3
 (.loop
 (.seq
 (.reg [.p (o2 (binG (cmpB .lss ltI)) r75 r74) w76])
 (.seq
 (.cond r76
 .skip
 (.exit 3))
 (.seq
 (.block 4
 (.seq
 (.reg [.p (o2 (iaddrG 1) r73 r75) pushW, .p (o1 load1G l0) pushW, .p (o1 mvG l0) w18])
 (.seq
 (.reg [.p (callO 54 [r0, r18]) pushW, .p (o1 (extG 0) l0) pushW, .p (o1 (extG 1) l1) pushW, .p (o1 mvG l1) w19])
 (.seq
 (.reg [.p (callO 13 [r0, r19]) pushW, .p (o1 (extG 0) l0) pushW, .p (o1 (extG 1) l1) pushW, .p (allocO [(.int .i64 (Int.ofNat 0)), (.str 0 0), .snil, .snil]) w21, .p (o2 (storeG 4) r21 l1) noW])
 (.seq
 (.seq
 (.reg [.p (callO 54 [r0, r18]) pushW, .p (o1 (extG 0) l0) pushW, .p (o1 (extG 1) l1) pushW, .p (o1 mvG l0) w24])
 (.seq
 (.reg [.p (o1 notG r24) w98])
 (.cond r98
 (.reg [.p (buildO [(.int .i64 (Int.ofNat 0)), (.str 0 0), .snil, .snil] []) pushW, .p (o2 (storeG 4) r21 l0) noW])
 .skip)))
 (.reg [.p (o1 (faddrG 1) r16) pushW, .p (o1 load1G l0) pushW, .p (o1 (loadnG 4) r21) pushW, .p (bslO 4 1 [(.int .i64 (Int.ofNat 0)), (.str 0 0), .snil, .snil] [(0, 4, l0)]) pushW, .p (o2 (appG 4) l2 l0) pushW, .p (o1 (faddrG 1) r16) pushW, .p (o2 (storeG 1) l0 l1) noW]))))))
 (.reg [.p (o2 (binG addB) r75 (ctK (.int .i64 (Int.ofNat 1)))) pushW, .p (o1 mvG l0) w75])))))))
 (.seq
 (.reg [.p (o1 (loadnG 3) r16) pushW, .p (callO 55 [l0, r1]) pushW, .p (o1 (extG 0) l0) pushW, .p (o1 (extG 1) l1) pushW, .p (o1 mvG l1) w6, .p (o1 mvG l0) w7])
 .ret))))))))) }
theorem kf29_ok : (compFn Try.prog Try.f29 [[0, 1, 2, 8, 9, 11], [0, 1, 2, 8, 9], [0, 1, 2], [9], [0, 2, 9, 49, 50, 51], [0, 2, 9, 49, 50, 51], [0, 2, 9, 49, 50, 51], [1, 16], [0, 1, 16, 73, 74, 75], [0, 1, 16, 73, 74, 75], [0, 1, 16, 73, 74, 75], [0, 1, 16, 21, 73, 74, 75]]).bind (toKFn [15, 20, 22, 23, 25, 26, 27, 28, 29, 30, 31, 32, 33, 35, 36, 37, 38, 40, 41, 42, 43, 44, 46, 47, 53, 54, 55, 56, 57, 58, 59, 60, 61, 62, 63, 64, 65, 66, 68, 69, 70, 71, 72, 77, 78, 79, 80, 81, 82, 83, 84, 85, 86, 87, 88, 89, 90, 91, 92, 93, 94, 95, 96, 97, 99, 100, 101, 102, 103, 104, 105, 106, 107, 108, 109, 110, 111] 3) = some kf29 := by kernel_rfl
noncomputable def kf50 : KFn := { params := [w0, w1], res := [(.s r4), (.s r5), (.s r6)], body :=
 (.seq
 (.reg [.p (o1 mvG (ctK .snil)) w4, .p (o1 mvG (ctK (.int .i64 (Int.ofNat 0)))) w5, .p (o1 mvG (ctK (.bool false))) w6])
 (.seq
 (.reg [.p (o1 nilckG r0) pushW, .p (o1 (faddrG 4) l0) pushW, .p (o1 load1G l0) pushW, .p (o2 (lookupG (.one .s) .snil true) l0 r1) pushW, .p (o1 (extG 0) l0) pushW, .p (o1 (extG 1) l1) pushW, .p (o1 mvG l1) w7, .p (o1 mvG l0) w8])
 (.seq
 (.seq
 (.reg [.p (o1 notG r8) w19])
 (.cond r19
 (.seq
 (.reg [.p (o1 mvG (ctK .snil)) w4, .p (o1 mvG (ctK (.int .i64 (Int.ofNat 0)))) w5, .p (o1 mvG (ctK (.bool false))) w6])
 .ret)
 .skip))
 (.seq
 (.drw [.p (o1 lenLG r7) pushW, .p (o2 (binG subB) l0 (ctK (.int .i64 (Int.ofNat 1)))) pushW, .p (cutLO 1 r7 none (some l0) none) pushW, .m (callO 23 [l0]) pushW none, .p (o1 lenLG r7) pushW, .p (o2 (binG subB) l0 (ctK (.int .i64 (Int.ofNat 1)))) pushW, .p (o2 (iaddrG 1) r7 l0) pushW, .p (o1 load1G l0) pushW, .p (o1 mvG l4) w4, .p (o1 mvG l0) w5, .p (o1 mvG (ctK (.bool true))) w6] [])
 .ret)))) }
theorem kf50_ok : (compFn Try.prog Try.f50 [[7]]).bind (toKFn [9, 10, 11, 12, 13, 14, 15, 16, 17, 18, 20, 21, 22, 23, 24, 25, 26, 27, 28, 29, 30, 31] 2) = some kf50 := by kernel_rfl
noncomputable def kf52 : KFn := { params := [w0], res := [(.s r2)], body :=
 (.seq
 (.reg [.p (o1 mvG (ctK (.int .i64 (Int.ofNat 0)))) w2])
 (.seq
 (.seq
 (.reg [.p (o1 mvG r0) w3])
 (.block 0
 (.seq
 (.block 2
 (.block 1
 (.seq
 (.seq
 (.seq
 (.seq
 (.reg [.p (o2 (eqG eqSV false) r3 (ctK (.str 3 7234924))) pushW, .p (o1 mvG l0) w4])
 (.cond r4
 .skip
 (.seq
 (.reg [.p (o2 (eqG eqSV false) r3 (ctK (.str 3 7630702))) pushW, .p (o1 mvG l0) w4])
 (.cond r4
 .skip
 (.seq
 (.reg [.p (o2 (eqG eqSV false) r3 (ctK (.str 4 1954047348))) pushW, .p (o1 mvG l0) w4])
 (.cond r4
 .skip
 (.seq
 (.reg [.p (o2 (eqG eqSV false) r3 (ctK (.str 3 7561576))) pushW, .p (o1 mvG l0) w4])
 (.cond r4
 .skip
 (.seq
 (.reg [.p (o2 (eqG eqSV false) r3 (ctK (.str 2 14441))) pushW, .p (o1 mvG l0) w4])
 (.cond r4
 .skip
 (.seq
 (.reg [.p (o2 (eqG eqSV false) r3 (ctK (.str 3 3551593))) pushW, .p (o1 mvG l0) w4])
 (.cond r4
 .skip
 (.seq
 (.reg [.p (o2 (eqG eqSV false) r3 (ctK (.str 3 3289961))) pushW, .p (o1 mvG l0) w4])
 (.cond r4
 .skip
 (.reg [.p (o2 (eqG eqSV false) r3 (ctK (.str 2 14453))) pushW, .p (o1 mvG l0) w4])))))))))))))))
 (.cond r4
 (.exit 1)
 .skip))
 (.seq
 (.seq
 (.reg [.p (o2 (eqG eqSV false) r3 (ctK (.str 3 3551605))) pushW, .p (o1 mvG l0) w13])
 (.cond r13
 .skip
 (.reg [.p (o2 (eqG eqSV false) r3 (ctK (.str 3 3289973))) pushW, .p (o1 mvG l0) w13])))
 (.cond r13
 (.exit 2)
 .skip)))
 (.exit 0))))
 (.seq
 (.seq
 (.reg [.p (o1 mvG (ctK (.int .i64 (Int.ofNat 1)))) w2])
 .ret)
 (.exit 0)))))
 (.seq
 (.reg [.p (o1 mvG (ctK (.int .i64 (Int.ofNat 2)))) w2])
 .ret))) }
theorem kf52_ok : (compFn Try.prog Try.f52 [[], [], [], [3], [3, 4], [13]]).bind (toKFn [5, 6, 7, 8, 9, 10, 11, 12, 14, 15] 1) = some kf52 := by kernel_rfl
noncomputable def kf53 : KFn := { params := [w0, w1, w2], res := [(.s r6), (.s r7)], body :=
 (.seq
 (.reg [.p (o1 mvG (ctK (.bool false))) w6, .p (o1 mvG (ctK (.int .i64 (Int.ofNat 0)))) w7])
 (.seq
 (.seq
 (.reg [.p (o2 (binG (cmpB .lss ltI)) r1 (ctK (.int .i64 (Int.ofNat 0)))) pushW, .g l0 false false none (o1 mvG r1) pushW, .g l1 false false none (o1 mvG r0) pushW, .g l2 false false none (callO 7 [l0]) pushW, .g l3 false false none (o2 (binG (cmpB .geq geI)) l2 l0) pushW, .p (o3 pickG l4 (ctK (.bool true)) l0) pushW, .g l0 false false none (o1 mvG r2) pushW, .g l1 false false none (o2 (binG (cmpB .lss ltI)) l0 (ctK (.int .i64 (Int.ofNat 0)))) pushW, .p (o3 pickG l2 (ctK (.bool true)) l0) pushW, .g l0 false false none (o1 mvG r2) pushW, .g l1 false false none (o1 mvG r0) pushW, .g l2 false false none (callO 7 [l0]) pushW, .g l3 false false none (o2 (binG (cmpB .geq geI)) l2 l0) pushW, .p (o3 pickG l4 (ctK (.bool true)) l0) w27])
 (.cond r27
 (.seq
 (.reg [.p (o1 mvG (ctK (.bool false))) w6, .p (o1 mvG (ctK (.int .i64 (Int.ofNat 0)))) w7])
 .ret)
 .skip))
 (.seq
 (.reg [.p mkmapO pushW, .p (buildO [.pnil, .mnil] [(0, 1, r0), (1, 1, l0)]) pushW, .p (o1 boxG l0) pushW, .p (o1 mvG l0) w8])
 (.seq
 (.reg [.p (callO 69 [r8, r1, r2]) pushW, .p (o1 mvG l0) w9])
 (.seq
 (.reg [.p (o1 nilckG r8) pushW, .p (o1 (faddrG 1) l0) pushW, .p (o1 load1G l0) pushW, .p (o1 lenMG l0) pushW, .p (o1 mvG r9) w6, .p (o1 mvG l0) w7])
 .ret))))) }
theorem kf53_ok : (compFn Try.prog Try.f53 [[0, 1, 2]]).bind (toKFn [10, 11, 12, 13, 14, 15, 16, 17, 18, 19, 20, 21, 22, 23, 24, 25, 26, 28, 29, 30, 31, 32, 33, 34, 35, 36, 37, 38, 39, 40, 41] 3) = some kf53 := by kernel_rfl
noncomputable def kf7 : KFn := { params := [w0], res := [(.s r2)], body :=
 (.seq
 (.reg [.p (o1 mvG (ctK (.int .i64 (Int.ofNat 0)))) w2])
 (.seq
 (.reg [.p (o1 nilckG r0) pushW, .p (o1 (faddrG 0) l0) pushW, .p (o1 load1G l0) pushW, .p (o1 lenLG l0) pushW, .p (o1 mvG l0) w2])
 .ret)) }
theorem kf7_ok : (compFn Try.prog Try.f7 []).bind (toKFn [3, 4, 5, 6, 7] 1) = some kf7 := by kernel_rfl
noncomputable def kf69 : KFn := { params := [w0, w1, w2], res := [(.s r6)], body :=
 (.seq
 (.reg [.p (o1 mvG (ctK (.bool false))) w6])
 (.seq
 (.reg [.p (buildO [(.int .i64 (Int.ofNat 0)), (.int .i64 (Int.ofNat 0))] [(0, 1, r1), (1, 1, r2)]) pushW, .p (allocO [(.int .i64 (Int.ofNat 0)), (.int .i64 (Int.ofNat 0))]) w7, .p (o2 (storeG 2) r7 l0) noW])
 (.seq
 (.seq
 (.drw [.p (o2 (eqG eqIV false) r1 r2) pushW, .g l0 false false none (o1 mvG r0) pushW, .g l1 false false none (o1 nilckG l0) pushW, .g l2 false false none (o1 (faddrG 1) l0) pushW, .g l3 false false none (o1 load1G l0) pushW, .g l4 false false none (o1 (loadnG 2) r7) pushW, .g l5 false false none (o2 (lookupG (.many [.i, .i]) (.int .i64 (Int.ofNat 0)) false) l1 l0) pushW, .g l6 false false none (o2 (binG (cmpB .gtr gtI)) l0 (ctK (.int .i64 (Int.ofNat 0)))) pushW, .p (o3 pickG l7 (ctK (.bool true)) l0) w22] [])
 (.cond r22
 (.seq
 (.reg [.p (o1 mvG (ctK (.bool true))) w6])
 .ret)
 .skip))
 (.seq
 (.drw [.p (o1 nilckG r0) pushW, .p (o1 (faddrG 1) l0) pushW, .p (o1 load1G l0) pushW, .p (o1 (loadnG 2) r7) pushW, .p (o2 (lookupG (.many [.i, .i]) (.int .i64 (Int.ofNat 0)) false) l1 l0) pushW, .p (o2 (binG addB) l0 (ctK (.int .i64 (Int.ofNat 1)))) pushW, .p (o2 (mentG (.many [.i, .i]) (.int .i64 (Int.ofNat 0))) l3 l2) pushW, .p (o1 (extG 1) l0) pushW, .p (o3 estsG l5 l0 l2) noW] [])
 (.seq
 (.reg [.p (callO 82 [r0, r1, r2]) pushW, .p (o1 mvG l0) w6])
 .ret))))) }
theorem kf69_ok : (compFn Try.prog Try.f69 [[0, 1, 2, 7]]).bind (toKFn [8, 9, 10, 11, 12, 13, 14, 15, 16, 17, 18, 19, 20, 21, 23, 24, 25, 26, 27, 28, 29, 30, 31, 32, 33, 34, 35] 3) = some kf69 := by kernel_rfl
noncomputable def kf82 : KFn := { params := [w0, w1, w2], res := [(.s r6)], body :=
 (.seq
 (.reg [.p (o1 mvG (ctK (.bool false))) w6])
 (.seq
 (.reg [.p (o1 nilckG r0) pushW, .p (o1 (faddrG 0) l0) pushW, .p (o1 load1G l0) pushW, .p (o1 mvG r1) pushW, .p (callO 54 [l1, l0]) pushW, .p (o1 (extG 0) l0) pushW, .p (o1 (extG 1) l1) pushW, .p (o1 mvG l1) w1, .p (o1 mvG l0) w7])
 (.seq
 (.reg [.p (o1 nilckG r0) pushW, .p (o1 (faddrG 0) l0) pushW, .p (o1 load1G l0) pushW, .p (o1 mvG r2) pushW, .p (callO 54 [l1, l0]) pushW, .p (o1 (extG 0) l0) pushW, .p (o1 (extG 1) l1) pushW, .p (o1 mvG l1) w2, .p (o1 mvG l0) w8])
 (.seq
 (.seq
 (.reg [.p (o1 notG r7) pushW, .g l0 false false none (o1 mvG r8) pushW, .g l1 false false none (o1 notG l0) pushW, .p (o3 pickG l2 (ctK (.bool true)) l0) w36])
 (.cond r36
 (.seq
 (.reg [.p (o1 mvG (ctK (.bool false))) w6])
 .ret)
 .skip))
 (.seq
 (.reg [.p (o1 nilckG r0) pushW, .p (o1 (faddrG 0) l0) pushW, .p (o1 load1G l0) pushW, .p (callO 13 [l0, r1]) pushW, .p (o1 (extG 0) l0) pushW, .p (o1 (extG 1) l1) pushW, .p (allocO [(.int .i64 (Int.ofNat 0)), (.str 0 0), .snil, .snil]) w9, .p (o2 (storeG 4) r9 l1) noW])
 (.seq
 (.reg [.p (o1 nilckG r0) pushW, .p (o1 (faddrG 0) l0) pushW, .p (o1 load1G l0) pushW, .p (callO 13 [l0, r2]) pushW, .p (o1 (extG 0) l0) pushW, .p (o1 (extG 1) l1) pushW, .p (allocO [(.int .i64 (Int.ofNat 0)), (.str 0 0), .snil, .snil]) w11, .p (o2 (storeG 4) r11 l1) noW])
 (.seq
 (.block 0
 (.seq
 (.reg [.p (o1 (faddrG 0) r11) pushW, .p (o1 load1G l0) pushW, .p (o2 (eqG eqIV false) l0 (ctK (.int .i64 (Int.ofNat 6)))) pushW, .g l0 true false none (o1 (faddrG 0) r9) pushW, .g l1 true false none (o1 load1G l0) pushW, .g l2 true false none (o2 (eqG eqIV true) l0 (ctK (.int .i64 (Int.ofNat 6)))) pushW, .p (o3 pickG l3 l0 (ctK (.bool false))) pushW, .g l0 true false none (o1 (faddrG 3) r11) pushW, .g l1 true false none (o1 load1G l0) pushW, .g l2 true false none (o1 lenLG l0) pushW, .g l3 true false none (o2 (eqG eqIV false) l0 (ctK (.int .i64 (Int.ofNat 1)))) pushW, .p (o3 pickG l4 l0 (ctK (.bool false))) pushW, .p (o1 mvG l0) w55])
 (.cond r55
 (.seq
 (.reg [.p (o1 (faddrG 3) r11) pushW, .p (o1 load1G l0) pushW, .p (o2 (iaddrG 1) l0 (ctK (.int .i64 (Int.ofNat 0)))) pushW, .p (o1 load1G l0) pushW, .p (callO 69 [r0, r1, l0]) pushW, .p (o1 mvG l0) w6])
 .ret)
 (.seq
 (.reg [.p (o1 (faddrG 0) r9) pushW, .p (o1 load1G l0) pushW, .p (o1 (faddrG 0) r11) pushW, .p (o1 load1G l0) pushW, .p (o2 (eqG eqIV true) l2 l0) pushW, .p (o1 mvG l0) w77])
 (.cond r77
 (.seq
 (.reg [.p (o1 mvG (ctK (.bool false))) w6])
 .ret)
 (.seq
 (.reg [.p (o1 (faddrG 0) r11) pushW, .p (o1 load1G l0) pushW, .p (o2 (eqG eqIV false) l0 (ctK (.int .i64 (Int.ofNat 7)))) pushW, .p (o1 mvG l0) w83])
 (.cond r83
 (.seq
 (.reg [.p (o1 (loadnG 4) r9) pushW, .p (o1 (loadnG 4) r11) pushW, .p (callO 89 [r0, l1, l0, (ctK (.bool true))]) pushW, .p (o1 mvG l0) w6])
 .ret)
 (.seq
 (.reg [.p (o1 (faddrG 0) r11) pushW, .p (o1 load1G l0) pushW, .p (o2 (eqG eqIV false) l0 (ctK (.int .i64 (Int.ofNat 8)))) pushW, .p (o1 mvG l0) w91])
 (.cond r91
 (.seq
 (.reg [.p (o1 (loadnG 4) r11) pushW, .p (o1 (loadnG 4) r9) pushW, .p (callO 89 [r0, l1, l0, (ctK (.bool false))]) pushW, .p (o1 mvG l0) w6])
 .ret)
 .skip)))))))))
 (.seq
 (.reg [.p (o1 (loadnG 4) r9) pushW, .p (o1 (loadnG 4) r11) pushW, .p (callO 90 [r0, l1, l0]) pushW, .p (o1 mvG l0) w6])
 .ret)))))))) }
theorem kf82_ok : (compFn Try.prog Try.f82 [[0, 1, 2], [0, 9, 11]]).bind (toKFn [10, 12, 13, 14, 15, 16, 17, 18, 19, 20, 21, 22, 23, 24, 25, 26, 27, 28, 29, 30, 31, 32, 33, 34, 35, 37, 38, 39, 40, 41, 42, 43, 44, 45, 46, 47, 48, 49, 50, 51, 52, 53, 54, 56, 57, 58, 59, 60, 61, 62, 63, 64, 65, 66, 67, 68, 69, 70, 71, 72, 73, 74, 75, 76, 78, 79, 80, 81, 82, 84, 85, 86, 87, 88, 89, 90, 92, 93, 94, 95, 96, 97, 98, 99, 100, 101, 102] 3) = some kf82 := by kernel_rfl
noncomputable def kf54 : KFn := { params := [w0, w1], res := [(.s r4), (.s r5)], body :=
 (.seq
 (.reg [.p (o1 mvG (ctK (.int .i64 (Int.ofNat 0)))) w4, .p (o1 mvG (ctK (.bool false))) w5])
 (.seq
 (.seq
 (.reg [.p (o1 nilckG r0) pushW, .p (o1 (faddrG 0) l0) pushW, .p (o1 load1G l0) pushW, .p (o1 lenLG l0) pushW, .p (o2 (binG addB) l0 (ctK (.int .i64 (Int.ofNat 1)))) w13, .p (o1 mvG (ctK (.int .i64 (Int.ofNat 0)))) w14])
 (.block 0
 (.loop
 (.seq
 (.reg [.p (o2 (binG (cmpB .lss ltI)) r14 r13) w15])
 (.seq
 (.cond r15
 .skip
 (.exit 0))
 (.seq
 (.block 1
 (.seq
 (.seq
 (.reg [.p (o2 (binG (cmpB .lss ltI)) r1 (ctK (.int .i64 (Int.ofNat 0)))) pushW, .g l0 false false none (o1 mvG r1) pushW, .g l1 false false none (o1 mvG r0) pushW, .g l2 false false none (o1 nilckG l0) pushW, .g l3 false false none (o1 (faddrG 0) l0) pushW, .g l4 false false none (o1 load1G l0) pushW, .g l5 false false none (o1 lenLG l0) pushW, .g l6 false false none (o2 (binG (cmpB .geq geI)) l5 l0) pushW, .p (o3 pickG l7 (ctK (.bool true)) l0) w26])
 (.cond r26
 (.seq
 (.reg [.p (o1 mvG (ctK (.int .i64 (Int.ofNat 0)))) w4, .p (o1 mvG (ctK (.bool false))) w5])
 .ret)
 .skip))
 (.seq
 (.seq
 (.reg [.p (o1 nilckG r0) pushW, .p (o1 (faddrG 0) l0) pushW, .p (o1 load1G l0) pushW, .p (o2 (iaddrG 4) l0 r1) pushW, .p (o1 (faddrG 0) l0) pushW, .p (o1 load1G l0) pushW, .p (o2 (eqG eqIV true) l0 (ctK (.int .i64 (Int.ofNat 9)))) w35])
 (.cond r35
 (.seq
 (.reg [.p (o1 mvG r1) w4, .p (o1 mvG (ctK (.bool true))) w5])
 .ret)
 .skip))
 (.seq
 (.drw [.p (o1 nilckG r0) pushW, .p (o1 (faddrG 2) l0) pushW, .p (o1 load1G l0) pushW, .p (o1 nilckG r0) pushW, .p (o1 (faddrG 0) l0) pushW, .p (o1 load1G l0) pushW, .p (o2 (iaddrG 4) l0 r1) pushW, .p (o1 (faddrG 1) l0) pushW, .p (o1 load1G l0) pushW, .p (o2 (lookupG (.one .s) (.int .i64 (Int.ofNat 0)) true) l6 l0) pushW, .p (o1 (extG 0) l0) pushW, .p (o1 (extG 1) l1) pushW, .p (o1 mvG l1) w6, .p (o1 mvG l0) w7] [])
 (.seq
 (.seq
 (.reg [.p (o1 notG r7) w54])
 (.cond r54
 (.reg [.p (o1 mvG (ctK (.int .i64 (Int.negSucc 0)))) w6])
 .skip))
 (.reg [.p (o1 mvG r6) w1]))))))
 (.reg [.p (o2 (binG addB) r14 (ctK (.int .i64 (Int.ofNat 1)))) pushW, .p (o1 mvG l0) w14])))))))
 (.seq
 (.reg [.p (o1 mvG (ctK (.int .i64 (Int.ofNat 0)))) w4, .p (o1 mvG (ctK (.bool false))) w5])
 .ret))) }
theorem kf54_ok : (compFn Try.prog Try.f54 [[], [0, 1, 13, 14], [0, 1, 13, 14], [0, 1, 13, 14], [0, 1, 13, 14], [0, 1, 13, 14], [0, 6, 13, 14]]).bind (toKFn [8, 9, 10, 11, 12, 16, 17, 18, 19, 20, 21, 22, 23, 24, 25, 27, 28, 29, 30, 31, 32, 33, 34, 36, 37, 38, 39, 40, 41, 42, 43, 44, 45, 46, 47, 48, 49, 50, 51, 52, 53, 55, 56] 2) = some kf54 := by kernel_rfl
noncomputable def kf13 : KFn := { params := [w0, w1], res := [(.cn r4 4), (.s r5)], body :=
 (.seq
 (.reg [.p (allocO [(.int .i64 (Int.ofNat 0)), (.str 0 0), .snil, .snil]) w4, .p (o1 mvG (ctK (.bool false))) w5])
 (.seq
 (.seq
 (.reg [.p (o2 (binG (cmpB .lss ltI)) r1 (ctK (.int .i64 (Int.ofNat 0)))) pushW, .g l0 false false none (o1 mvG r1) pushW, .g l1 false false none (o1 mvG r0) pushW, .g l2 false false none (o1 nilckG l0) pushW, .g l3 false false none (o1 (faddrG 0) l0) pushW, .g l4 false false none (o1 load1G l0) pushW, .g l5 false false none (o1 lenLG l0) pushW, .g l6 false false none (o2 (binG (cmpB .geq geI)) l5 l0) pushW, .p (o3 pickG l7 (ctK (.bool true)) l0) w17])
 (.cond r17
 (.seq
 (.reg [.p (buildO [(.int .i64 (Int.ofNat 0)), (.str 0 0), .snil, .snil] []) pushW, .p (o2 (storeG 4) r4 l0) noW, .p (o1 mvG (ctK (.bool false))) w5])
 .ret)
 .skip))
 (.seq
 (.reg [.p (o1 nilckG r0) pushW, .p (o1 (faddrG 0) l0) pushW, .p (o1 load1G l0) pushW, .p (o2 (iaddrG 4) l0 r1) pushW, .p (o1 (loadnG 4) l0) pushW, .p (allocO [(.int .i64 (Int.ofNat 0)), (.str 0 0), .snil, .snil]) w6, .p (o2 (storeG 4) r6 l0) noW])
 (.seq
 (.drw [.p (o1 (faddrG 2) r6) pushW, .p (o1 load1G l0) pushW, .m (callO 22 [l0]) pushW none, .p (o1 (faddrG 3) r6) pushW, .p (o1 load1G l0) pushW, .m (callO 23 [l0]) pushW (some []), .p (o1 (faddrG 2) r6) pushW, .p (o2 (storeG 1) l0 l4) noW, .p (o1 (faddrG 3) r6) pushW, .p (o2 (storeG 1) l0 l2) noW] [])
 (.seq
 (.reg [.p (o1 (loadnG 4) r6) pushW, .p (o2 (storeG 4) r4 l0) noW, .p (o1 mvG (ctK (.bool true))) w5])
 .ret))))) }
theorem kf13_ok : (compFn Try.prog Try.f13 [[0, 1, 4]]).bind (toKFn [7, 8, 9, 10, 11, 12, 13, 14, 15, 16, 18, 19, 20, 21, 22, 23, 24, 25, 26, 27, 28, 29, 30, 31, 32, 33, 34] 2) = some kf13 := by kernel_rfl
noncomputable def kf89 : KFn := { params := [w0, w1, w2, w3], res := [(.s r8)], body :=
 (.seq
 (.reg [.p (o1 boxG r1) w5, .p (o1 boxG r2) w6, .p (o1 mvG (ctK (.bool false))) w8])
 (.seq
 (.seq
 (.reg [.p (o1 (faddrG 2) r6) pushW, .p (o1 load1G l0) w15, .p (o1 lenLG r15) w16, .p (o1 mvG (ctK (.int .i64 (Int.ofNat 0)))) w17])
 (.block 0
 (.loop
 (.seq
 (.reg [.p (o2 (binG (cmpB .lss ltI)) r17 r16) w18])
 (.seq
 (.cond r18
 .skip
 (.exit 0))
 (.seq
 (.block 1
 (.seq
 (.reg [.p (o2 (iaddrG 1) r15 r17) pushW, .p (o1 load1G l0) pushW, .p (o1 mvG r17) w9, .p (o1 mvG l0) w10])
 (.seq
 (.reg [.p (o1 (faddrG 2) r5) pushW, .p (o1 load1G l0) pushW, .p (callO 59 [l0, r10]) pushW, .p (o1 mvG l0) w11])
 (.seq
 (.seq
 (.reg [.p (o2 (binG (cmpB .lss ltI)) r11 (ctK (.int .i64 (Int.ofNat 0)))) pushW, .g l0 false false none (o1 mvG r11) pushW, .g l1 false false none (o1 (faddrG 3) r5) pushW, .g l2 false false none (o1 load1G l0) pushW, .g l3 false false none (o1 lenLG l0) pushW, .g l4 false false none (o2 (binG (cmpB .geq geI)) l3 l0) pushW, .p (o3 pickG l5 (ctK (.bool true)) l0) pushW, .g l0 false false none (o1 mvG r9) pushW, .g l1 false false none (o1 (faddrG 3) r6) pushW, .g l2 false false none (o1 load1G l0) pushW, .g l3 false false none (o1 lenLG l0) pushW, .g l4 false false none (o2 (binG (cmpB .geq geI)) l3 l0) pushW, .p (o3 pickG l5 (ctK (.bool true)) l0) w41])
 (.cond r41
 (.seq
 (.reg [.p (o1 mvG (ctK (.bool false))) w8])
 .ret)
 .skip))
 (.seq
 (.drw [.p (o1 (faddrG 3) r5) pushW, .p (o1 load1G l0) pushW, .p (o2 (iaddrG 1) l0 r11) pushW, .p (o1 load1G l0) pushW, .p (o1 (faddrG 3) r6) pushW, .p (o1 load1G l0) pushW, .p (o2 (iaddrG 1) l0 r9) pushW, .p (o1 load1G l0) pushW, .p (o1 mvG l4) w12, .p (o1 mvG l0) w13] [])
 (.seq
 (.seq
 (.reg [.p (o1 notG r3) w53])
 (.cond r53
 (.reg [.p (o1 mvG r13) pushW, .p (o1 mvG r12) pushW, .p (o1 mvG l1) w12, .p (o1 mvG l0) w13])
 .skip))
 (.seq
 (.reg [.p (callO 69 [r0, r12, r13]) pushW, .p (o1 notG l0) w60])
 (.cond r60
 (.seq
 (.reg [.p (o1 mvG (ctK (.bool false))) w8])
 .ret)
 .skip))))))))
 (.reg [.p (o2 (binG addB) r17 (ctK (.int .i64 (Int.ofNat 1)))) pushW, .p (o1 mvG l0) w17])))))))
 (.seq
 (.reg [.p (o1 mvG (ctK (.bool true))) w8])
 .ret))) }
theorem kf89_ok : (compFn Try.prog Try.f89 [[], [0, 3, 5, 6, 15, 16, 17], [0, 3, 5, 6, 15, 16, 17], [0, 3, 5, 6, 15, 16, 17], [0, 3, 5, 6, 9, 11, 15, 16, 17], [0, 3, 5, 6, 12, 13, 15, 16, 17]]).bind (toKFn [14, 19, 20, 21, 22, 23, 24, 25, 26, 27, 28, 29, 30, 31, 32, 33, 34, 35, 36, 37, 38, 39, 40, 42, 43, 44, 45, 46, 47, 48, 49, 50, 51, 52, 54, 55, 56, 57, 58, 59, 61] 4) = some kf89 := by kernel_rfl
noncomputable def kf59 : KFn := { params := [w0, w1], res := [(.s r4)], body :=
 (.seq
 (.reg [.p (o1 mvG (ctK (.int .i64 (Int.ofNat 0)))) w4])
 (.seq
 (.seq
 (.reg [.p (o1 lenLG r0) w7, .p (o1 mvG (ctK (.int .i64 (Int.ofNat 0)))) w8])
 (.block 0
 (.loop
 (.seq
 (.reg [.p (o2 (binG (cmpB .lss ltI)) r8 r7) w9])
 (.seq
 (.cond r9
 .skip
 (.exit 0))
 (.seq
 (.block 1
 (.seq
 (.reg [.p (o1 mvG r8) w5])
 (.seq
 (.reg [.p (o2 (iaddrG 1) r0 r5) pushW, .p (o1 load1G l0) pushW, .p (o2 (eqG eqSV false) r1 l0) w16])
 (.cond r16
 (.seq
 (.reg [.p (o1 mvG r5) w4])
 .ret)
 .skip))))
 (.reg [.p (o2 (binG addB) r8 (ctK (.int .i64 (Int.ofNat 1)))) pushW, .p (o1 mvG l0) w8])))))))
 (.seq
 (.reg [.p (o1 mvG (ctK (.int .i64 (Int.negSucc 0)))) w4])
 .ret))) }
theorem kf59_ok : (compFn Try.prog Try.f59 [[], [0, 1, 7, 8], [0, 1, 7, 8], [0, 1, 7, 8]]).bind (toKFn [6, 10, 11, 12, 13, 14, 15, 17, 18] 2) = some kf59 := by kernel_rfl
noncomputable def kf90 : KFn := { params := [w0, w1, w2], res := [(.s r6)], body :=
 (.seq
 (.reg [.p (o1 boxG r1) w4, .p (o1 boxG r2) w5, .p (o1 mvG (ctK (.bool false))) w6])
 (.seq
 (.seq
 (.reg [.p (o1 (faddrG 3) r4) pushW, .p (o1 load1G l0) pushW, .p (o1 lenLG l0) w10, .p (o1 mvG (ctK (.int .i64 (Int.ofNat 0)))) w11])
 (.block 0
 (.loop
 (.seq
 (.reg [.p (o2 (binG (cmpB .lss ltI)) r11 r10) w12])
 (.seq
 (.cond r12
 .skip
 (.exit 0))
 (.seq
 (.block 1
 (.seq
 (.reg [.p (o1 mvG r11) w7])
 (.seq
 (.drw [.p (o1 (faddrG 3) r5) pushW, .p (o1 load1G l0) pushW, .p (o1 lenLG l0) pushW, .p (o2 (binG (cmpB .geq geI)) r7 l0) pushW, .g l0 false false none (o1 mvG r0) pushW, .g l1 false false none (o1 (faddrG 3) r4) pushW, .g l2 false false none (o1 load1G l0) pushW, .g l3 false false none (o1 mvG r7) pushW, .g l4 false false none (o2 (iaddrG 1) l1 l0) pushW, .g l5 false false none (o1 load1G l0) pushW, .g l6 false false none (o1 (faddrG 3) r5) pushW, .g l7 false false none (o1 load1G l0) pushW, .g l8 false false none (o1 mvG r7) pushW, .g l9 false false none (o2 (iaddrG 1) l1 l0) pushW, .g l10 false false none (o1 load1G l0) pushW, .g l11 false true (some []) (callO 69 [l10, l5, l0]) pushW, .g l12 false false none (o1 notG l0) pushW, .p (o3 pickG l13 (ctK (.bool true)) l0) w33] [])
 (.cond r33
 (.seq
 (.reg [.p (o1 mvG (ctK (.bool false))) w6])
 .ret)
 .skip))))
 (.reg [.p (o2 (binG addB) r11 (ctK (.int .i64 (Int.ofNat 1)))) pushW, .p (o1 mvG l0) w11])))))))
 (.seq
 (.reg [.p (o1 mvG (ctK (.bool true))) w6])
 .ret))) }
theorem kf90_ok : (compFn Try.prog Try.f90 [[], [0, 4, 5, 10, 11], [0, 4, 5, 10, 11], [0, 4, 5, 10, 11]]).bind (toKFn [8, 9, 13, 14, 15, 16, 17, 18, 19, 20, 21, 22, 23, 24, 25, 26, 27, 28, 29, 30, 31, 32, 34] 3) = some kf90 := by kernel_rfl
noncomputable def kf55 : KFn := { params := [w0, w1], res := [(.s r4), (.s r5)], body :=
 (.seq
 (.reg [.p (o1 boxG r0) w2, .p (o1 mvG (ctK (.int .i64 (Int.ofNat 0)))) w4, .p (o1 mvG (ctK (.int .i64 (Int.ofNat 0)))) w5])
 (.seq
 (.reg [.p (o1 (faddrG 1) r2) pushW, .p (o1 load1G l0) pushW, .p (o2 (iaddrG 4) l0 (ctK (.int .i64 (Int.ofNat 0)))) pushW, .p (o1 (faddrG 0) l0) pushW, .p (o1 load1G l0) pushW, .p (o1 mvG l0) w6])
 (.seq
 (.seq
 (.reg [.p (o1 mvG r1) w12])
 (.block 0
 (.seq
 (.reg [.p (o2 (eqG eqSV false) r12 (ctK (.str 3 7234924))) pushW, .p (o1 mvG l0) w13])
 (.cond r13
 (.seq
 (.reg [.p (o1 (loadnG 3) r2) pushW, .p (o2 (eqG eqIV false) r6 (ctK (.int .i64 (Int.ofNat 3)))) pushW, .g l0 false false none (o1 mvG r6) pushW, .g l1 false false none (o2 (eqG eqIV false) l0 (ctK (.int .i64 (Int.ofNat 4)))) pushW, .p (o3 pickG l2 (ctK (.bool true)) l0) pushW, .g l0 false false none (o1 mvG r6) pushW, .g l1 false false none (o2 (eqG eqIV false) l0 (ctK (.int .i64 (Int.ofNat 5)))) pushW, .p (o3 pickG l2 (ctK (.bool true)) l0) pushW, .p (callO 70 [l7, (ctK (.int .i64 (Int.ofNat 2))), l0]) pushW, .p (o1 (extG 0) l0) pushW, .p (o1 (extG 1) l1) pushW, .p (o1 mvG l1) w4, .p (o1 mvG l0) w5])
 .ret)
 (.seq
 (.reg [.p (o2 (eqG eqSV false) r12 (ctK (.str 3 7630702))) pushW, .p (o1 mvG l0) w29])
 (.cond r29
 (.seq
 (.drw [.p (o1 (loadnG 3) r2) pushW, .p (o1 (loadnG 3) r2) pushW, .p (bslO 1 1 [(.int .i64 (Int.ofNat 0))] [(0, 1, (ctK (.int .i64 (Int.ofNat 1))))]) pushW, .m (callO 71 [l1, l0]) pushW (some [2]), .m (callO 70 [l3, (ctK (.int .i64 (Int.ofNat 1))), l0]) pushW (some []), .p (o1 (extG 0) l0) pushW, .p (o1 (extG 1) l1) pushW, .p (o1 mvG l1) w4, .p (o1 mvG l0) w5] [])
 .ret)
 (.seq
 (.seq
 (.reg [.p (o2 (eqG eqSV false) r12 (ctK (.str 3 6581857))) pushW, .p (o1 mvG l0) w38])
 (.cond r38
 .skip
 (.reg [.p (o2 (eqG eqSV false) r12 (ctK (.str 2 29295))) pushW, .p (o1 mvG l0) w38])))
 (.cond r38
 (.seq
 (.drw [.p (o1 (loadnG 3) r2) pushW, .p (o1 (loadnG 3) r2) pushW, .p (bslO 1 2 [(.int .i64 (Int.ofNat 0)), (.int .i64 (Int.ofNat 0))] [(0, 1, (ctK (.int .i64 (Int.ofNat 1)))), (1, 1, (ctK (.int .i64 (Int.ofNat 1))))]) pushW, .m (callO 71 [l1, l0]) pushW (some [2]), .m (callO 70 [l3, (ctK (.int .i64 (Int.ofNat 1))), l0]) pushW (some []), .p (o1 (extG 0) l0) pushW, .p (o1 (extG 1) l1) pushW, .p (o1 mvG l1) w4, .p (o1 mvG l0) w5] [])
 .ret)
 (.seq
 (.reg [.p (o2 (eqG eqSV false) r12 (ctK (.str 2 29029))) pushW, .p (o1 mvG l0) w48])
 (.cond r48
 (.seq
 (.drw [.p (o1 (loadnG 3) r2) pushW, .p (o2 (binG (cmpB .geq geI)) r6 (ctK (.int .i64 (Int.ofNat 1)))) pushW, .g l0 true false none (o1 mvG r6) pushW, .g l1 true false none (o2 (binG (cmpB .leq leI)) l0 (ctK (.int .i64 (Int.ofNat 3)))) pushW, .p (o3 pickG l2 l0 (ctK (.bool false))) pushW, .g l0 true false none (o1 (loadnG 3) r2) pushW, .g l1 true false none (o1 mvG r6) pushW, .g l2 true false none (o1 mvG r6) pushW, .g l3 true false none (bslO 1 2 [(.int .i64 (Int.ofNat 0)), (.int .i64 (Int.ofNat 0))] [(0, 1, l1), (1, 1, l0)]) pushW, .g l4 true true (some [2]) (callO 71 [l3, l0]) pushW, .p (o3 pickG l5 l0 (ctK (.bool false))) pushW, .m (callO 70 [l10, (ctK (.int .i64 (Int.ofNat 1))), l0]) pushW (some []), .p (o1 (extG 0) l0) pushW, .p (o1 (extG 1) l1) pushW, .p (o1 mvG l1) w4, .p (o1 mvG l0) w5] [])
 .ret)
 (.seq
 (.reg [.p (o2 (eqG eqSV false) r12 (ctK (.str 2 29804))) pushW, .p (o1 mvG l0) w67])
 (.cond r67
 (.seq
 (.drw [.p (o1 (loadnG 3) r2) pushW, .p (o1 (loadnG 3) r2) pushW, .p (bslO 1 2 [(.int .i64 (Int.ofNat 0)), (.int .i64 (Int.ofNat 0))] [(0, 1, (ctK (.int .i64 (Int.ofNat 2)))), (1, 1, (ctK (.int .i64 (Int.ofNat 2))))]) pushW, .m (callO 71 [l1, l0]) pushW (some [2]), .m (callO 70 [l3, (ctK (.int .i64 (Int.ofNat 1))), l0]) pushW (some []), .p (o1 (extG 0) l0) pushW, .p (o1 (extG 1) l1) pushW, .p (o1 mvG l1) w4, .p (o1 mvG l0) w5] [])
 .ret)
 (.seq
 (.seq
 (.reg [.p (o2 (eqG eqSV false) r12 (ctK (.str 3 6579297))) pushW, .p (o1 mvG l0) w76])
 (.cond r76
 .skip
 (.seq
 (.reg [.p (o2 (eqG eqSV false) r12 (ctK (.str 3 6452595))) pushW, .p (o1 mvG l0) w76])
 (.cond r76
 .skip
 (.seq
 (.reg [.p (o2 (eqG eqSV false) r12 (ctK (.str 3 7107949))) pushW, .p (o1 mvG l0) w76])
 (.cond r76
 .skip
 (.seq
 (.reg [.p (o2 (eqG eqSV false) r12 (ctK (.str 3 7104627))) pushW, .p (o1 mvG l0) w76])
 (.cond r76
 .skip
 (.reg [.p (o2 (eqG eqSV false) r12 (ctK (.str 3 7497843))) pushW, .p (o1 mvG l0) w76])))))))))
 (.cond r76
 (.seq
 (.drw [.p (o1 (loadnG 3) r2) pushW, .p (o1 (loadnG 3) r2) pushW, .p (bslO 1 2 [(.int .i64 (Int.ofNat 0)), (.int .i64 (Int.ofNat 0))] [(0, 1, (ctK (.int .i64 (Int.ofNat 2)))), (1, 1, (ctK (.int .i64 (Int.ofNat 2))))]) pushW, .m (callO 71 [l1, l0]) pushW (some [2]), .m (callO 70 [l3, (ctK (.int .i64 (Int.ofNat 2))), l0]) pushW (some []), .p (o1 (extG 0) l0) pushW, .p (o1 (extG 1) l1) pushW, .p (o1 mvG l1) w4, .p (o1 mvG l0) w5] [])
 .ret)
 (.seq
 (.reg [.p (o2 (eqG eqSV false) r12 (ctK (.str 3 7627107))) pushW, .p (o1 mvG l0) w89])
 (.cond r89
 (.seq
 (.drw [.p (o1 (loadnG 3) r2) pushW, .p (o1 (loadnG 3) r2) pushW, .p (bslO 1 2 [(.int .i64 (Int.ofNat 0)), (.int .i64 (Int.ofNat 0))] [(0, 1, (ctK (.int .i64 (Int.ofNat 3)))), (1, 1, (ctK (.int .i64 (Int.ofNat 3))))]) pushW, .m (callO 71 [l1, l0]) pushW (some [2]), .m (callO 70 [l3, (ctK (.int .i64 (Int.ofNat 3))), l0]) pushW (some []), .p (o1 (extG 0) l0) pushW, .p (o1 (extG 1) l1) pushW, .p (o1 mvG l1) w4, .p (o1 mvG l0) w5] [])
 .ret)
 (.seq
 (.reg [.p (o2 (eqG eqSV false) r12 (ctK (.str 4 1954047348))) pushW, .p (o1 mvG l0) w98])
 (.cond r98
 (.seq
 (.reg [.p (o1 (loadnG 3) r2) pushW, .p (o2 (eqG eqIV false) r6 (ctK (.int .i64 (Int.ofNat 2)))) pushW, .g l0 false false none (o1 mvG r6) pushW, .g l1 false false none (o2 (eqG eqIV false) l0 (ctK (.int .i64 (Int.ofNat 1)))) pushW, .p (o3 pickG l2 (ctK (.bool true)) l0) pushW, .p (callO 70 [l4, (ctK (.int .i64 (Int.ofNat 3))), l0]) pushW, .p (o1 (extG 0) l0) pushW, .p (o1 (extG 1) l1) pushW, .p (o1 mvG l1) w4, .p (o1 mvG l0) w5])
 .ret)
 (.seq
 (.reg [.p (o2 (eqG eqSV false) r12 (ctK (.str 2 29793))) pushW, .p (o1 mvG l0) w110])
 (.cond r110
 (.seq
 (.drw [.p (o1 (loadnG 3) r2) pushW, .p (o1 (loadnG 3) r2) pushW, .p (bslO 1 2 [(.int .i64 (Int.ofNat 0)), (.int .i64 (Int.ofNat 0))] [(0, 1, (ctK (.int .i64 (Int.ofNat 4)))), (1, 1, (ctK (.int .i64 (Int.ofNat 2))))]) pushW, .m (callO 71 [l1, l0]) pushW (some [2]), .m (callO 72 [l3, l0]) pushW (some []), .p (o1 (extG 0) l0) pushW, .p (o1 (extG 1) l1) pushW, .p (o1 mvG l1) w4, .p (o1 mvG l0) w5] [])
 .ret)
 (.seq
 (.reg [.p (o2 (eqG eqSV false) r12 (ctK (.str 3 7628135))) pushW, .p (o1 mvG l0) w119])
 (.cond r119
 (.seq
 (.reg [.p (o1 (loadnG 3) r2) pushW, .p (callO 73 [l0]) pushW, .p (o1 (extG 0) l0) pushW, .p (o1 (extG 1) l1) pushW, .p (o1 mvG l1) w4, .p (o1 mvG l0) w5])
 .ret)
 (.seq
 (.reg [.p (o2 (eqG eqSV false) r12 (ctK (.str 3 7561576))) pushW, .p (o1 mvG l0) w125])
 (.cond r125
 (.seq
 (.drw [.p (o1 (loadnG 3) r2) pushW, .p (o1 (loadnG 3) r2) pushW, .p (bslO 1 1 [(.int .i64 (Int.ofNat 0))] [(0, 1, (ctK (.int .i64 (Int.ofNat 6))))]) pushW, .m (callO 71 [l1, l0]) pushW (some [2]), .m (callO 70 [l3, (ctK (.int .i64 (Int.ofNat 1))), l0]) pushW (some []), .p (o1 (extG 0) l0) pushW, .p (o1 (extG 1) l1) pushW, .p (o1 mvG l1) w4, .p (o1 mvG l0) w5] [])
 .ret)
 (.seq
 (.reg [.p (o2 (eqG eqSV false) r12 (ctK (.str 6 111546414232175))) pushW, .p (o1 mvG l0) w134])
 (.cond r134
 (.seq
 (.drw [.p (o1 (loadnG 3) r2) pushW, .p (o1 (loadnG 3) r2) pushW, .p (bslO 1 1 [(.int .i64 (Int.ofNat 0))] [(0, 1, (ctK (.int .i64 (Int.ofNat 6))))]) pushW, .m (callO 71 [l1, l0]) pushW (some [2]), .g l0 true false none (o1 (faddrG 1) r2) pushW, .g l1 true false none (o1 load1G l0) pushW, .g l2 true false none (o2 (iaddrG 4) l0 (ctK (.int .i64 (Int.ofNat 0)))) pushW, .g l3 true false none (o1 (faddrG 3) l0) pushW, .g l4 true false none (o1 load1G l0) pushW, .g l5 true false none (o1 lenLG l0) pushW, .g l6 true false none (o2 (eqG eqIV false) l0 (ctK (.int .i64 (Int.ofNat 1)))) pushW, .p (o3 pickG l7 l0 (ctK (.bool false))) pushW, .g l0 true false none (o1 (faddrG 2) r2) pushW, .g l1 true false none (o1 load1G l0) pushW, .g l2 true false none (o2 (iaddrG 1) l0 (ctK (.int .i64 (Int.ofNat 1)))) pushW, .g l3 true false none (o1 load1G l0) pushW, .g l4 true false none (o1 (faddrG 1) r2) pushW, .g l5 true false none (o1 load1G l0) pushW, .g l6 true false none (o2 (iaddrG 4) l0 (ctK (.int .i64 (Int.ofNat 0)))) pushW, .g l7 true false none (o1 (faddrG 3) l0) pushW, .g l8 true false none (o1 load1G l0) pushW, .g l9 true false none (o2 (iaddrG 1) l0 (ctK (.int .i64 (Int.ofNat 0)))) pushW, .g l10 true false none (o1 load1G l0) pushW, .g l11 true false none (o2 (eqG eqIV false) l7 l0) pushW, .p (o3 pickG l12 l0 (ctK (.bool false))) pushW, .m (callO 72 [l24, l0]) pushW (some []), .p (o1 (extG 0) l0) pushW, .p (o1 (extG 1) l1) pushW, .p (o1 mvG l1) w4, .p (o1 mvG l0) w5] [])
 .ret)
 .skip))))))))))))))))))))))))))
 (.seq
 (.drw [.p (o1 (loadnG 3) r2) pushW, .p (o1 (loadnG 3) r2) pushW, .p (bslO 1 1 [(.int .i64 (Int.ofNat 0))] [(0, 1, (ctK (.int .i64 (Int.ofNat 2))))]) pushW, .m (callO 71 [l1, l0]) pushW (some [2]), .m (callO 70 [l3, (ctK (.int .i64 (Int.ofNat 2))), l0]) pushW (some []), .p (o1 (extG 0) l0) pushW, .p (o1 (extG 1) l1) pushW, .p (o1 mvG l1) w4, .p (o1 mvG l0) w5] [])
 .ret)))) }
theorem kf55_ok : (compFn Try.prog Try.f55 [[2], [2, 6, 12, 38], [2, 6, 12, 76]]).bind (toKFn [7, 8, 9, 10, 11, 14, 15, 16, 17, 18, 19, 20, 21, 22, 23, 24, 25, 26, 27, 28, 30, 31, 32, 33, 34, 35, 36, 37, 39, 40, 41, 42, 43, 44, 45, 46, 47, 49, 50, 51, 52, 53, 54, 55, 56, 57, 58, 59, 60, 61, 62, 63, 64, 65, 66, 68, 69, 70, 71, 72, 73, 74, 75, 77, 78, 79, 80, 81, 82, 83, 84, 85, 86, 87, 88, 90, 91, 92, 93, 94, 95, 96, 97, 99, 100, 101, 102, 103, 104, 105, 106, 107, 108, 109, 111, 112, 113, 114, 115, 116, 117, 118, 120, 121, 122, 123, 124, 126, 127, 128, 129, 130, 131, 132, 133, 135, 136, 137, 138, 139, 140, 141, 142, 143, 144, 145, 146, 147, 148, 149, 150, 151, 152, 153, 154, 155, 156, 157, 158, 159, 160, 161, 162, 163, 164, 165, 166, 167, 168, 169, 170, 171, 172] 2) = some kf55 := by kernel_rfl
noncomputable def kf70 : KFn := { params := [w0, w1, w2], res := [(.s r6), (.s r7)], body :=
 (.seq
 (.reg [.p (o1 boxG r0) w3, .p (o1 mvG (ctK (.int .i64 (Int.ofNat 0)))) w6, .p (o1 mvG (ctK (.int .i64 (Int.ofNat 0)))) w7])
 (.seq
 (.seq
 (.reg [.p (o1 notG r2) w9])
 (.cond r9
 (.seq
 (.reg [.p (o1 mvG (ctK (.int .i64 (Int.ofNat 0)))) w6, .p (o1 mvG (ctK (.int .i64 (Int.ofNat 17)))) w7])
 .ret)
 .skip))
 (.seq
 (.reg [.p (o1 (faddrG 0) r3) pushW, .p (o1 load1G l0) pushW, .p (callO 30 [l0, r1]) pushW, .p (o1 (extG 0) l0) pushW, .p (o1 (extG 1) l1) pushW, .p (o1 mvG l1) w6, .p (o1 mvG l0) w7])
 .ret))) }
theorem kf70_ok : (compFn Try.prog Try.f70 [[1, 3]]).bind (toKFn [8, 10, 11, 12, 13, 14, 15] 3) = some kf70 := by kernel_rfl
noncomputable def kf71 : KFn := { params := [w0, w1], res := [(.s r4)], body :=
 (.seq
 (.reg [.p (o1 boxG r0) w2, .p (o1 mvG (ctK (.bool false))) w4])
 (.seq
 (.seq
 (.reg [.p (o1 mvG r1) w7, .p (o1 lenLG r7) w8, .p (o1 mvG (ctK (.int .i64 (Int.ofNat 0)))) w9])
 (.block 0
 (.loop
 (.seq
 (.reg [.p (o2 (binG (cmpB .lss ltI)) r9 r8) w10])
 (.seq
 (.cond r10
 .skip
 (.exit 0))
 (.seq
 (.block 1
 (.seq
 (.reg [.p (o2 (iaddrG 1) r7 r9) pushW, .p (o1 load1G l0) pushW, .p (o1 mvG r9) w5, .p (o1 mvG l0) w6])
 (.seq
 (.reg [.p (o1 (faddrG 1) r2) pushW, .p (o1 load1G l0) pushW, .p (o2 (iaddrG 4) l0 r5) pushW, .p (o1 (faddrG 0) l0) pushW, .p (o1 load1G l0) pushW, .p (o2 (eqG eqIV true) l0 r6) w21])
 (.cond r21
 (.seq
 (.reg [.p (o1 mvG (ctK (.bool false))) w4])
 .ret)
 .skip))))
 (.reg [.p (o2 (binG addB) r9 (ctK (.int .i64 (Int.ofNat 1)))) pushW, .p (o1 mvG l0) w9])))))))
 (.seq
 (.reg [.p (o1 mvG (ctK (.bool true))) w4])
 .ret))) }
theorem kf71_ok : (compFn Try.prog Try.f71 [[], [2, 7, 8, 9], [2, 7, 8, 9], [2, 7, 8, 9]]).bind (toKFn [11, 12, 13, 14, 15, 16, 17, 18, 19, 20, 22] 2) = some kf71 := by kernel_rfl
noncomputable def kf72 : KFn := { params := [w0, w1], res := [(.s r4), (.s r5)], body :=
 (.seq
 (.reg [.p (o1 boxG r0) w2, .p (o1 mvG (ctK (.int .i64 (Int.ofNat 0)))) w4, .p (o1 mvG (ctK (.int .i64 (Int.ofNat 0)))) w5])
 (.seq
 (.seq
 (.reg [.p (o1 notG r1) pushW, .g l0 false false none (o1 (faddrG 1) r2) pushW, .g l1 false false none (o1 load1G l0) pushW, .g l2 false false none (o2 (iaddrG 4) l0 (ctK (.int .i64 (Int.ofNat 0)))) pushW, .g l3 false false none (o1 (faddrG 3) l0) pushW, .g l4 false false none (o1 load1G l0) pushW, .g l5 false false none (o1 lenLG l0) pushW, .g l6 false false none (o2 (eqG eqIV false) l0 (ctK (.int .i64 (Int.ofNat 0)))) pushW, .p (o3 pickG l7 (ctK (.bool true)) l0) w16])
 (.cond r16
 (.seq
 (.reg [.p (o1 mvG (ctK (.int .i64 (Int.ofNat 0)))) w4, .p (o1 mvG (ctK (.int .i64 (Int.ofNat 17)))) w5])
 .ret)
 .skip))
 (.seq
 (.reg [.p (o1 (faddrG 1) r2) pushW, .p (o1 load1G l0) pushW, .p (o2 (iaddrG 4) l0 (ctK (.int .i64 (Int.ofNat 0)))) pushW, .p (o1 (faddrG 3) l0) pushW, .p (o1 load1G l0) pushW, .p (o2 (iaddrG 1) l0 (ctK (.int .i64 (Int.ofNat 0)))) pushW, .p (o1 load1G l0) pushW, .p (o1 mvG l0) w4, .p (o1 mvG (ctK (.int .i64 (Int.ofNat 0)))) w5])
 .ret))) }
theorem kf72_ok : (compFn Try.prog Try.f72 [[2]]).bind (toKFn [6, 7, 8, 9, 10, 11, 12, 13, 14, 15, 17, 18, 19, 20, 21, 22, 23] 2) = some kf72 := by kernel_rfl
noncomputable def kf73 : KFn := { params := [w0], res := [(.s r2), (.s r3)], body :=
 (.seq
 (.reg [.p (o1 boxG r0) w1, .p (o1 mvG (ctK (.int .i64 (Int.ofNat 0)))) w2, .p (o1 mvG (ctK (.int .i64 (Int.ofNat 0)))) w3])
 (.seq
 (.drw [.p (o1 (loadnG 3) r1) pushW, .p (o1 (loadnG 3) r1) pushW, .p (bslO 1 2 [(.int .i64 (Int.ofNat 0)), (.int .i64 (Int.ofNat 0))] [(0, 1, (ctK (.int .i64 (Int.ofNat 5)))), (1, 1, (ctK (.int .i64 (Int.ofNat 3))))]) pushW, .m (callO 71 [l1, l0]) pushW (some [1]), .m (callO 72 [l3, l0]) pushW (some []), .p (o1 (extG 0) l0) pushW, .p (o1 (extG 1) l1) pushW, .p (o1 mvG l1) w4, .p (o1 mvG l0) w5] [])
 (.seq
 (.seq
 (.reg [.p (o2 (eqG eqIV true) r5 (ctK (.int .i64 (Int.ofNat 0)))) w19])
 (.cond r19
 (.seq
 (.reg [.p (o1 mvG (ctK (.int .i64 (Int.ofNat 0)))) w2, .p (o1 mvG r5) w3])
 .ret)
 .skip))
 (.seq
 (.reg [.p (o1 (faddrG 0) r1) pushW, .p (o1 load1G l0) pushW, .p (callO 54 [l0, r4]) pushW, .p (o1 (extG 0) l0) pushW, .p (o1 (extG 1) l1) pushW, .p (o1 mvG l1) w6])
 (.seq
 (.seq
 (.reg [.p (o1 (faddrG 0) r1) pushW, .p (o1 load1G l0) pushW, .p (callO 13 [l0, r6]) pushW, .p (o1 (extG 0) l0) pushW, .p (o1 (extG 1) l1) pushW, .p (allocO [(.int .i64 (Int.ofNat 0)), (.str 0 0), .snil, .snil]) w8, .p (o2 (storeG 4) r8 l1) noW])
 (.seq
 (.reg [.p (o1 (faddrG 0) r8) pushW, .p (o1 load1G l0) pushW, .p (o2 (eqG eqIV false) l0 (ctK (.int .i64 (Int.ofNat 6)))) w37])
 (.cond r37
 (.seq
 (.reg [.p (o1 mvG (ctK (.int .i64 (Int.ofNat 0)))) w2, .p (o1 mvG (ctK (.int .i64 (Int.ofNat 17)))) w3])
 .ret)
 .skip)))
 (.seq
 (.reg [.p (o1 (faddrG 0) r1) pushW, .p (o1 load1G l0) pushW, .p (callO 83 [l0, r4]) pushW, .p (o1 (extG 0) l0) pushW, .p (o1 (extG 1) l1) pushW, .p (o1 mvG l1) w2, .p (o1 mvG l0) w3])
 .ret)))))) }
theorem kf73_ok : (compFn Try.prog Try.f73 [[1, 4], [1, 4]]).bind (toKFn [7, 9, 10, 11, 12, 13, 14, 15, 16, 17, 18, 20, 21, 22, 23, 24, 25, 26, 27, 28, 29, 30, 31, 32, 33, 34, 35, 36, 38, 39, 40, 41, 42, 43] 1) = some kf73 := by kernel_rfl
noncomputable def kf83 : KFn := { params := [w0, w1], res := [(.s r4), (.s r5)], body :=
 (.seq
 (.reg [.p (o1 mvG (ctK (.int .i64 (Int.ofNat 0)))) w4, .p (o1 mvG (ctK (.int .i64 (Int.ofNat 0)))) w5])
 (.seq
 (.reg [.p (bslO 1 1 [(.int .i64 (Int.ofNat 0))] [(0, 1, r1)]) pushW, .p (buildO [(.int .i64 (Int.ofNat 0)), (.str 0 0), .snil, .snil] [(0, 1, (ctK (.int .i64 (Int.ofNat 6)))), (3, 1, l0)]) pushW, .p (callO 56 [r0, l0]) pushW, .p (o1 (extG 0) l0) pushW, .p (o1 (extG 1) l1) pushW, .p (o1 mvG l1) w4, .p (o1 mvG l0) w5])
 .ret)) }
theorem kf83_ok : (compFn Try.prog Try.f83 []).bind (toKFn [6, 7, 8, 9, 10, 11, 12] 2) = some kf83 := by kernel_rfl
noncomputable def kf31 : KFn := { params := [w0, w1, w2], res := [(.s r6), (.s r7)], body :=
 (.seq
 (.reg [.p (o1 boxG r0) w3, .p (o1 boxG r2) w5, .p (o1 mvG (ctK (.int .i64 (Int.ofNat 0)))) w6, .p (o1 mvG (ctK (.int .i64 (Int.ofNat 0)))) w7])
 (.seq
 (.reg [.p (o1 (loadnG 3) r3) pushW, .p (o1 (faddrG 1) r5) pushW, .p (o1 load1G l0) pushW, .p (callO 57 [l2, l0]) pushW, .p (o1 (extG 0) l0) pushW, .p (o1 (extG 1) l1) pushW, .p (o1 mvG l1) w8, .p (o1 mvG l0) w9])
 (.seq
 (.seq
 (.reg [.p (o1 notG r9) w27])
 (.cond r27
 (.seq
 (.reg [.p (o1 mvG (ctK (.int .i64 (Int.ofNat 0)))) w6, .p (o1 mvG (ctK (.int .i64 (Int.ofNat 15)))) w7])
 .ret)
 .skip))
 (.seq
 (.reg [.p (o1 (loadnG 3) r3) pushW, .p (o1 (faddrG 2) r5) pushW, .p (o1 load1G l0) pushW, .p (callO 58 [l2, r8, l0]) pushW, .p (o1 (extG 0) l0) pushW, .p (o1 (extG 1) l1) pushW, .p (o1 mvG l1) w10, .p (o1 mvG l0) w11])
 (.seq
 (.seq
 (.reg [.p (o1 (faddrG 2) r5) pushW, .p (o1 load1G l0) pushW, .p (cutLO 1 l0 (some r11) none none) w39, .p (o1 lenLG r39) w40, .p (o1 mvG (ctK (.int .i64 (Int.ofNat 0)))) w41])
 (.block 0
 (.loop
 (.seq
 (.reg [.p (o2 (binG (cmpB .lss ltI)) r41 r40) w42])
 (.seq
 (.cond r42
 .skip
 (.exit 0))
 (.seq
 (.block 1
 (.seq
 (.reg [.p (o2 (iaddrG 1) r39 r41) pushW, .p (o1 load1G l0) pushW, .p (o1 mvG l0) w13])
 (.seq
 (.reg [.p (callO 54 [r1, r10]) pushW, .p (o1 (extG 0) l0) pushW, .p (o1 (extG 1) l1) pushW, .p (o1 mvG l1) w14])
 (.seq
 (.reg [.p (callO 13 [r1, r14]) pushW, .p (o1 (extG 0) l0) pushW, .p (o1 (extG 1) l1) pushW, .p (allocO [(.int .i64 (Int.ofNat 0)), (.str 0 0), .snil, .snil]) w16, .p (o2 (storeG 4) r16 l1) noW])
 (.seq
 (.reg [.p (o1 (faddrG 2) r16) pushW, .p (o1 load1G l0) pushW, .p (callO 59 [l0, r13]) pushW, .p (o1 mvG l0) w18])
 (.seq
 (.seq
 (.reg [.p (o1 (faddrG 0) r16) pushW, .p (o1 load1G l0) pushW, .p (o2 (eqG eqIV true) l0 (ctK (.int .i64 (Int.ofNat 7)))) pushW, .g l0 false false none (o1 mvG r18) pushW, .g l1 false false none (o2 (binG (cmpB .lss ltI)) l0 (ctK (.int .i64 (Int.ofNat 0)))) pushW, .p (o3 pickG l2 (ctK (.bool true)) l0) pushW, .g l0 false false none (o1 mvG r18) pushW, .g l1 false false none (o1 (faddrG 3) r16) pushW, .g l2 false false none (o1 load1G l0) pushW, .g l3 false false none (o1 lenLG l0) pushW, .g l4 false false none (o2 (binG (cmpB .geq geI)) l3 l0) pushW, .p (o3 pickG l5 (ctK (.bool true)) l0) w74])
 (.cond r74
 (.seq
 (.reg [.p (o1 mvG (ctK (.int .i64 (Int.ofNat 0)))) w6, .p (o1 mvG (ctK (.int .i64 (Int.ofNat 16)))) w7])
 .ret)
 .skip))
 (.reg [.p (o1 (faddrG 3) r16) pushW, .p (o1 load1G l0) pushW, .p (o2 (iaddrG 1) l0 r18) pushW, .p (o1 load1G l0) pushW, .p (o1 mvG l0) w10])))))))
 (.reg [.p (o2 (binG addB) r41 (ctK (.int .i64 (Int.ofNat 1)))) pushW, .p (o1 mvG l0) w41])))))))
 (.seq
 (.reg [.p (o1 mvG r10) w6, .p (o1 mvG (ctK (.int .i64 (Int.ofNat 0)))) w7])
 .ret)))))) }
theorem kf31_ok : (compFn Try.prog Try.f31 [[1, 3, 5, 8], [10], [1, 10, 39, 40, 41], [1, 10, 39, 40, 41], [1, 10, 39, 40, 41], [1, 16, 18, 39, 40, 41]]).bind (toKFn [15, 17, 19, 20, 21, 22, 23, 24, 25, 26, 28, 29, 30, 31, 32, 33, 34, 35, 36, 37, 38, 43, 44, 45, 46, 47, 48, 49, 50, 51, 52, 53, 54, 55, 56, 57, 58, 59, 60, 61, 62, 63, 64, 65, 66, 67, 68, 69, 70, 71, 72, 73, 75, 76, 77, 78, 79, 80, 81] 3) = some kf31 := by kernel_rfl
noncomputable def kf58 : KFn := { params := [w0, w1, w2], res := [(.s r6), (.s r7)], body :=
 (.seq
 (.reg [.p (o1 boxG r0) w3, .p (o1 mvG (ctK (.int .i64 (Int.ofNat 0)))) w6, .p (o1 mvG (ctK (.int .i64 (Int.ofNat 0)))) w7])
 (.seq
 (.reg [.p (o1 (faddrG 0) r3) pushW, .p (o1 load1G l0) pushW, .p (o1 mvG l0) w8, .p (o1 mvG (ctK (.int .i64 (Int.ofNat 0)))) w9])
 (.seq
 (.seq
 (.reg [.p (o2 (eqG eqIV true) r1 (ctK (.int .i64 (Int.negSucc 0)))) w15])
 (.cond r15
 (.reg [.p (o1 (faddrG 1) r3) pushW, .p (o1 load1G l0) pushW, .p (o2 (iaddrG 2) l0 r1) pushW, .p (o1 (faddrG 1) l0) pushW, .p (o1 load1G l0) pushW, .p (o1 mvG l0) w8])
 .skip))
 (.seq
 (.seq
 (.reg [.p (o1 (faddrG 2) r3) pushW, .p (o1 load1G l0) w23, .p (o1 lenLG r23) w24, .p (o1 mvG (ctK (.int .i64 (Int.ofNat 0)))) w25])
 (.block 0
 (.loop
 (.seq
 (.reg [.p (o2 (binG (cmpB .lss ltI)) r25 r24) w26])
 (.seq
 (.cond r26
 .skip
 (.exit 0))
 (.seq
 (.block 1
 (.seq
 (.reg [.p (o2 (iaddrG 3) r23 r25) pushW, .p (o1 (loadnG 3) l0) pushW, .p (allocO [(.int .i64 (Int.ofNat 0)), .snil, (.int .i64 (Int.ofNat 0))]) w11, .p (o2 (storeG 3) r11 l0) noW])
 (.seq
 (.drw [.p (o1 (faddrG 0) r11) pushW, .p (o1 load1G l0) pushW, .p (o2 (eqG eqIV false) l0 r1) pushW, .g l0 true false none (o1 (faddrG 1) r11) pushW, .g l1 true false none (o1 load1G l0) pushW, .g l2 true false none (o1 lenLG l0) pushW, .g l3 true false none (o1 mvG r9) pushW, .g l4 true false none (o2 (binG (cmpB .geq geI)) l1 l0) pushW, .p (o3 pickG l5 l0 (ctK (.bool false))) pushW, .g l0 true false none (o1 (faddrG 1) r11) pushW, .g l1 true false none (o1 load1G l0) pushW, .g l2 true false none (o1 lenLG l0) pushW, .g l3 true false none (o1 mvG r2) pushW, .g l4 true false none (o1 lenLG l0) pushW, .g l5 true false none (o2 (binG (cmpB .leq leI)) l2 l0) pushW, .p (o3 pickG l6 l0 (ctK (.bool false))) pushW, .g l0 true false none (o1 (faddrG 1) r11) pushW, .g l1 true false none (o1 load1G l0) pushW, .g l2 true false none (o1 mvG r2) pushW, .g l3 true false none (o1 (faddrG 1) r11) pushW, .g l4 true false none (o1 load1G l0) pushW, .g l5 true false none (o1 lenLG l0) pushW, .g l6 true false none (cutLO 1 l3 none (some l0) none) pushW, .g l7 true true (some []) (callO 76 [l5, l0]) pushW, .p (o3 pickG l8 l0 (ctK (.bool false))) w57] [])
 (.cond r57
 (.drw [.p (o1 (faddrG 2) r11) pushW, .p (o1 load1G l0) pushW, .p (o1 (faddrG 1) r11) pushW, .p (o1 load1G l0) pushW, .p (o1 lenLG l0) pushW, .p (o1 mvG l3) w8, .p (o1 mvG l0) w9] [])
 .skip))))
 (.reg [.p (o2 (binG addB) r25 (ctK (.int .i64 (Int.ofNat 1)))) pushW, .p (o1 mvG l0) w25])))))))
 (.seq
 (.reg [.p (o1 mvG r8) w6, .p (o1 mvG r9) w7])
 .ret))))) }
theorem kf58_ok : (compFn Try.prog Try.f58 [[1, 2, 3, 8, 9], [8, 9], [1, 2, 8, 9, 23, 24, 25], [1, 2, 8, 9, 23, 24, 25], [1, 2, 8, 9, 23, 24, 25]]).bind (toKFn [12, 13, 14, 16, 17, 18, 19, 20, 21, 22, 27, 28, 29, 30, 31, 32, 33, 34, 35, 36, 37, 38, 39, 40, 41, 42, 43, 44, 45, 46, 47, 48, 49, 50, 51, 52, 53, 54, 55, 56, 58, 59, 60, 61, 62, 63, 64, 65] 3) = some kf58 := by kernel_rfl
noncomputable def kf76 : KFn := { params := [w0, w1], res := [(.s r4)], body :=
 (.seq
 (.reg [.p (o1 mvG (ctK (.bool false))) w4])
 (.seq
 (.seq
 (.reg [.p (o1 lenLG r0) pushW, .p (o1 lenLG r1) pushW, .p (o2 (eqG eqIV true) l1 l0) w10])
 (.cond r10
 (.seq
 (.reg [.p (o1 mvG (ctK (.bool false))) w4])
 .ret)
 .skip))
 (.seq
 (.seq
 (.reg [.p (o1 lenLG r0) w12, .p (o1 mvG (ctK (.int .i64 (Int.ofNat 0)))) w13])
 (.block 0
 (.loop
 (.seq
 (.reg [.p (o2 (binG (cmpB .lss ltI)) r13 r12) w14])
 (.seq
 (.cond r14
 .skip
 (.exit 0))
 (.seq
 (.block 1
 (.seq
 (.reg [.p (o1 mvG r13) w5])
 (.seq
 (.drw [.p (o2 (iaddrG 1) r0 r5) pushW, .p (o1 load1G l0) pushW, .p (o2 (iaddrG 1) r1 r5) pushW, .p (o1 load1G l0) pushW, .p (o2 (eqG eqSV true) l2 l0) w24] [])
 (.cond r24
 (.seq
 (.reg [.p (o1 mvG (ctK (.bool false))) w4])
 .ret)
 .skip))))
 (.reg [.p (o2 (binG addB) r13 (ctK (.int .i64 (Int.ofNat 1)))) pushW, .p (o1 mvG l0) w13])))))))
 (.seq
 (.reg [.p (o1 mvG (ctK (.bool true))) w4])
 .ret)))) }
theorem kf76_ok : (compFn Try.prog Try.f76 [[0, 1], [], [0, 1, 12, 13], [0, 1, 12, 13], [0, 1, 12, 13]]).bind (toKFn [6, 7, 8, 9, 11, 15, 16, 17, 18, 19, 20, 21, 22, 23, 25] 2) = some kf76 := by kernel_rfl
noncomputable def kf5 : KFn := { params := [], res := [(.s r0), (.cn r1 3)], body :=
 (.seq
 (.reg [.p (o1 mvG (ctK .pnil)) w0, .p (allocO [(.int .i64 (Int.ofNat 0)), .snil, .snil]) w1])
 (.seq
 (.reg [.p (buildO [(.int .i64 (Int.ofNat 0)), (.str 0 0), .snil, .snil] [(0, 1, (ctK (.int .i64 (Int.ofNat 2))))]) pushW, .p (buildO [(.int .i64 (Int.ofNat 0)), (.str 0 0), .snil, .snil] [(0, 1, (ctK (.int .i64 (Int.ofNat 3))))]) pushW, .p (buildO [(.int .i64 (Int.ofNat 0)), (.str 0 0), .snil, .snil] [(0, 1, (ctK (.int .i64 (Int.ofNat 1))))]) pushW, .p (allocO [(.int .i64 (Int.ofNat 0)), (.str 0 0), .snil, .snil]) w2, .p (allocO [(.int .i64 (Int.ofNat 0)), (.str 0 0), .snil, .snil]) w3, .p (allocO [(.int .i64 (Int.ofNat 0)), (.str 0 0), .snil, .snil]) w4, .p (o2 (storeG 4) r2 l2) noW, .p (o2 (storeG 4) r3 l1) noW, .p (o2 (storeG 4) r4 l0) noW])
 (.seq
 (.reg [.p (bslO 1 6 [(.str 0 0), (.str 0 0), (.str 0 0), (.str 0 0), (.str 0 0), (.str 0 0)] [(0, 1, (ctK (.str 1 98))), (1, 1, (ctK (.str 1 105))), (2, 1, (ctK (.str 1 108))), (3, 1, (ctK (.str 1 111))), (4, 1, (ctK (.str 1 114))), (5, 1, (ctK (.str 1 116)))]) pushW, .p (o1 (loadnG 4) r4) pushW, .p (o1 (loadnG 4) r2) pushW, .p (o1 (loadnG 4) r2) pushW, .p (bslO 4 1 [(.int .i64 (Int.ofNat 0)), (.str 0 0), .snil, .snil] [(0, 4, l0)]) pushW, .p (buildO [(.int .i64 (Int.ofNat 0)), (.str 0 0), .snil, .snil] [(0, 1, (ctK (.int .i64 (Int.ofNat 4)))), (3, 1, l0)]) pushW, .p (o1 (loadnG 4) r2) pushW, .p (bslO 4 1 [(.int .i64 (Int.ofNat 0)), (.str 0 0), .snil, .snil] [(0, 4, l0)]) pushW, .p (buildO [(.int .i64 (Int.ofNat 0)), (.str 0 0), .snil, .snil] [(0, 1, (ctK (.int .i64 (Int.ofNat 6)))), (3, 1, l0)]) pushW, .p (bslO 1 2 [(.str 0 0), (.str 0 0)] [(0, 1, (ctK (.str 1 105))), (1, 1, (ctK (.str 1 116)))]) pushW, .p (o1 (loadnG 4) r3) pushW, .p (o1 (loadnG 4) r2) pushW, .p (bslO 4 2 [(.int .i64 (Int.ofNat 0)), (.str 0 0), .snil, .snil, (.int .i64 (Int.ofNat 0)), (.str 0 0), .snil, .snil] [(0, 4, l1), (4, 4, l0)]) pushW, .p (buildO [(.int .i64 (Int.ofNat 0)), (.str 0 0), .snil, .snil] [(0, 1, (ctK (.int .i64 (Int.ofNat 7)))), (2, 1, l3), (3, 1, l0)]) pushW, .p (o1 (loadnG 4) r3) pushW, .p (bslO 4 6 [(.int .i64 (Int.ofNat 0)), (.str 0 0), .snil, .snil, (.int .i64 (Int.ofNat 0)), (.str 0 0), .snil, .snil, (.int .i64 (Int.ofNat 0)), (.str 0 0), .snil, .snil, (.int .i64 (Int.ofNat 0)), (.str 0 0), .snil, .snil, (.int .i64 (Int.ofNat 0)), (.str 0 0), .snil, .snil, (.int .i64 (Int.ofNat 0)), (.str 0 0), .snil, .snil] [(0, 4, l13), (4, 4, l12), (8, 4, l9), (12, 4, l6), (16, 4, l1), (20, 4, l0)]) pushW, .p (buildO [(.int .i64 (Int.ofNat 0)), (.str 0 0), .snil, .snil] [(0, 1, (ctK (.int .i64 (Int.ofNat 7)))), (2, 1, l15), (3, 1, l0)]) pushW, .p (buildO [(.int .i64 (Int.ofNat 0)), (.str 0 0), .snil, .snil, .snil, .snil] [(0, 4, l0)]) pushW, .p (allocO [(.int .i64 (Int.ofNat 0)), (.str 0 0), .snil, .snil, .snil, .snil]) w5, .p (o2 (storeG 6) r5 l0) noW])
 (.seq
 (.reg [.p (o1 (loadnG 6) r5) pushW, .p (callO 11 [l0]) pushW, .p (o1 (extG 0) l0) pushW, .p (o1 (extG 1) l1) pushW, .p (o1 mvG l1) w6, .p (o1 mvG l0) w7])
 (.seq
 (.seq
 (.reg [.p (o2 (eqG eqIV true) r7 (ctK (.int .i64 (Int.ofNat 0)))) w35])
 (.cond r35
 (.seq
 (.reg [.p (buildO [(.int .i64 (Int.ofNat 0)), .snil, .snil] []) pushW, .p (o1 mvG (ctK .pnil)) w0, .p (o2 (storeG 3) r1 l0) noW])
 .ret)
 .skip))
 (.seq
 (.reg [.p (callO 12 [r6]) pushW, .p (buildO [(.int .i64 (Int.ofNat 0)), .snil, .snil] [(0, 1, l0)]) pushW, .p (o1 mvG r6) w0, .p (o2 (storeG 3) r1 l0) noW])
 .ret)))))) }
theorem kf5_ok : (compFn Try.prog Try.f5 [[1, 6]]).bind (toKFn [8, 9, 10, 11, 12, 13, 14, 15, 16, 17, 18, 19, 20, 21, 22, 23, 24, 25, 26, 27, 28, 29, 30, 31, 32, 33, 34, 36, 37, 38, 39, 40] 0) = some kf5 := by kernel_rfl
noncomputable def kf10 : KFn := { params := [w0, w1, w2], res := [(.s r6), (.s r7)], body :=
 (.seq
 (.reg [.p (o1 boxG r1) w4, .p (o1 mvG (ctK (.int .i64 (Int.ofNat 0)))) w6, .p (o1 mvG (ctK (.int .i64 (Int.ofNat 0)))) w7])
 (.seq
 (.reg [.p (callO 8 [r2]) pushW, .p (o1 (extG 0) l0) pushW, .p (o1 (extG 1) l1) pushW, .p (o1 mvG l1) w8, .p (o1 mvG l0) w9])
 (.seq
 (.seq
 (.reg [.p (o2 (eqG eqIV true) r9 (ctK (.int .i64 (Int.ofNat 0)))) w20])
 (.cond r20
 (.seq
 (.reg [.p (o1 mvG (ctK (.int .i64 (Int.ofNat 0)))) w6, .p (o1 mvG (ctK (.int .i64 (Int.ofNat 12)))) w7])
 .ret)
 .skip))
 (.seq
 (.reg [.p (o1 (loadnG 3) r4) pushW, .p (callO 9 [r0, l0, r8]) pushW, .p (o1 (extG 0) l0) pushW, .p (o1 (extG 1) l1) pushW, .p (o1 mvG l1) w10, .p (o1 mvG l0) w11])
 (.seq
 (.reg [.p (callO 13 [r0, r10]) pushW, .p (o1 (extG 0) l0) pushW, .p (o1 (extG 1) l1) pushW, .p (allocO [(.int .i64 (Int.ofNat 0)), (.str 0 0), .snil, .snil]) w12, .p (o2 (storeG 4) r12 l1) noW])
 (.seq
 (.seq
 (.reg [.p (o2 (eqG eqIV true) r11 (ctK (.int .i64 (Int.ofNat 0)))) w35])
 (.cond r35
 (.seq
 (.reg [.p (o1 mvG (ctK (.int .i64 (Int.ofNat 0)))) w6, .p (o1 mvG r11) w7])
 .ret)
 .skip))
 (.seq
 (.reg [.p (o1 (faddrG 0) r12) pushW, .p (o1 load1G l0) pushW, .p (o1 mvG l0) w6, .p (o1 mvG r11) w7])
 .ret))))))) }
theorem kf10_ok : (compFn Try.prog Try.f10 [[0, 4, 8], [11, 12]]).bind (toKFn [13, 14, 15, 16, 17, 18, 19, 21, 22, 23, 24, 25, 26, 27, 28, 29, 30, 31, 32, 33, 34, 36, 37, 38, 39] 3) = some kf10 := by kernel_rfl

theorem within6_calls (a n : Int) (w : World) (h0 : 0 < n) (h1 : n < 1000000) : Calls Try.prog 6 #[.int .i64 a, .int .i64 n] w fun e w' => e = .returned (.int .i64 (a % n)) ∧ Below w.heap.size w w' := by
  have hn : ¬n = 0 := by omega
  go_enter Try.func6, Try.ntmps6
  go_wp2
  all_goals go_ret
  all_goals refine ⟨?_, Below.refl _ _⟩
  all_goals have hb1 := Int.emod_nonneg a hn
  all_goals have hb2 := Int.emod_lt_of_pos a h0
  all_goals have hw : wrap64 (a % n) = a % n := by unfold wrap64; omega
  all_goals rename_i hc
  all_goals rcases tmod_cases a h0 with ⟨h3, h4⟩ | ⟨h3, h4⟩
  · exact absurd hc (by omega)
  · show Ending.returned (.int .i64 (wrap64 (a.tmod n + n))) = _
    rw [h4, hw]
  · show Ending.returned (.int .i64 (a.tmod n)) = _
    rw [h4]
  · exact absurd hc (by omega)
theorem mixed : Try.prog.follows .mixedOrders = true := by kernel_rfl
noncomputable def tabA : BT :=
  (.node 46 (.node 26 (.node 16 (.node 11 (.node 7 (.node 4 (.leaf 4 (compE 100000 Try.prog Try.f4 [[2, 4]] kf4))
  (.leaf 7 (compE 100000 Try.prog Try.f7 [] kf7)))
  (.node 8 (.leaf 8 (compE 100000 Try.prog Try.f8 [[4], [7]] kf8))
  (.node 9 (.leaf 9 (compE 100000 Try.prog Try.f9 [[8], [0, 4, 8, 13, 14, 15], [0, 4, 8, 13, 14, 15], [0, 4, 8, 13, 14, 15], [0, 4, 11, 12, 13, 14, 15], [0, 4, 11, 13, 14, 15], [8]] kf9))
  (.leaf 11 (compE 100000 Try.prog Try.f11 [[1], [1, 5], [1, 5, 30, 31, 32], [1, 5, 30, 31, 32], [1, 5, 30, 31, 32], [1, 5, 7, 8, 30, 31, 32], [1, 5, 10], [5], [5, 69, 70, 71], [5, 69, 70, 71], [5, 69, 70, 71], [5, 13, 14, 69, 70, 71], [5, 13, 14, 69, 70, 71, 86, 87, 88], [5, 13, 14, 69, 70, 71, 86, 87, 88], [5, 13, 14, 69, 70, 71, 86, 87, 88], [5, 13, 14, 17, 69, 70, 71, 86, 87, 88]] kf11)))))
  (.node 13 (.node 12 (.leaf 12 (compE 100000 Try.prog Try.f12 [] kf12))
  (.leaf 13 (compE 100000 Try.prog Try.f13 [[0, 1, 4]] kf13)))
  (.node 14 (.leaf 14 (compE 100000 Try.prog Try.f14 [[0], [4], [0, 4, 5], [0, 4, 5], [0, 4, 5], [0, 4, 6, 7], [4]] kf14))
  (.node 15 (.leaf 15 (compE 100000 Try.prog Try.f15 [[5], [0, 1, 5], [0, 1, 5]] kf15))
  (.leaf 16 (compE 100000 Try.prog Try.f16 [[0]] kf16))))))
  (.node 21 (.node 18 (.node 17 (.leaf 17 (compE 100000 Try.prog Try.f17 [[1, 3, 6, 10], [1, 3, 4, 6, 10, 26, 27, 28], [1, 3, 4, 6, 10, 26, 27, 28], [1, 3, 4, 6, 10, 26, 27, 28], [1, 3, 4, 6, 10, 11, 13, 26, 27, 28]] kf17))
  (.leaf 18 (compE 100000 Try.prog Try.f18 [[1, 3, 5]] kf18)))
  (.node 19 (.leaf 19 (compE 100000 Try.prog Try.f19 [[1], [1], [1, 4], [1, 4, 33, 34, 35], [1, 4, 33, 34, 35], [1, 4, 33, 34, 35], [1, 4], [1, 4], [1, 4], [1, 4, 62, 63, 64], [1, 4, 62, 63, 64], [1, 4, 62, 63, 64], []] kf19))
  (.node 20 (.leaf 20 (compE 100000 Try.prog Try.f20 [] kf20))
  (.leaf 21 (compE 100000 Try.prog Try.f21 [[0]] kf21)))))
  (.node 23 (.node 22 (.leaf 22 (compE 100000 Try.prog Try.f22 [[0]] kf22))
  (.leaf 23 (compE 100000 Try.prog Try.f23 [[0]] kf23)))
  (.node 24 (.leaf 24 (compE 100000 Try.prog Try.f24 [] kf24))
  (.node 25 (.leaf 25 (compE 100000 Try.prog Try.f25 [[0, 1, 4], [0, 1, 4, 7], [0, 1, 4, 7], [0, 1, 4, 7], [0, 1, 4, 7], [0, 1, 4, 7], [0, 1, 4, 7], [0, 1, 4, 7], [1, 4, 10, 11], [1, 4, 10, 11], [0, 1, 4], [4], [0, 1, 4, 12, 13], [0, 1, 4, 12, 13], [0, 1, 4, 12, 13]] kf25))
  (.leaf 26 (compE 100000 Try.prog Try.f26 [[0, 1, 4], [4, 5], [0, 1, 4, 5], [0, 1, 4, 5], [0, 1, 4, 5]] kf26)))))))
  (.node 36 (.node 31 (.node 28 (.node 27 (.leaf 27 (compE 100000 Try.prog Try.f27 [] kf27))
  (.leaf 28 (compE 100000 Try.prog Try.f28 [] kf28)))
  (.node 29 (.leaf 29 (compE 100000 Try.prog Try.f29 [[0, 1, 2, 8, 9, 11], [0, 1, 2, 8, 9], [0, 1, 2], [9], [0, 2, 9, 49, 50, 51], [0, 2, 9, 49, 50, 51], [0, 2, 9, 49, 50, 51], [1, 16], [0, 1, 16, 73, 74, 75], [0, 1, 16, 73, 74, 75], [0, 1, 16, 73, 74, 75], [0, 1, 16, 21, 73, 74, 75]] kf29))
  (.node 30 (.leaf 30 (compE 100000 Try.prog Try.f30 [] kf30))
  (.leaf 31 (compE 100000 Try.prog Try.f31 [[1, 3, 5, 8], [10], [1, 10, 39, 40, 41], [1, 10, 39, 40, 41], [1, 10, 39, 40, 41], [1, 16, 18, 39, 40, 41]] kf31)))))
  (.node 33 (.node 32 (.leaf 32 (compE 100000 Try.prog Try.f32 [[], [0, 5, 6, 7], [0, 5, 6, 7], [0, 5, 6, 7]] kf32))
  (.leaf 33 (compE 100000 Try.prog Try.f33 [[3], [3, 8, 9, 10], [3, 8, 9, 10], [3, 8, 9, 10]] kf33)))
  (.node 34 (.leaf 34 (compE 100000 Try.prog Try.f34 [[0, 2, 4], [0, 2, 4], [], [0, 2, 98, 99, 100], [0, 2, 98, 99, 100], [0, 2, 98, 99, 100]] kf34))
  (.node 35 (.leaf 35 (compE 100000 Try.prog Try.f35 [[], [0, 1, 8, 9, 10], [0, 1, 8, 9, 10], [0, 1, 8, 9, 10], [0, 1, 6, 8, 9, 10]] kf35))
  (.leaf 36 (compE 100000 Try.prog Try.f36 [[2, 3, 5], [2, 3, 5, 16, 17, 18], [2, 3, 5, 16, 17, 18], [2, 3, 5, 16, 17, 18], [2, 3], [3, 8], [2, 3, 8, 38, 39], [2, 3, 8, 38, 39], [2, 3, 8, 38, 39], [2, 3, 8, 38, 39, 42, 43, 44], [2, 3, 8, 38, 39, 42, 43, 44], [2, 3, 8, 38, 39, 42, 43, 44]] kf36))))))
  (.node 41 (.node 38 (.node 37 (.leaf 37 (compE 100000 Try.prog Try.f37 [] kf37))
  (.leaf 38 (compE 100000 Try.prog Try.f38 [[1, 3], [1, 3, 9, 10, 11], [1, 3, 9, 10, 11], [1, 3, 9, 10, 11], [3], [3, 27, 28, 29], [3, 27, 28, 29], [3, 27, 28, 29]] kf38)))
  (.node 39 (.leaf 39 (compE 100000 Try.prog Try.f39 [[0, 3], [0, 3, 5], [0, 3, 5, 23], [0, 3, 5, 23]] kf39))
  (.node 40 (.leaf 40 (compE 100000 Try.prog Try.f40 [[0, 2, 4], [0, 8], [0, 2, 8, 42, 43, 44], [0, 2, 8, 42, 43, 44], [0, 2, 8, 42, 43, 44], [0, 2, 8, 11, 42, 43, 44]] kf40))
  (.leaf 41 (compE 100000 Try.prog Try.f41 [] kf41)))))
  (.node 43 (.node 42 (.leaf 42 (compE 100000 Try.prog Try.f42 [] kf42))
  (.leaf 43 (compE 100000 Try.prog Try.f43 [[0, 4], [0, 4], [0, 5], [0, 4, 5, 6], [0, 4, 5, 6], [0, 4, 5, 6], [5], [5], [5]] kf43)))
  (.node 44 (.leaf 44 (compE 100000 Try.prog Try.f44 [[], [0, 1, 6], [0, 1, 6], [0, 1, 6], [0, 1, 6], [0, 1, 6], [0, 1, 6, 46, 47]] kf44))
  (.node 45 (.leaf 45 (compE 100000 Try.prog Try.f45 [] kf45))
  (.leaf 46 (compE 100000 Try.prog Try.f46 [[], [4]] kf46))))))))
  (.node 66 (.node 56 (.node 51 (.node 48 (.node 47 (.leaf 47 (compE 100000 Try.prog Try.f47 [[0, 1, 4], [0, 4], [0, 1, 4], [4, 8]] kf47))
  (.leaf 48 (compE 100000 Try.prog Try.f48 [[0, 4]] kf48)))
  (.node 49 (.leaf 49 (compE 100000 Try.prog Try.f49 [] kf49))
  (.node 50 (.leaf 50 (compE 100000 Try.prog Try.f50 [[7]] kf50))
  (.leaf 51 (compE 100000 Try.prog Try.f51 [] kf51)))))
  (.node 53 (.node 52 (.leaf 52 (compE 100000 Try.prog Try.f52 [[], [], [], [3], [3, 4], [13]] kf52))
  (.leaf 53 (compE 100000 Try.prog Try.f53 [[0, 1, 2]] kf53)))
  (.node 54 (.leaf 54 (compE 100000 Try.prog Try.f54 [[], [0, 1, 13, 14], [0, 1, 13, 14], [0, 1, 13, 14], [0, 1, 13, 14], [0, 1, 13, 14], [0, 6, 13, 14]] kf54))
  (.node 55 (.leaf 55 (compE 100000 Try.prog Try.f55 [[2], [2, 6, 12, 38], [2, 6, 12, 76]] kf55))
  (.leaf 56 (compE 100000 Try.prog Try.f56 [[0, 3, 6], [0, 3, 6]] kf56))))))
  (.node 61 (.node 58 (.node 57 (.leaf 57 (hookSE placeG))
  (.leaf 58 (compE 100000 Try.prog Try.f58 [[1, 2, 3, 8, 9], [8, 9], [1, 2, 8, 9, 23, 24, 25], [1, 2, 8, 9, 23, 24, 25], [1, 2, 8, 9, 23, 24, 25]] kf58)))
  (.node 59 (.leaf 59 (compE 100000 Try.prog Try.f59 [[], [0, 1, 7, 8], [0, 1, 7, 8], [0, 1, 7, 8]] kf59))
  (.node 60 (.leaf 60 (compE 100000 Try.prog Try.f60 [] kf60))
  (.leaf 61 containsE))))
  (.node 63 (.node 62 (.leaf 62 (compE 100000 Try.prog Try.f62 [[], [1, 4, 5], [1, 9]] kf62))
  (.leaf 63 (compE 100000 Try.prog Try.f63 [[1], [1], [1, 10, 11, 12], [1, 10, 11, 12], [1, 10, 11, 12], []] kf63)))
  (.node 64 (.leaf 64 (compE 100000 Try.prog Try.f64 [[], [0, 8, 9, 10], [0, 8, 9, 10], [0, 8, 9, 10]] kf64))
  (.node 65 (.leaf 65 (compE 100000 Try.prog Try.f65 [[3, 4, 5], []] kf65))
  (.leaf 66 (compE 100000 Try.prog Try.f66 [[], [0, 1, 7, 8], [0, 1, 7, 8], [0, 1, 7, 8]] kf66)))))))
  (.node 77 (.node 71 (.node 68 (.node 67 (.leaf 67 (compE 100000 Try.prog Try.f67 [[5], [0, 1, 5], [0, 5]] kf67))
  (.leaf 68 (compE 100000 Try.prog Try.f68 [] kf68)))
  (.node 69 (.leaf 69 (compE 100000 Try.prog Try.f69 [[0, 1, 2, 7]] kf69))
  (.node 70 (.leaf 70 (compE 100000 Try.prog Try.f70 [[1, 3]] kf70))
  (.leaf 71 (compE 100000 Try.prog Try.f71 [[], [2, 7, 8, 9], [2, 7, 8, 9], [2, 7, 8, 9]] kf71)))))
  (.node 73 (.node 72 (.leaf 72 (compE 100000 Try.prog Try.f72 [[2]] kf72))
  (.leaf 73 (compE 100000 Try.prog Try.f73 [[1, 4], [1, 4]] kf73)))
  (.node 74 (.leaf 74 (compE 100000 Try.prog Try.f74 [] kf74))
  (.node 76 (.leaf 76 (compE 100000 Try.prog Try.f76 [[0, 1], [], [0, 1, 12, 13], [0, 1, 12, 13], [0, 1, 12, 13]] kf76))
  (.leaf 77 (compE 100000 Try.prog Try.f77 [] kf77))))))
  (.node 83 (.node 80 (.node 78 (.leaf 78 (compE 100000 Try.prog Try.f78 [] kf78))
  (.leaf 80 (compE 100000 Try.prog Try.f80 [] kf80)))
  (.node 81 (.leaf 81 (compE 100000 Try.prog Try.f81 [] kf81))
  (.node 82 (.leaf 82 (compE 100000 Try.prog Try.f82 [[0, 1, 2], [0, 9, 11]] kf82))
  (.leaf 83 (compE 100000 Try.prog Try.f83 [] kf83)))))
  (.node 86 (.node 85 (.leaf 85 (compE 100000 Try.prog Try.f85 [[0], [0, 1, 7], [0, 1, 7, 8]] kf85))
  (.leaf 86 (compE 100000 Try.prog Try.f86 [] kf86)))
  (.node 87 (.leaf 87 (compE 100000 Try.prog Try.f87 [] kf87))
  (.node 89 (.leaf 89 (compE 100000 Try.prog Try.f89 [[], [0, 3, 5, 6, 15, 16, 17], [0, 3, 5, 6, 15, 16, 17], [0, 3, 5, 6, 15, 16, 17], [0, 3, 5, 6, 9, 11, 15, 16, 17], [0, 3, 5, 6, 12, 13, 15, 16, 17]] kf89))
  (.leaf 90 (compE 100000 Try.prog Try.f90 [[], [0, 4, 5, 10, 11], [0, 4, 5, 10, 11], [0, 4, 5, 10, 11]] kf90)))))))))
theorem tabA_K : tabA.all fun _ e => BodyKOK e.k e.b := ⟨⟨⟨⟨⟨⟨compE_K kf4_ok, compE_K kf7_ok⟩, ⟨compE_K kf8_ok, ⟨compE_K kf9_ok, compE_K kf11_ok⟩⟩⟩, ⟨⟨compE_K kf12_ok, compE_K kf13_ok⟩, ⟨compE_K kf14_ok, ⟨compE_K kf15_ok, compE_K kf16_ok⟩⟩⟩⟩, ⟨⟨⟨compE_K kf17_ok, compE_K kf18_ok⟩, ⟨compE_K kf19_ok, ⟨compE_K kf20_ok, compE_K kf21_ok⟩⟩⟩, ⟨⟨compE_K kf22_ok, compE_K kf23_ok⟩, ⟨compE_K kf24_ok, ⟨compE_K kf25_ok, compE_K kf26_ok⟩⟩⟩⟩⟩, ⟨⟨⟨⟨compE_K kf27_ok, compE_K kf28_ok⟩, ⟨compE_K kf29_ok, ⟨compE_K kf30_ok, compE_K kf31_ok⟩⟩⟩, ⟨⟨compE_K kf32_ok, compE_K kf33_ok⟩, ⟨compE_K kf34_ok, ⟨compE_K kf35_ok, compE_K kf36_ok⟩⟩⟩⟩, ⟨⟨⟨compE_K kf37_ok, compE_K kf38_ok⟩, ⟨compE_K kf39_ok, ⟨compE_K kf40_ok, compE_K kf41_ok⟩⟩⟩, ⟨⟨compE_K kf42_ok, compE_K kf43_ok⟩, ⟨compE_K kf44_ok, ⟨compE_K kf45_ok, compE_K kf46_ok⟩⟩⟩⟩⟩⟩, ⟨⟨⟨⟨⟨compE_K kf47_ok, compE_K kf48_ok⟩, ⟨compE_K kf49_ok, ⟨compE_K kf50_ok, compE_K kf51_ok⟩⟩⟩, ⟨⟨compE_K kf52_ok, compE_K kf53_ok⟩, ⟨compE_K kf54_ok, ⟨compE_K kf55_ok, compE_K kf56_ok⟩⟩⟩⟩, ⟨⟨⟨hookSE_K _, compE_K kf58_ok⟩, ⟨compE_K kf59_ok, ⟨compE_K kf60_ok, containsE_K⟩⟩⟩, ⟨⟨compE_K kf62_ok, compE_K kf63_ok⟩, ⟨compE_K kf64_ok, ⟨compE_K kf65_ok, compE_K kf66_ok⟩⟩⟩⟩⟩, ⟨⟨⟨⟨compE_K kf67_ok, compE_K kf68_ok⟩, ⟨compE_K kf69_ok, ⟨compE_K kf70_ok, compE_K kf71_ok⟩⟩⟩, ⟨⟨compE_K kf72_ok, compE_K kf73_ok⟩, ⟨compE_K kf74_ok, ⟨compE_K kf76_ok, compE_K kf77_ok⟩⟩⟩⟩, ⟨⟨⟨compE_K kf78_ok, compE_K kf80_ok⟩, ⟨compE_K kf81_ok, ⟨compE_K kf82_ok, compE_K kf83_ok⟩⟩⟩, ⟨⟨compE_K kf85_ok, compE_K kf86_ok⟩, ⟨compE_K kf87_ok, ⟨compE_K kf89_ok, compE_K kf90_ok⟩⟩⟩⟩⟩⟩⟩
theorem tabA_B {ρ : Nat → Value} {W : World} (hρ : ∀ i, (ρ i).oneCell' = true) (hm : hasM 0 W) : tabA.all fun i e => BodyOK Try.prog ρ ⟨W.heap.size, W⟩ i e.b :=
  have hh : HypOK ρ [] := hyp_nil ρ
  ⟨⟨⟨⟨⟨⟨compE_B kf4_ok Try.func4 (by decide) hρ mixed, compE_B kf7_ok Try.func7 (by decide) hρ mixed⟩, ⟨compE_B kf8_ok Try.func8 (by decide) hρ mixed, ⟨compE_B kf9_ok Try.func9 (by decide) hρ mixed, compE_B kf11_ok Try.func11 (by decide) hρ mixed⟩⟩⟩, ⟨⟨compE_B kf12_ok Try.func12 (by decide) hρ mixed, compE_B kf13_ok Try.func13 (by decide) hρ mixed⟩, ⟨compE_B kf14_ok Try.func14 (by decide) hρ mixed, ⟨compE_B kf15_ok Try.func15 (by decide) hρ mixed, compE_B kf16_ok Try.func16 (by decide) hρ mixed⟩⟩⟩⟩, ⟨⟨⟨compE_B kf17_ok Try.func17 (by decide) hρ mixed, compE_B kf18_ok Try.func18 (by decide) hρ mixed⟩, ⟨compE_B kf19_ok Try.func19 (by decide) hρ mixed, ⟨compE_B kf20_ok Try.func20 (by decide) hρ mixed, compE_B kf21_ok Try.func21 (by decide) hρ mixed⟩⟩⟩, ⟨⟨compE_B kf22_ok Try.func22 (by decide) hρ mixed, compE_B kf23_ok Try.func23 (by decide) hρ mixed⟩, ⟨compE_B kf24_ok Try.func24 (by decide) hρ mixed, ⟨compE_B kf25_ok Try.func25 (by decide) hρ mixed, compE_B kf26_ok Try.func26 (by decide) hρ mixed⟩⟩⟩⟩⟩, ⟨⟨⟨⟨compE_B kf27_ok Try.func27 (by decide) hρ mixed, compE_B kf28_ok Try.func28 (by decide) hρ mixed⟩, ⟨compE_B kf29_ok Try.func29 (by decide) hρ mixed, ⟨compE_B kf30_ok Try.func30 (by decide) hρ mixed, compE_B kf31_ok Try.func31 (by decide) hρ mixed⟩⟩⟩, ⟨⟨compE_B kf32_ok Try.func32 (by decide) hρ mixed, compE_B kf33_ok Try.func33 (by decide) hρ mixed⟩, ⟨compE_B kf34_ok Try.func34 (by decide) hρ mixed, ⟨compE_B kf35_ok Try.func35 (by decide) hρ mixed, compE_B kf36_ok Try.func36 (by decide) hρ mixed⟩⟩⟩⟩, ⟨⟨⟨compE_B kf37_ok Try.func37 (by decide) hρ mixed, compE_B kf38_ok Try.func38 (by decide) hρ mixed⟩, ⟨compE_B kf39_ok Try.func39 (by decide) hρ mixed, ⟨compE_B kf40_ok Try.func40 (by decide) hρ mixed, compE_B kf41_ok Try.func41 (by decide) hρ mixed⟩⟩⟩, ⟨⟨compE_B kf42_ok Try.func42 (by decide) hρ mixed, compE_B kf43_ok Try.func43 (by decide) hρ mixed⟩, ⟨compE_B kf44_ok Try.func44 (by decide) hρ mixed, ⟨compE_B kf45_ok Try.func45 (by decide) hρ mixed, compE_B kf46_ok Try.func46 (by decide) hρ mixed⟩⟩⟩⟩⟩⟩, ⟨⟨⟨⟨⟨compE_B kf47_ok Try.func47 (by decide) hρ mixed, compE_B kf48_ok Try.func48 (by decide) hρ mixed⟩, ⟨compE_B kf49_ok Try.func49 (by decide) hρ mixed, ⟨compE_B kf50_ok Try.func50 (by decide) hρ mixed, compE_B kf51_ok Try.func51 (by decide) hρ mixed⟩⟩⟩, ⟨⟨compE_B kf52_ok Try.func52 (by decide) hρ mixed, compE_B kf53_ok Try.func53 (by decide) hρ mixed⟩, ⟨compE_B kf54_ok Try.func54 (by decide) hρ mixed, ⟨compE_B kf55_ok Try.func55 (by decide) hρ mixed, compE_B kf56_ok Try.func56 (by decide) hρ mixed⟩⟩⟩⟩, ⟨⟨⟨placeE_B Try.func57 (by kernel_rfl) (by decide) place_does, compE_B kf58_ok Try.func58 (by decide) hρ mixed⟩, ⟨compE_B kf59_ok Try.func59 (by decide) hρ mixed, ⟨compE_B kf60_ok Try.func60 (by decide) hρ mixed, containsE_B Try.func61 (by kernel_rfl) (by decide) hm fun s sub m w hs hm => Try.strings_Contains s sub m w hs hm⟩⟩⟩, ⟨⟨compE_B kf62_ok Try.func62 (by decide) hρ mixed, compE_B kf63_ok Try.func63 (by decide) hρ mixed⟩, ⟨compE_B kf64_ok Try.func64 (by decide) hρ mixed, ⟨compE_B kf65_ok Try.func65 (by decide) hρ mixed, compE_B kf66_ok Try.func66 (by decide) hρ mixed⟩⟩⟩⟩⟩, ⟨⟨⟨⟨compE_B kf67_ok Try.func67 (by decide) hρ mixed, compE_B kf68_ok Try.func68 (by decide) hρ mixed⟩, ⟨compE_B kf69_ok Try.func69 (by decide) hρ mixed, ⟨compE_B kf70_ok Try.func70 (by decide) hρ mixed, compE_B kf71_ok Try.func71 (by decide) hρ mixed⟩⟩⟩, ⟨⟨compE_B kf72_ok Try.func72 (by decide) hρ mixed, compE_B kf73_ok Try.func73 (by decide) hρ mixed⟩, ⟨compE_B kf74_ok Try.func74 (by decide) hρ mixed, ⟨compE_B kf76_ok Try.func76 (by decide) hρ mixed, compE_B kf77_ok Try.func77 (by decide) hρ mixed⟩⟩⟩⟩, ⟨⟨⟨compE_B kf78_ok Try.func78 (by decide) hρ mixed, compE_B kf80_ok Try.func80 (by decide) hρ mixed⟩, ⟨compE_B kf81_ok Try.func81 (by decide) hρ mixed, ⟨compE_B kf82_ok Try.func82 (by decide) hρ mixed, compE_B kf83_ok Try.func83 (by decide) hρ mixed⟩⟩⟩, ⟨⟨compE_B kf85_ok Try.func85 (by decide) hρ mixed, compE_B kf86_ok Try.func86 (by decide) hρ mixed⟩, ⟨compE_B kf87_ok Try.func87 (by decide) hρ mixed, ⟨compE_B kf89_ok Try.func89 (by decide) hρ mixed, compE_B kf90_ok Try.func90 (by decide) hρ mixed⟩⟩⟩⟩⟩⟩⟩
theorem known_check : check tabA 1000 4 [] = true := by kernel_rfl
theorem known_calls (w : World) (hm : hasM 0 w) : Calls Try.prog 4 #[] w fun e w' => e = .returned (.bool true) ∧ Below w.heap.size w w' :=
  check_call (ρ := fun _ => .bool false) tabA_K (tabA_B (fun _ => rfl) hm) known_check (xs := []) rfl
noncomputable def tab (hyp : List (Nat × Nat × Nat)) : BT :=
  (.node 44 (.node 23 (.node 12 (.node 7 (.node 4 (.node 3 (.leaf 3 (compE 100000 Try.prog Try.f3 [[0, 1], [0, 1, 5, 6], [5, 6, 7], [0, 1, 5, 6, 7, 8], [0, 1, 5, 6, 7, 8], [0, 1, 5, 6, 7, 8], [5, 6], [5, 6, 7, 11], [5, 6, 7, 11], [5, 6, 7, 11]] kf3))
  (.leaf 4 (hookE trueG)))
  (.node 5 (.leaf 5 (compE 100000 Try.prog Try.f5 [[1, 6]] kf5))
  (.node 6 (.leaf 6 (hookE (withinG2 hyp)))
  (.leaf 7 (compE 100000 Try.prog Try.f7 [] kf7)))))
  (.node 9 (.node 8 (.leaf 8 (compE 100000 Try.prog Try.f8 [[4], [7]] kf8))
  (.leaf 9 (compE 100000 Try.prog Try.f9 [[8], [0, 4, 8, 13, 14, 15], [0, 4, 8, 13, 14, 15], [0, 4, 8, 13, 14, 15], [0, 4, 11, 12, 13, 14, 15], [0, 4, 11, 13, 14, 15], [8]] kf9)))
  (.node 10 (.leaf 10 (compE 100000 Try.prog Try.f10 [[0, 4, 8], [11, 12]] kf10))
  (.node 11 (.leaf 11 (compE 100000 Try.prog Try.f11 [[1], [1, 5], [1, 5, 30, 31, 32], [1, 5, 30, 31, 32], [1, 5, 30, 31, 32], [1, 5, 7, 8, 30, 31, 32], [1, 5, 10], [5], [5, 69, 70, 71], [5, 69, 70, 71], [5, 69, 70, 71], [5, 13, 14, 69, 70, 71], [5, 13, 14, 69, 70, 71, 86, 87, 88], [5, 13, 14, 69, 70, 71, 86, 87, 88], [5, 13, 14, 69, 70, 71, 86, 87, 88], [5, 13, 14, 17, 69, 70, 71, 86, 87, 88]] kf11))
  (.leaf 12 (compE 100000 Try.prog Try.f12 [] kf12))))))
  (.node 17 (.node 14 (.node 13 (.leaf 13 (compE 100000 Try.prog Try.f13 [[0, 1, 4]] kf13))
  (.leaf 14 (compE 100000 Try.prog Try.f14 [[0], [4], [0, 4, 5], [0, 4, 5], [0, 4, 5], [0, 4, 6, 7], [4]] kf14)))
  (.node 15 (.leaf 15 (compE 100000 Try.prog Try.f15 [[5], [0, 1, 5], [0, 1, 5]] kf15))
  (.node 16 (.leaf 16 (compE 100000 Try.prog Try.f16 [[0]] kf16))
  (.leaf 17 (compE 100000 Try.prog Try.f17 [[1, 3, 6, 10], [1, 3, 4, 6, 10, 26, 27, 28], [1, 3, 4, 6, 10, 26, 27, 28], [1, 3, 4, 6, 10, 26, 27, 28], [1, 3, 4, 6, 10, 11, 13, 26, 27, 28]] kf17)))))
  (.node 20 (.node 18 (.leaf 18 (compE 100000 Try.prog Try.f18 [[1, 3, 5]] kf18))
  (.node 19 (.leaf 19 (compE 100000 Try.prog Try.f19 [[1], [1], [1, 4], [1, 4, 33, 34, 35], [1, 4, 33, 34, 35], [1, 4, 33, 34, 35], [1, 4], [1, 4], [1, 4], [1, 4, 62, 63, 64], [1, 4, 62, 63, 64], [1, 4, 62, 63, 64], []] kf19))
  (.leaf 20 (compE 100000 Try.prog Try.f20 [] kf20))))
  (.node 21 (.leaf 21 (compE 100000 Try.prog Try.f21 [[0]] kf21))
  (.node 22 (.leaf 22 (compE 100000 Try.prog Try.f22 [[0]] kf22))
  (.leaf 23 (compE 100000 Try.prog Try.f23 [[0]] kf23)))))))
  (.node 33 (.node 28 (.node 25 (.node 24 (.leaf 24 (compE 100000 Try.prog Try.f24 [] kf24))
  (.leaf 25 (compE 100000 Try.prog Try.f25 [[0, 1, 4], [0, 1, 4, 7], [0, 1, 4, 7], [0, 1, 4, 7], [0, 1, 4, 7], [0, 1, 4, 7], [0, 1, 4, 7], [0, 1, 4, 7], [1, 4, 10, 11], [1, 4, 10, 11], [0, 1, 4], [4], [0, 1, 4, 12, 13], [0, 1, 4, 12, 13], [0, 1, 4, 12, 13]] kf25)))
  (.node 26 (.leaf 26 (compE 100000 Try.prog Try.f26 [[0, 1, 4], [4, 5], [0, 1, 4, 5], [0, 1, 4, 5], [0, 1, 4, 5]] kf26))
  (.node 27 (.leaf 27 (compE 100000 Try.prog Try.f27 [] kf27))
  (.leaf 28 (compE 100000 Try.prog Try.f28 [] kf28)))))
  (.node 30 (.node 29 (.leaf 29 (compE 100000 Try.prog Try.f29 [[0, 1, 2, 8, 9, 11], [0, 1, 2, 8, 9], [0, 1, 2], [9], [0, 2, 9, 49, 50, 51], [0, 2, 9, 49, 50, 51], [0, 2, 9, 49, 50, 51], [1, 16], [0, 1, 16, 73, 74, 75], [0, 1, 16, 73, 74, 75], [0, 1, 16, 73, 74, 75], [0, 1, 16, 21, 73, 74, 75]] kf29))
  (.leaf 30 (compE 100000 Try.prog Try.f30 [] kf30)))
  (.node 31 (.leaf 31 (compE 100000 Try.prog Try.f31 [[1, 3, 5, 8], [10], [1, 10, 39, 40, 41], [1, 10, 39, 40, 41], [1, 10, 39, 40, 41], [1, 16, 18, 39, 40, 41]] kf31))
  (.node 32 (.leaf 32 (compE 100000 Try.prog Try.f32 [[], [0, 5, 6, 7], [0, 5, 6, 7], [0, 5, 6, 7]] kf32))
  (.leaf 33 (compE 100000 Try.prog Try.f33 [[3], [3, 8, 9, 10], [3, 8, 9, 10], [3, 8, 9, 10]] kf33))))))
  (.node 38 (.node 35 (.node 34 (.leaf 34 (compE 100000 Try.prog Try.f34 [[0, 2, 4], [0, 2, 4], [], [0, 2, 98, 99, 100], [0, 2, 98, 99, 100], [0, 2, 98, 99, 100]] kf34))
  (.leaf 35 (compE 100000 Try.prog Try.f35 [[], [0, 1, 8, 9, 10], [0, 1, 8, 9, 10], [0, 1, 8, 9, 10], [0, 1, 6, 8, 9, 10]] kf35)))
  (.node 36 (.leaf 36 (compE 100000 Try.prog Try.f36 [[2, 3, 5], [2, 3, 5, 16, 17, 18], [2, 3, 5, 16, 17, 18], [2, 3, 5, 16, 17, 18], [2, 3], [3, 8], [2, 3, 8, 38, 39], [2, 3, 8, 38, 39], [2, 3, 8, 38, 39], [2, 3, 8, 38, 39, 42, 43, 44], [2, 3, 8, 38, 39, 42, 43, 44], [2, 3, 8, 38, 39, 42, 43, 44]] kf36))
  (.node 37 (.leaf 37 (compE 100000 Try.prog Try.f37 [] kf37))
  (.leaf 38 (compE 100000 Try.prog Try.f38 [[1, 3], [1, 3, 9, 10, 11], [1, 3, 9, 10, 11], [1, 3, 9, 10, 11], [3], [3, 27, 28, 29], [3, 27, 28, 29], [3, 27, 28, 29]] kf38)))))
  (.node 41 (.node 39 (.leaf 39 (compE 100000 Try.prog Try.f39 [[0, 3], [0, 3, 5], [0, 3, 5, 23], [0, 3, 5, 23]] kf39))
  (.node 40 (.leaf 40 (compE 100000 Try.prog Try.f40 [[0, 2, 4], [0, 8], [0, 2, 8, 42, 43, 44], [0, 2, 8, 42, 43, 44], [0, 2, 8, 42, 43, 44], [0, 2, 8, 11, 42, 43, 44]] kf40))
  (.leaf 41 (compE 100000 Try.prog Try.f41 [] kf41))))
  (.node 42 (.leaf 42 (compE 100000 Try.prog Try.f42 [] kf42))
  (.node 43 (.leaf 43 (compE 100000 Try.prog Try.f43 [[0, 4], [0, 4], [0, 5], [0, 4, 5, 6], [0, 4, 5, 6], [0, 4, 5, 6], [5], [5], [5]] kf43))
  (.leaf 44 (compE 100000 Try.prog Try.f44 [[], [0, 1, 6], [0, 1, 6], [0, 1, 6], [0, 1, 6], [0, 1, 6], [0, 1, 6, 46, 47]] kf44))))))))
  (.node 65 (.node 54 (.node 49 (.node 46 (.node 45 (.leaf 45 (compE 100000 Try.prog Try.f45 [] kf45))
  (.leaf 46 (compE 100000 Try.prog Try.f46 [[], [4]] kf46)))
  (.node 47 (.leaf 47 (compE 100000 Try.prog Try.f47 [[0, 1, 4], [0, 4], [0, 1, 4], [4, 8]] kf47))
  (.node 48 (.leaf 48 (compE 100000 Try.prog Try.f48 [[0, 4]] kf48))
  (.leaf 49 (compE 100000 Try.prog Try.f49 [] kf49)))))
  (.node 51 (.node 50 (.leaf 50 (compE 100000 Try.prog Try.f50 [[7]] kf50))
  (.leaf 51 (compE 100000 Try.prog Try.f51 [] kf51)))
  (.node 52 (.leaf 52 (compE 100000 Try.prog Try.f52 [[], [], [], [3], [3, 4], [13]] kf52))
  (.node 53 (.leaf 53 (compE 100000 Try.prog Try.f53 [[0, 1, 2]] kf53))
  (.leaf 54 (compE 100000 Try.prog Try.f54 [[], [0, 1, 13, 14], [0, 1, 13, 14], [0, 1, 13, 14], [0, 1, 13, 14], [0, 1, 13, 14], [0, 6, 13, 14]] kf54))))))
  (.node 59 (.node 56 (.node 55 (.leaf 55 (compE 100000 Try.prog Try.f55 [[2], [2, 6, 12, 38], [2, 6, 12, 76]] kf55))
  (.leaf 56 (compE 100000 Try.prog Try.f56 [[0, 3, 6], [0, 3, 6]] kf56)))
  (.node 57 (.leaf 57 (hookSE placeG2))
  (.node 58 (.leaf 58 (compE 100000 Try.prog Try.f58 [[1, 2, 3, 8, 9], [8, 9], [1, 2, 8, 9, 23, 24, 25], [1, 2, 8, 9, 23, 24, 25], [1, 2, 8, 9, 23, 24, 25]] kf58))
  (.leaf 59 (compE 100000 Try.prog Try.f59 [[], [0, 1, 7, 8], [0, 1, 7, 8], [0, 1, 7, 8]] kf59)))))
  (.node 62 (.node 60 (.leaf 60 (compE 100000 Try.prog Try.f60 [] kf60))
  (.node 61 (.leaf 61 containsE)
  (.leaf 62 (compE 100000 Try.prog Try.f62 [[], [1, 4, 5], [1, 9]] kf62))))
  (.node 63 (.leaf 63 (compE 100000 Try.prog Try.f63 [[1], [1], [1, 10, 11, 12], [1, 10, 11, 12], [1, 10, 11, 12], []] kf63))
  (.node 64 (.leaf 64 (compE 100000 Try.prog Try.f64 [[], [0, 8, 9, 10], [0, 8, 9, 10], [0, 8, 9, 10]] kf64))
  (.leaf 65 (compE 100000 Try.prog Try.f65 [[3, 4, 5], []] kf65)))))))
  (.node 76 (.node 70 (.node 67 (.node 66 (.leaf 66 (compE 100000 Try.prog Try.f66 [[], [0, 1, 7, 8], [0, 1, 7, 8], [0, 1, 7, 8]] kf66))
  (.leaf 67 (compE 100000 Try.prog Try.f67 [[5], [0, 1, 5], [0, 5]] kf67)))
  (.node 68 (.leaf 68 (compE 100000 Try.prog Try.f68 [] kf68))
  (.node 69 (.leaf 69 (compE 100000 Try.prog Try.f69 [[0, 1, 2, 7]] kf69))
  (.leaf 70 (compE 100000 Try.prog Try.f70 [[1, 3]] kf70)))))
  (.node 72 (.node 71 (.leaf 71 (compE 100000 Try.prog Try.f71 [[], [2, 7, 8, 9], [2, 7, 8, 9], [2, 7, 8, 9]] kf71))
  (.leaf 72 (compE 100000 Try.prog Try.f72 [[2]] kf72)))
  (.node 73 (.leaf 73 (compE 100000 Try.prog Try.f73 [[1, 4], [1, 4]] kf73))
  (.node 74 (.leaf 74 (compE 100000 Try.prog Try.f74 [] kf74))
  (.leaf 76 (compE 100000 Try.prog Try.f76 [[0, 1], [], [0, 1, 12, 13], [0, 1, 12, 13], [0, 1, 12, 13]] kf76))))))
  (.node 82 (.node 78 (.node 77 (.leaf 77 (compE 100000 Try.prog Try.f77 [] kf77))
  (.leaf 78 (compE 100000 Try.prog Try.f78 [] kf78)))
  (.node 80 (.leaf 80 (compE 100000 Try.prog Try.f80 [] kf80))
  (.node 81 (.leaf 81 (compE 100000 Try.prog Try.f81 [] kf81))
  (.leaf 82 (compE 100000 Try.prog Try.f82 [[0, 1, 2], [0, 9, 11]] kf82)))))
  (.node 86 (.node 83 (.leaf 83 (compE 100000 Try.prog Try.f83 [] kf83))
  (.node 85 (.leaf 85 (compE 100000 Try.prog Try.f85 [[0], [0, 1, 7], [0, 1, 7, 8]] kf85))
  (.leaf 86 (compE 100000 Try.prog Try.f86 [] kf86))))
  (.node 87 (.leaf 87 (compE 100000 Try.prog Try.f87 [] kf87))
  (.node 89 (.leaf 89 (compE 100000 Try.prog Try.f89 [[], [0, 3, 5, 6, 15, 16, 17], [0, 3, 5, 6, 15, 16, 17], [0, 3, 5, 6, 15, 16, 17], [0, 3, 5, 6, 9, 11, 15, 16, 17], [0, 3, 5, 6, 12, 13, 15, 16, 17]] kf89))
  (.leaf 90 (compE 100000 Try.prog Try.f90 [[], [0, 4, 5, 10, 11], [0, 4, 5, 10, 11], [0, 4, 5, 10, 11]] kf90)))))))))
theorem tab_K (hyp : List (Nat × Nat × Nat)) : (tab hyp).all fun _ e => BodyKOK e.k e.b := ⟨⟨⟨⟨⟨⟨compE_K kf3_ok, hookE_K _⟩, ⟨compE_K kf5_ok, ⟨hookE_K _, compE_K kf7_ok⟩⟩⟩, ⟨⟨compE_K kf8_ok, compE_K kf9_ok⟩, ⟨compE_K kf10_ok, ⟨compE_K kf11_ok, compE_K kf12_ok⟩⟩⟩⟩, ⟨⟨⟨compE_K kf13_ok, compE_K kf14_ok⟩, ⟨compE_K kf15_ok, ⟨compE_K kf16_ok, compE_K kf17_ok⟩⟩⟩, ⟨⟨compE_K kf18_ok, ⟨compE_K kf19_ok, compE_K kf20_ok⟩⟩, ⟨compE_K kf21_ok, ⟨compE_K kf22_ok, compE_K kf23_ok⟩⟩⟩⟩⟩, ⟨⟨⟨⟨compE_K kf24_ok, compE_K kf25_ok⟩, ⟨compE_K kf26_ok, ⟨compE_K kf27_ok, compE_K kf28_ok⟩⟩⟩, ⟨⟨compE_K kf29_ok, compE_K kf30_ok⟩, ⟨compE_K kf31_ok, ⟨compE_K kf32_ok, compE_K kf33_ok⟩⟩⟩⟩, ⟨⟨⟨compE_K kf34_ok, compE_K kf35_ok⟩, ⟨compE_K kf36_ok, ⟨compE_K kf37_ok, compE_K kf38_ok⟩⟩⟩, ⟨⟨compE_K kf39_ok, ⟨compE_K kf40_ok, compE_K kf41_ok⟩⟩, ⟨compE_K kf42_ok, ⟨compE_K kf43_ok, compE_K kf44_ok⟩⟩⟩⟩⟩⟩, ⟨⟨⟨⟨⟨compE_K kf45_ok, compE_K kf46_ok⟩, ⟨compE_K kf47_ok, ⟨compE_K kf48_ok, compE_K kf49_ok⟩⟩⟩, ⟨⟨compE_K kf50_ok, compE_K kf51_ok⟩, ⟨compE_K kf52_ok, ⟨compE_K kf53_ok, compE_K kf54_ok⟩⟩⟩⟩, ⟨⟨⟨compE_K kf55_ok, compE_K kf56_ok⟩, ⟨hookSE_K _, ⟨compE_K kf58_ok, compE_K kf59_ok⟩⟩⟩, ⟨⟨compE_K kf60_ok, ⟨containsE_K, compE_K kf62_ok⟩⟩, ⟨compE_K kf63_ok, ⟨compE_K kf64_ok, compE_K kf65_ok⟩⟩⟩⟩⟩, ⟨⟨⟨⟨compE_K kf66_ok, compE_K kf67_ok⟩, ⟨compE_K kf68_ok, ⟨compE_K kf69_ok, compE_K kf70_ok⟩⟩⟩, ⟨⟨compE_K kf71_ok, compE_K kf72_ok⟩, ⟨compE_K kf73_ok, ⟨compE_K kf74_ok, compE_K kf76_ok⟩⟩⟩⟩, ⟨⟨⟨compE_K kf77_ok, compE_K kf78_ok⟩, ⟨compE_K kf80_ok, ⟨compE_K kf81_ok, compE_K kf82_ok⟩⟩⟩, ⟨⟨compE_K kf83_ok, ⟨compE_K kf85_ok, compE_K kf86_ok⟩⟩, ⟨compE_K kf87_ok, ⟨compE_K kf89_ok, compE_K kf90_ok⟩⟩⟩⟩⟩⟩⟩
theorem tab_B {ρ : Nat → Value} {W : World} {hyp : List (Nat × Nat × Nat)} (hρ : ∀ i, (ρ i).oneCell' = true) (hm : hasM 0 W) (hh : HypOK ρ hyp) (hI : ∀ i, ∃ a : Int, ρ i = .int .i64 a) : (tab hyp).all fun i e => BodyOK Try.prog ρ ⟨W.heap.size, W⟩ i e.b :=
  ⟨⟨⟨⟨⟨⟨compE_B kf3_ok Try.func3 (by decide) hρ mixed, trueE_B Try.func4 (by kernel_rfl) (by decide) hm known_calls⟩, ⟨compE_B kf5_ok Try.func5 (by decide) hρ mixed, ⟨within2E_B Try.func6 (by kernel_rfl) (by decide) hh hI within6_calls, compE_B kf7_ok Try.func7 (by decide) hρ mixed⟩⟩⟩, ⟨⟨compE_B kf8_ok Try.func8 (by decide) hρ mixed, compE_B kf9_ok Try.func9 (by decide) hρ mixed⟩, ⟨compE_B kf10_ok Try.func10 (by decide) hρ mixed, ⟨compE_B kf11_ok Try.func11 (by decide) hρ mixed, compE_B kf12_ok Try.func12 (by decide) hρ mixed⟩⟩⟩⟩, ⟨⟨⟨compE_B kf13_ok Try.func13 (by decide) hρ mixed, compE_B kf14_ok Try.func14 (by decide) hρ mixed⟩, ⟨compE_B kf15_ok Try.func15 (by decide) hρ mixed, ⟨compE_B kf16_ok Try.func16 (by decide) hρ mixed, compE_B kf17_ok Try.func17 (by decide) hρ mixed⟩⟩⟩, ⟨⟨compE_B kf18_ok Try.func18 (by decide) hρ mixed, ⟨compE_B kf19_ok Try.func19 (by decide) hρ mixed, compE_B kf20_ok Try.func20 (by decide) hρ mixed⟩⟩, ⟨compE_B kf21_ok Try.func21 (by decide) hρ mixed, ⟨compE_B kf22_ok Try.func22 (by decide) hρ mixed, compE_B kf23_ok Try.func23 (by decide) hρ mixed⟩⟩⟩⟩⟩, ⟨⟨⟨⟨compE_B kf24_ok Try.func24 (by decide) hρ mixed, compE_B kf25_ok Try.func25 (by decide) hρ mixed⟩, ⟨compE_B kf26_ok Try.func26 (by decide) hρ mixed, ⟨compE_B kf27_ok Try.func27 (by decide) hρ mixed, compE_B kf28_ok Try.func28 (by decide) hρ mixed⟩⟩⟩, ⟨⟨compE_B kf29_ok Try.func29 (by decide) hρ mixed, compE_B kf30_ok Try.func30 (by decide) hρ mixed⟩, ⟨compE_B kf31_ok Try.func31 (by decide) hρ mixed, ⟨compE_B kf32_ok Try.func32 (by decide) hρ mixed, compE_B kf33_ok Try.func33 (by decide) hρ mixed⟩⟩⟩⟩, ⟨⟨⟨compE_B kf34_ok Try.func34 (by decide) hρ mixed, compE_B kf35_ok Try.func35 (by decide) hρ mixed⟩, ⟨compE_B kf36_ok Try.func36 (by decide) hρ mixed, ⟨compE_B kf37_ok Try.func37 (by decide) hρ mixed, compE_B kf38_ok Try.func38 (by decide) hρ mixed⟩⟩⟩, ⟨⟨compE_B kf39_ok Try.func39 (by decide) hρ mixed, ⟨compE_B kf40_ok Try.func40 (by decide) hρ mixed, compE_B kf41_ok Try.func41 (by decide) hρ mixed⟩⟩, ⟨compE_B kf42_ok Try.func42 (by decide) hρ mixed, ⟨compE_B kf43_ok Try.func43 (by decide) hρ mixed, compE_B kf44_ok Try.func44 (by decide) hρ mixed⟩⟩⟩⟩⟩⟩, ⟨⟨⟨⟨⟨compE_B kf45_ok Try.func45 (by decide) hρ mixed, compE_B kf46_ok Try.func46 (by decide) hρ mixed⟩, ⟨compE_B kf47_ok Try.func47 (by decide) hρ mixed, ⟨compE_B kf48_ok Try.func48 (by decide) hρ mixed, compE_B kf49_ok Try.func49 (by decide) hρ mixed⟩⟩⟩, ⟨⟨compE_B kf50_ok Try.func50 (by decide) hρ mixed, compE_B kf51_ok Try.func51 (by decide) hρ mixed⟩, ⟨compE_B kf52_ok Try.func52 (by decide) hρ mixed, ⟨compE_B kf53_ok Try.func53 (by decide) hρ mixed, compE_B kf54_ok Try.func54 (by decide) hρ mixed⟩⟩⟩⟩, ⟨⟨⟨compE_B kf55_ok Try.func55 (by decide) hρ mixed, compE_B kf56_ok Try.func56 (by decide) hρ mixed⟩, ⟨placeE2_B Try.func57 (by kernel_rfl) (by decide) place_does, ⟨compE_B kf58_ok Try.func58 (by decide) hρ mixed, compE_B kf59_ok Try.func59 (by decide) hρ mixed⟩⟩⟩, ⟨⟨compE_B kf60_ok Try.func60 (by decide) hρ mixed, ⟨containsE_B Try.func61 (by kernel_rfl) (by decide) hm fun s sub m w hs hm => Try.strings_Contains s sub m w hs hm, compE_B kf62_ok Try.func62 (by decide) hρ mixed⟩⟩, ⟨compE_B kf63_ok Try.func63 (by decide) hρ mixed, ⟨compE_B kf64_ok Try.func64 (by decide) hρ mixed, compE_B kf65_ok Try.func65 (by decide) hρ mixed⟩⟩⟩⟩⟩, ⟨⟨⟨⟨compE_B kf66_ok Try.func66 (by decide) hρ mixed, compE_B kf67_ok Try.func67 (by decide) hρ mixed⟩, ⟨compE_B kf68_ok Try.func68 (by decide) hρ mixed, ⟨compE_B kf69_ok Try.func69 (by decide) hρ mixed, compE_B kf70_ok Try.func70 (by decide) hρ mixed⟩⟩⟩, ⟨⟨compE_B kf71_ok Try.func71 (by decide) hρ mixed, compE_B kf72_ok Try.func72 (by decide) hρ mixed⟩, ⟨compE_B kf73_ok Try.func73 (by decide) hρ mixed, ⟨compE_B kf74_ok Try.func74 (by decide) hρ mixed, compE_B kf76_ok Try.func76 (by decide) hρ mixed⟩⟩⟩⟩, ⟨⟨⟨compE_B kf77_ok Try.func77 (by decide) hρ mixed, compE_B kf78_ok Try.func78 (by decide) hρ mixed⟩, ⟨compE_B kf80_ok Try.func80 (by decide) hρ mixed, ⟨compE_B kf81_ok Try.func81 (by decide) hρ mixed, compE_B kf82_ok Try.func82 (by decide) hρ mixed⟩⟩⟩, ⟨⟨compE_B kf83_ok Try.func83 (by decide) hρ mixed, ⟨compE_B kf85_ok Try.func85 (by decide) hρ mixed, compE_B kf86_ok Try.func86 (by decide) hρ mixed⟩⟩, ⟨compE_B kf87_ok Try.func87 (by decide) hρ mixed, ⟨compE_B kf89_ok Try.func89 (by decide) hρ mixed, compE_B kf90_ok Try.func90 (by decide) hρ mixed⟩⟩⟩⟩⟩⟩⟩
end Go.Proofs.Ytgmgjbdfolclpaa
