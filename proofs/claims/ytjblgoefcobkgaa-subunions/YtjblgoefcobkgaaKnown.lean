/- 'known' is true, by the kernel's evaluator. No condition. -/
import Derived.Test.YtjblgoefcobkgaaRows
import Derived.Test.YtjblgoefcobkgaaShelf
import Derived.WalkKit
import Derived.Test.YtjblgoefcobkgaaEvd9
namespace Go.Proofs.Ytjblgoefcobkgaa.kn
open Eva Go.RowKit
set_option linter.unusedVariables false
noncomputable def kf10 : KFn := { params := [], res := [(.s r0)], body :=
 (.seq
 (.reg [.p (o1 mvG (ctK (.bool false))) w0])
 (.seq
 (.reg [.p (buildO [(.int .i64 (Int.ofNat 0)), (.str 0 0), .snil, .snil] [(0, 1, (ctK (.int .i64 (Int.ofNat 2))))]) pushW, .p (allocO [(.int .i64 (Int.ofNat 0)), (.str 0 0), .snil, .snil]) w1, .p (o2 (storeG 4) r1 l0) noW])
 (.seq
 (.reg [.p (bslO 1 2 [(.str 0 0), (.str 0 0)] [(0, 1, (ctK (.str 1 97))), (1, 1, (ctK (.str 1 98)))]) pushW, .p (o1 (loadnG 4) r1) pushW, .p (o1 (loadnG 4) r1) pushW, .p (bslO 4 2 [(.int .i64 (Int.ofNat 0)), (.str 0 0), .snil, .snil, (.int .i64 (Int.ofNat 0)), (.str 0 0), .snil, .snil] [(0, 4, l1), (4, 4, l0)]) pushW, .p (buildO [(.int .i64 (Int.ofNat 0)), (.str 0 0), .snil, .snil] [(0, 1, (ctK (.int .i64 (Int.ofNat 7)))), (2, 1, l3), (3, 1, l0)]) pushW, .p (allocO [(.int .i64 (Int.ofNat 0)), (.str 0 0), .snil, .snil]) w2, .p (o2 (storeG 4) r2 l0) noW])
 (.seq
 (.reg [.p (bslO 1 1 [(.str 0 0)] [(0, 1, (ctK (.str 1 97)))]) pushW, .p (o1 (loadnG 4) r1) pushW, .p (bslO 4 1 [(.int .i64 (Int.ofNat 0)), (.str 0 0), .snil, .snil] [(0, 4, l0)]) pushW, .p (buildO [(.int .i64 (Int.ofNat 0)), (.str 0 0), .snil, .snil] [(0, 1, (ctK (.int .i64 (Int.ofNat 6)))), (3, 1, l0)]) pushW, .p (bslO 4 1 [(.int .i64 (Int.ofNat 0)), (.str 0 0), .snil, .snil] [(0, 4, l0)]) pushW, .p (buildO [(.int .i64 (Int.ofNat 0)), (.str 0 0), .snil, .snil] [(0, 1, (ctK (.int .i64 (Int.ofNat 7)))), (2, 1, l4), (3, 1, l0)]) pushW, .p (allocO [(.int .i64 (Int.ofNat 0)), (.str 0 0), .snil, .snil]) w3, .p (o2 (storeG 4) r3 l0) noW])
 (.seq
 (.reg [.p (o1 (loadnG 4) r2) pushW, .p (buildO [(.int .i64 (Int.ofNat 0)), (.str 0 0), .snil, .snil, .snil, .snil] [(0, 4, l0)]) pushW, .p (callO 12 [l0]) pushW, .p (o1 (extG 0) l0) pushW, .p (o1 (extG 1) l1) pushW, .p (o1 mvG l1) w4, .p (o1 mvG l0) w5])
 (.seq
 (.seq
 (.reg [.p (o2 (eqG eqIV true) r5 (ctK (.int .i64 (Int.ofNat 0)))) pushW, .g l0 false false none (o1 mvG r4) pushW, .g l1 false false none (o2 (eqG (slowEq (.one .p)) false) l0 (ctK .pnil)) pushW, .p (o3 pickG l2 (ctK (.bool true)) l0) w35])
 (.cond r35
 (.seq
 (.reg [.p (o1 mvG (ctK (.bool false))) w0])
 .ret)
 .skip))
 (.seq
 (.reg [.p (o1 (loadnG 4) r3) pushW, .p (callO 13 [r4, l0]) pushW, .p (o1 (extG 0) l0) pushW, .p (o1 (extG 1) l1) pushW, .p (o1 mvG l1) w6])
 (.seq
 (.reg [.p (callO 15 [r4]) pushW, .p (callO 14 [r4, l0, r6]) pushW, .p (o1 (extG 0) l0) pushW, .p (o1 (extG 1) l1) pushW, .p (o1 mvG l1) w8])
 (.seq
 (.reg [.p (callO 15 [r4]) pushW, .p (callO 14 [r4, r6, l0]) pushW, .p (o1 (extG 0) l0) pushW, .p (o1 (extG 1) l1) pushW, .p (o1 mvG l1) w10])
 (.seq
 (.reg [.g r8 true false none (o1 mvG r10) pushW, .g r8 true false none (o1 notG l0) pushW, .p (o3 pickG r8 l0 (ctK (.bool false))) pushW, .p (o1 mvG l0) w0])
 .ret)))))))))) }
theorem kf10_ok : (compFn Try.prog Try.f10 [[3, 4]]).bind (toKFn [7, 9, 11, 12, 13, 14, 15, 16, 17, 18, 19, 20, 21, 22, 23, 24, 25, 26, 27, 28, 29, 30, 31, 32, 33, 34, 36, 37, 38, 39, 40, 41, 42, 43, 44, 45, 46, 47, 48, 49, 50, 51, 52, 53, 54, 55, 56, 57, 58, 59, 60, 61, 62] 0) = some kf10 := by kernel_rfl
noncomputable def kf12 : KFn := { params := [w0], res := [(.s r2), (.s r3)], body :=
 (.seq
 (.reg [.p (o1 boxG r0) w1, .p (o1 mvG (ctK .pnil)) w2, .p (o1 mvG (ctK (.int .i64 (Int.ofNat 0)))) w3])
 (.seq
 (.seq
 (.reg [.p (o1 (loadnG 6) r1) pushW, .p (callO 20 [l0]) pushW, .p (o1 mvG l0) w4])
 (.seq
 (.reg [.p (o2 (eqG eqIV true) r4 (ctK (.int .i64 (Int.ofNat 0)))) w22])
 (.cond r22
 (.seq
 (.reg [.p (o1 mvG (ctK .pnil)) w2, .p (o1 mvG r4) w3])
 .ret)
 .skip)))
 (.seq
 (.reg [.p mkmapO pushW, .p mkmapO pushW, .p mkmapO pushW, .p (buildO [.snil, .mnil, .mnil, (.int .i64 (Int.ofNat 0)), .mnil] [(1, 1, l2), (2, 1, l1), (4, 1, l0)]) pushW, .p (o1 boxG l0) pushW, .p (o1 mvG l0) w5])
 (.seq
 (.seq
 (.reg [.p (o1 (faddrG 4) r1) pushW, .p (o1 load1G l0) w30, .p (o1 lenLG r30) w31, .p (o1 mvG (ctK (.int .i64 (Int.ofNat 0)))) w32])
 (.block 0
 (.loop
 (.seq
 (.reg [.p (o2 (binG (cmpB .lss ltI)) r32 r31) w33])
 (.seq
 (.cond r33
 .skip
 (.exit 0))
 (.seq
 (.block 1
 (.seq
 (.reg [.p (o2 (iaddrG 5) r30 r32) pushW, .p (o1 (loadnG 5) l0) pushW, .p (allocO [(.str 0 0), (.int .i64 (Int.ofNat 0)), (.str 0 0), .snil, .snil]) w7, .p (o2 (storeG 5) r7 l0) noW])
 (.seq
 (.reg [.p (o1 (faddrG 1) r7) pushW, .p (o1 (loadnG 4) l0) pushW, .p (callO 13 [r5, l0]) pushW, .p (o1 (extG 0) l0) pushW, .p (o1 (extG 1) l1) pushW, .p (o1 mvG l1) w8, .p (o1 mvG l0) w9])
 (.seq
 (.seq
 (.reg [.p (o2 (eqG eqIV true) r9 (ctK (.int .i64 (Int.ofNat 0)))) w44])
 (.cond r44
 (.seq
 (.reg [.p (o1 mvG (ctK .pnil)) w2, .p (o1 mvG r9) w3])
 .ret)
 .skip))
 (.drw [.p (o1 nilckG r5) pushW, .p (o1 (faddrG 2) l0) pushW, .p (o1 load1G l0) pushW, .p (o1 (faddrG 0) r7) pushW, .p (o1 load1G l0) pushW, .p (o3 (mupdG (.one .s)) l2 l0 r8) noW] [])))))
 (.reg [.p (o2 (binG addB) r32 (ctK (.int .i64 (Int.ofNat 1)))) pushW, .p (o1 mvG l0) w32])))))))
 (.seq
 (.reg [.p (o1 (faddrG 0) r1) pushW, .p (o1 (loadnG 4) l0) pushW, .p (callO 13 [r5, l0]) pushW, .p (o1 (extG 0) l0) pushW, .p (o1 (extG 1) l1) pushW, .p (o1 mvG l1) w10, .p (o1 mvG l0) w11])
 (.seq
 (.seq
 (.reg [.p (o2 (eqG eqIV true) r11 (ctK (.int .i64 (Int.ofNat 0)))) w62])
 (.cond r62
 (.seq
 (.reg [.p (o1 mvG (ctK .pnil)) w2, .p (o1 mvG r11) w3])
 .ret)
 .skip))
 (.seq
 (.reg [.p (o1 nilckG r5) pushW, .p (o1 (faddrG 3) l0) pushW, .p (o2 (storeG 1) l0 r10) noW])
 (.seq
 (.seq
 (.reg [.p (o1 (faddrG 5) r1) pushW, .p (o1 load1G l0) w69, .p (o1 lenLG r69) w70, .p (o1 mvG (ctK (.int .i64 (Int.ofNat 0)))) w71])
 (.block 2
 (.loop
 (.seq
 (.reg [.p (o2 (binG (cmpB .lss ltI)) r71 r70) w72])
 (.seq
 (.cond r72
 .skip
 (.exit 2))
 (.seq
 (.block 3
 (.seq
 (.reg [.p (o2 (iaddrG 6) r69 r71) pushW, .p (o1 (loadnG 6) l0) pushW, .p (allocO [(.str 0 0), .snil, (.int .i64 (Int.ofNat 0)), (.str 0 0), .snil, .snil]) w13, .p (o2 (storeG 6) r13 l0) noW])
 (.seq
 (.reg [.p (o1 (faddrG 1) r13) pushW, .p (o1 load1G l0) pushW, .p (o1 lenLG l0) pushW, .p (o2 (binG addB) l0 (ctK (.int .i64 (Int.ofNat 1)))) pushW, .p (o2 (mkslG 1 [(.int .i64 (Int.ofNat 0))]) (ctK (.int .i64 (Int.ofNat 0))) l0) pushW, .p (o1 mvG l0) w14])
 (.seq
 (.seq
 (.drw [.p (o1 (faddrG 1) r13) pushW, .p (o1 load1G l0) pushW, .m (callO 21 [l0]) pushW none, .p (o1 (faddrG 2) r13) pushW, .p (o1 (loadnG 4) l0) pushW, .p (bslO 4 1 [(.int .i64 (Int.ofNat 0)), (.str 0 0), .snil, .snil] [(0, 4, l0)]) pushW, .p (o2 (appG 4) l3 l0) w86, .p (o1 lenLG r86) w87, .p (o1 mvG (ctK (.int .i64 (Int.ofNat 0)))) w88] [])
 (.block 4
 (.loop
 (.seq
 (.reg [.p (o2 (binG (cmpB .lss ltI)) r88 r87) w89])
 (.seq
 (.cond r89
 .skip
 (.exit 4))
 (.seq
 (.block 5
 (.seq
 (.reg [.p (o2 (iaddrG 4) r86 r88) pushW, .p (o1 (loadnG 4) l0) pushW, .p (allocO [(.int .i64 (Int.ofNat 0)), (.str 0 0), .snil, .snil]) w16, .p (o2 (storeG 4) r16 l0) noW])
 (.seq
 (.reg [.p (o1 (loadnG 4) r16) pushW, .p (callO 13 [r5, l0]) pushW, .p (o1 (extG 0) l0) pushW, .p (o1 (extG 1) l1) pushW, .p (o1 mvG l1) w17, .p (o1 mvG l0) w18])
 (.seq
 (.seq
 (.reg [.p (o2 (eqG eqIV true) r18 (ctK (.int .i64 (Int.ofNat 0)))) w99])
 (.cond r99
 (.seq
 (.reg [.p (o1 mvG (ctK .pnil)) w2, .p (o1 mvG r18) w3])
 .ret)
 .skip))
 (.reg [.p (o1 mvG r14) pushW, .p (bslO 1 1 [(.int .i64 (Int.ofNat 0))] [(0, 1, r17)]) pushW, .p (o2 (appG 1) l1 l0) pushW, .p (o1 mvG l0) w14])))))
 (.reg [.p (o2 (binG addB) r88 (ctK (.int .i64 (Int.ofNat 1)))) pushW, .p (o1 mvG l0) w88])))))))
 (.drw [.p (o1 nilckG r5) pushW, .p (o1 (faddrG 4) l0) pushW, .p (o1 load1G l0) pushW, .p (o1 (faddrG 0) r13) pushW, .p (o1 load1G l0) pushW, .p (o3 (mupdG (.one .s)) l2 l0 r14) noW] [])))))
 (.reg [.p (o2 (binG addB) r71 (ctK (.int .i64 (Int.ofNat 1)))) pushW, .p (o1 mvG l0) w71])))))))
 (.seq
 (.reg [.p (o1 mvG r5) w2, .p (o1 mvG (ctK (.int .i64 (Int.ofNat 0)))) w3])
 .ret))))))))) }
theorem kf12_ok : (compFn Try.prog Try.f12 [[1], [1, 5], [1, 5, 30, 31, 32], [1, 5, 30, 31, 32], [1, 5, 30, 31, 32], [1, 5, 7, 8, 30, 31, 32], [1, 5, 10], [5], [5, 69, 70, 71], [5, 69, 70, 71], [5, 69, 70, 71], [5, 13, 14, 69, 70, 71], [5, 13, 14, 69, 70, 71, 86, 87, 88], [5, 13, 14, 69, 70, 71, 86, 87, 88], [5, 13, 14, 69, 70, 71, 86, 87, 88], [5, 13, 14, 17, 69, 70, 71, 86, 87, 88]]).bind (toKFn [19, 20, 21, 23, 24, 25, 26, 27, 28, 29, 34, 35, 36, 37, 38, 39, 40, 41, 42, 43, 45, 46, 47, 48, 49, 50, 51, 52, 53, 54, 55, 56, 57, 58, 59, 60, 61, 63, 64, 65, 66, 67, 68, 73, 74, 75, 76, 77, 78, 79, 80, 81, 82, 83, 84, 85, 90, 91, 92, 93, 94, 95, 96, 97, 98, 100, 101, 102, 103, 104, 105, 106, 107, 108, 109, 110, 111, 112, 113, 114] 1) = some kf12 := by kernel_rfl
noncomputable def kf20 : KFn := { params := [w0], res := [(.s r2)], body :=
 (.seq
 (.reg [.p (o1 boxG r0) w1, .p (o1 mvG (ctK (.int .i64 (Int.ofNat 0)))) w2])
 (.seq
 (.seq
 (.reg [.p (o1 (faddrG 4) r1) pushW, .p (o1 load1G l0) pushW, .p (o1 lenLG l0) pushW, .p (o2 (binG (cmpB .gtr gtI)) l0 (ctK (.int .i64 (Int.ofNat 12)))) pushW, .g l0 false false none (o1 (faddrG 5) r1) pushW, .g l1 false false none (o1 load1G l0) pushW, .g l2 false false none (o1 lenLG l0) pushW, .g l3 false false none (o2 (binG (cmpB .gtr gtI)) l0 (ctK (.int .i64 (Int.ofNat 12)))) pushW, .p (o3 pickG l4 (ctK (.bool true)) l0) w21])
 (.cond r21
 (.seq
 (.reg [.p (o1 mvG (ctK (.int .i64 (Int.ofNat 3)))) w2])
 .ret)
 .skip))
 (.seq
 (.seq
 (.reg [.p (o1 (faddrG 4) r1) pushW, .p (o1 load1G l0) pushW, .p (callO 29 [l0]) pushW, .p (o1 mvG l0) w3])
 (.seq
 (.reg [.p (o2 (eqG eqIV true) r3 (ctK (.int .i64 (Int.ofNat 0)))) w26])
 (.cond r26
 (.seq
 (.reg [.p (o1 mvG r3) w2])
 .ret)
 .skip)))
 (.seq
 (.reg [.p (o1 (loadnG 6) r1) pushW, .p (callO 30 [l0]) pushW, .p (buildO [.mnil, (.int .i64 (Int.ofNat 0))] [(0, 1, l0)]) pushW, .p (o1 boxG l0) pushW, .p (o1 mvG l0) w4])
 (.seq
 (.seq
 (.reg [.p (o1 (faddrG 4) r1) pushW, .p (o1 load1G l0) w33, .p (o1 lenLG r33) w34, .p (o1 mvG (ctK (.int .i64 (Int.ofNat 0)))) w35])
 (.block 0
 (.loop
 (.seq
 (.reg [.p (o2 (binG (cmpB .lss ltI)) r35 r34) w36])
 (.seq
 (.cond r36
 .skip
 (.exit 0))
 (.seq
 (.block 1
 (.seq
 (.reg [.p (o2 (iaddrG 5) r33 r35) pushW, .p (o1 (loadnG 5) l0) pushW, .p (allocO [(.str 0 0), (.int .i64 (Int.ofNat 0)), (.str 0 0), .snil, .snil]) w6, .p (o2 (storeG 5) r6 l0) noW])
 (.seq
 (.reg [.p (o1 (faddrG 1) r6) pushW, .p (o1 (loadnG 4) l0) pushW, .p (callO 31 [r4, l0, (ctK (.int .i64 (Int.ofNat 1)))]) pushW, .p (o1 mvG l0) w7])
 (.seq
 (.reg [.p (o2 (eqG eqIV true) r7 (ctK (.int .i64 (Int.ofNat 0)))) w44])
 (.cond r44
 (.seq
 (.reg [.p (o1 mvG r7) w2])
 .ret)
 .skip)))))
 (.reg [.p (o2 (binG addB) r35 (ctK (.int .i64 (Int.ofNat 1)))) pushW, .p (o1 mvG l0) w35])))))))
 (.seq
 (.seq
 (.reg [.p (o1 (faddrG 0) r1) pushW, .p (o1 (loadnG 4) l0) pushW, .p (callO 31 [r4, l0, (ctK (.int .i64 (Int.ofNat 1)))]) pushW, .p (o1 mvG l0) w8])
 (.seq
 (.reg [.p (o2 (eqG eqIV true) r8 (ctK (.int .i64 (Int.ofNat 0)))) w52])
 (.cond r52
 (.seq
 (.reg [.p (o1 mvG r8) w2])
 .ret)
 .skip)))
 (.seq
 (.seq
 (.reg [.p (o1 (faddrG 5) r1) pushW, .p (o1 load1G l0) pushW, .p (callO 32 [r4, l0]) pushW, .p (o1 mvG l0) w9])
 (.seq
 (.reg [.p (o2 (eqG eqIV true) r9 (ctK (.int .i64 (Int.ofNat 0)))) w59])
 (.cond r59
 (.seq
 (.reg [.p (o1 mvG r9) w2])
 .ret)
 .skip)))
 (.seq
 (.seq
 (.reg [.p (o1 (faddrG 4) r1) pushW, .p (o1 load1G l0) w62, .p (o1 lenLG r62) w63, .p (o1 mvG (ctK (.int .i64 (Int.ofNat 0)))) w64])
 (.block 2
 (.loop
 (.seq
 (.reg [.p (o2 (binG (cmpB .lss ltI)) r64 r63) w65])
 (.seq
 (.cond r65
 .skip
 (.exit 2))
 (.seq
 (.block 3
 (.seq
 (.reg [.p (o2 (iaddrG 5) r62 r64) pushW, .p (o1 (loadnG 5) l0) pushW, .p (allocO [(.str 0 0), (.int .i64 (Int.ofNat 0)), (.str 0 0), .snil, .snil]) w11, .p (o2 (storeG 5) r11 l0) noW])
 (.seq
 (.reg [.p (o1 (loadnG 6) r1) pushW, .p (o1 (faddrG 1) r11) pushW, .p (o1 (loadnG 4) l0) pushW, .p (callO 33 [l2, l0]) pushW, .p (o1 notG l0) w72])
 (.cond r72
 (.seq
 (.reg [.p (o1 mvG (ctK (.int .i64 (Int.ofNat 14)))) w2])
 .ret)
 .skip))))
 (.reg [.p (o2 (binG addB) r64 (ctK (.int .i64 (Int.ofNat 1)))) pushW, .p (o1 mvG l0) w64])))))))
 (.seq
 (.seq
 (.reg [.p (o1 (loadnG 6) r1) pushW, .p (callO 35 [l0]) pushW, .p (mkfnO 36 [r4] []) pushW, .p (callO 34 [l1, l0]) w78])
 (.cond r78
 (.seq
 (.reg [.p (o1 mvG (ctK (.int .i64 (Int.ofNat 17)))) w2])
 .ret)
 .skip))
 (.seq
 (.reg [.p (o1 mvG (ctK (.int .i64 (Int.ofNat 0)))) w2])
 .ret)))))))))) }
theorem kf20_ok : (compFn Try.prog Try.f20 [[1], [1], [1, 4], [1, 4, 33, 34, 35], [1, 4, 33, 34, 35], [1, 4, 33, 34, 35], [1, 4], [1, 4], [1, 4], [1, 4, 62, 63, 64], [1, 4, 62, 63, 64], [1, 4, 62, 63, 64], []]).bind (toKFn [12, 13, 14, 15, 16, 17, 18, 19, 20, 22, 23, 24, 25, 27, 28, 29, 30, 31, 32, 37, 38, 39, 40, 41, 42, 43, 45, 46, 47, 48, 49, 50, 51, 53, 54, 55, 56, 57, 58, 60, 61, 66, 67, 68, 69, 70, 71, 73, 74, 75, 76, 77] 1) = some kf20 := by kernel_rfl
noncomputable def kf29 : KFn := { params := [w0], res := [(.s r2)], body :=
 (.seq
 (.reg [.p (o1 mvG (ctK (.int .i64 (Int.ofNat 0)))) w2])
 (.seq
 (.seq
 (.reg [.p (o1 mvG r0) w5, .p (o1 lenLG r5) w6, .p (o1 mvG (ctK (.int .i64 (Int.ofNat 0)))) w7])
 (.block 0
 (.loop
 (.seq
 (.reg [.p (o2 (binG (cmpB .lss ltI)) r7 r6) w8])
 (.seq
 (.cond r8
 .skip
 (.exit 0))
 (.seq
 (.block 1
 (.seq
 (.reg [.p (o2 (iaddrG 5) r5 r7) pushW, .p (o1 (loadnG 5) l0) pushW, .p (allocO [(.str 0 0), (.int .i64 (Int.ofNat 0)), (.str 0 0), .snil, .snil]) w4, .p (o1 mvG r7) w3, .p (o2 (storeG 5) r4 l0) noW])
 (.block 2
 (.seq
 (.reg [.p (o1 (faddrG 0) r4) pushW, .p (o1 load1G l0) pushW, .p (callO 41 [l0]) pushW, .p (o1 notG l0) pushW, .g l0 false false none (o1 (faddrG 0) r4) pushW, .g l1 false false none (o1 load1G l0) pushW, .g l2 false false none (o2 (binG addB) (ctK (.str 1 32)) l0) pushW, .g l3 false false none (o2 (binG addB) l0 (ctK (.str 1 32))) pushW, .g l4 false false none (callO 42 [(ctK (.str 34 961356317854820710213059487311157994386979551947476703340595819215633401072534048)), l0]) pushW, .p (o3 pickG l5 (ctK (.bool true)) l0) pushW, .p (o1 mvG l0) w12])
 (.cond r12
 (.seq
 (.reg [.p (o1 mvG (ctK (.int .i64 (Int.ofNat 15)))) w2])
 .ret)
 (.seq
 (.drw [.p (o2 (binG (cmpB .gtr gtI)) r3 (ctK (.int .i64 (Int.ofNat 0)))) pushW, .g l0 true false none (o1 mvG r0) pushW, .g l1 true false none (o1 mvG r3) pushW, .g l2 true false none (o2 (binG subB) l0 (ctK (.int .i64 (Int.ofNat 1)))) pushW, .g l3 true false none (o2 (iaddrG 5) l2 l0) pushW, .g l4 true false none (o1 (faddrG 0) l0) pushW, .g l5 true false none (o1 load1G l0) pushW, .g l6 true false none (o1 (faddrG 0) r4) pushW, .g l7 true false none (o1 load1G l0) pushW, .g l8 true false none (o2 (binG (cmpB .geq geI)) l2 l0) pushW, .p (o3 pickG l9 l0 (ctK (.bool false))) pushW, .p (o1 mvG l0) w24] [])
 (.cond r24
 (.seq
 (.reg [.p (o1 mvG (ctK (.int .i64 (Int.ofNat 6)))) w2])
 .ret)
 .skip)))))))
 (.reg [.p (o2 (binG addB) r7 (ctK (.int .i64 (Int.ofNat 1)))) pushW, .p (o1 mvG l0) w7])))))))
 (.seq
 (.reg [.p (o1 mvG (ctK (.int .i64 (Int.ofNat 0)))) w2])
 .ret))) }
theorem kf29_ok : (compFn Try.prog Try.f29 [[], [0, 5, 6, 7], [0, 5, 6, 7], [0, 5, 6, 7]]).bind (toKFn [9, 10, 11, 13, 14, 15, 16, 17, 18, 19, 20, 21, 22, 23, 25, 26, 27, 28, 29, 30, 31, 32, 33, 34, 35, 36, 37, 38] 1) = some kf29 := by kernel_rfl
noncomputable def kf41 : KFn := { params := [w0], res := [(.s r2)], body :=
 (.seq
 (.reg [.p (o1 mvG (ctK (.bool false))) w2])
 (.seq
 (.reg [.p (o2 (eqG eqSV true) r0 (ctK (.str 0 0))) pushW, .g l0 true false none (o1 mvG r0) pushW, .g l1 true false none (o1 lenSG l0) pushW, .g l2 true false none (o2 (binG (cmpB .leq leI)) l0 (ctK (.int .i64 (Int.ofNat 16)))) pushW, .p (o3 pickG l3 l0 (ctK (.bool false))) pushW, .g l0 true false none (o1 mvG r0) pushW, .g l1 true false none (o2 idxG l0 (ctK (.int .i64 (Int.ofNat 0)))) pushW, .g l2 true false none (callO 53 [l0]) pushW, .g l3 true false none (o1 notG l0) pushW, .p (o3 pickG l4 l0 (ctK (.bool false))) pushW, .g l0 true false none (o1 mvG r0) pushW, .g l1 true false none (callO 54 [l0]) pushW, .g l2 true false none (o1 mvG r0) pushW, .g l3 true false none (o1 lenSG l0) pushW, .g l4 true false none (o2 (eqG eqIV false) l2 l0) pushW, .p (o3 pickG l5 l0 (ctK (.bool false))) pushW, .p (o1 mvG l0) w2])
 .ret)) }
theorem kf41_ok : (compFn Try.prog Try.f41 []).bind (toKFn [3, 4, 5, 6, 7, 8, 9, 10, 11, 12, 13, 14, 15, 16, 17, 18, 19, 20, 21, 22] 1) = some kf41 := by kernel_rfl
noncomputable def kf53 : KFn := { params := [w0], res := [(.s r2)], body :=
 (.seq
 (.reg [.p (o1 mvG (ctK (.bool false))) w2])
 (.seq
 (.reg [.p (o2 (binG (cmpB .geq geI)) r0 (ctK (.int .u8 (Int.ofNat 48)))) pushW, .g l0 true false none (o1 mvG r0) pushW, .g l1 true false none (o2 (binG (cmpB .leq leI)) l0 (ctK (.int .u8 (Int.ofNat 57)))) pushW, .p (o3 pickG l2 l0 (ctK (.bool false))) pushW, .p (o1 mvG l0) w2])
 .ret)) }
theorem kf53_ok : (compFn Try.prog Try.f53 []).bind (toKFn [3, 4, 5, 6, 7, 8] 1) = some kf53 := by kernel_rfl
noncomputable def kf54 : KFn := { params := [w0], res := [(.s r2)], body :=
 (.seq
 (.reg [.p (o1 mvG (ctK (.int .i64 (Int.ofNat 0)))) w2])
 (.seq
 (.reg [.p (callO 59 [r0, (ctK (.fn 60 [] []))]) pushW, .p (o1 mvG l0) w2])
 .ret)) }
theorem kf54_ok : (compFn Try.prog Try.f54 []).bind (toKFn [3, 4] 1) = some kf54 := by kernel_rfl
noncomputable def kf59 : KFn := { params := [w0, w1], res := [(.s r4)], body :=
 (.seq
 (.reg [.p (o1 mvG (ctK (.int .i64 (Int.ofNat 0)))) w4])
 (.seq
 (.seq
 (.reg [.p (o1 rngSG r0) w7])
 (.block 0
 (.loop
 (.seq
 (.reg [.p (o1 nextSG r7) w8, .p (o1 (extG 0) r8) w9])
 (.seq
 (.cond r9
 .skip
 (.exit 0))
 (.block 1
 (.seq
 (.reg [.p (o1 (extG 1) r8) pushW, .p (o1 mvG l0) w5])
 (.seq
 (.reg [.p (o2 idxG r0 r5) pushW, .p (callvO r1 [l0]) pushW, .p (o1 notG l0) w16])
 (.cond r16
 (.seq
 (.reg [.p (o1 mvG r5) w4])
 .ret)
 .skip)))))))))
 (.seq
 (.reg [.p (o1 lenSG r0) pushW, .p (o1 mvG l0) w4])
 .ret))) }
theorem kf59_ok : (compFn Try.prog Try.f59 [[0], [0, 1, 7], [0, 1, 7, 8]]).bind (toKFn [6, 10, 11, 12, 13, 14, 15, 17, 18, 19] 2) = some kf59 := by kernel_rfl
noncomputable def kf60 : KFn := { params := [w0], res := [(.s r2)], body :=
 (.seq
 (.reg [.p (o1 mvG (ctK (.bool false))) w2])
 (.seq
 (.reg [.p (callO 61 [r0]) pushW, .g l0 false false none (o1 mvG r0) pushW, .g l1 false false none (callO 53 [l0]) pushW, .p (o3 pickG l2 (ctK (.bool true)) l0) pushW, .p (o1 mvG l0) w2])
 .ret)) }
theorem kf60_ok : (compFn Try.prog Try.f60 []).bind (toKFn [3, 4, 5, 6, 7, 8] 1) = some kf60 := by kernel_rfl
noncomputable def kf61 : KFn := { params := [w0], res := [(.s r2)], body :=
 (.seq
 (.reg [.p (o1 mvG (ctK (.bool false))) w2])
 (.seq
 (.reg [.p (o2 (eqG eqIV false) r0 (ctK (.int .u8 (Int.ofNat 95)))) pushW, .g l0 false false none (o1 mvG r0) pushW, .g l1 false false none (o2 (binG (slowBin .or)) l0 (ctK (.int .u8 (Int.ofNat 32)))) pushW, .g l2 false false none (o2 (binG (cmpB .geq geI)) l0 (ctK (.int .u8 (Int.ofNat 97)))) pushW, .g l3 false false none (o1 mvG l0) pushW, .g l0 true false none (o1 mvG r0) pushW, .g l1 true false none (o2 (binG (slowBin .or)) l0 (ctK (.int .u8 (Int.ofNat 32)))) pushW, .g l2 true false none (o2 (binG (cmpB .leq leI)) l0 (ctK (.int .u8 (Int.ofNat 122)))) pushW, .g l7 false false none (o3 pickG l3 l0 (ctK (.bool false))) pushW, .p (o3 pickG l8 (ctK (.bool true)) l0) pushW, .p (o1 mvG l0) w2])
 .ret)) }
theorem kf61_ok : (compFn Try.prog Try.f61 []).bind (toKFn [3, 4, 5, 6, 7, 8, 9, 10, 11, 12, 13, 14] 1) = some kf61 := by kernel_rfl
noncomputable def kf30 : KFn := { params := [w0], res := [(.s r2)], body :=
 (.seq
 (.reg [.p (o1 boxG r0) w1, .p (o1 mvG (ctK .mnil)) w2])
 (.seq
 (.reg [.p mkmapO pushW, .p (o1 mvG l0) w3])
 (.seq
 (.seq
 (.reg [.p (o1 (faddrG 4) r1) pushW, .p (o1 load1G l0) w8, .p (o1 lenLG r8) w9, .p (o1 mvG (ctK (.int .i64 (Int.ofNat 0)))) w10])
 (.block 0
 (.loop
 (.seq
 (.reg [.p (o2 (binG (cmpB .lss ltI)) r10 r9) w11])
 (.seq
 (.cond r11
 .skip
 (.exit 0))
 (.seq
 (.block 1
 (.seq
 (.reg [.p (o2 (iaddrG 5) r8 r10) pushW, .p (o1 (loadnG 5) l0) pushW, .p (allocO [(.str 0 0), (.int .i64 (Int.ofNat 0)), (.str 0 0), .snil, .snil]) w5, .p (o2 (storeG 5) r5 l0) noW])
 (.reg [.p (o1 (faddrG 0) r5) pushW, .p (o1 load1G l0) pushW, .p (o1 (faddrG 1) r5) pushW, .p (o1 (loadnG 4) l0) pushW, .p (o3 (mupdG (.one .s)) r3 l2 l0) noW])))
 (.reg [.p (o2 (binG addB) r10 (ctK (.int .i64 (Int.ofNat 1)))) pushW, .p (o1 mvG l0) w10])))))))
 (.seq
 (.reg [.p (o1 mvG r3) w2])
 .ret)))) }
theorem kf30_ok : (compFn Try.prog Try.f30 [[3], [3, 8, 9, 10], [3, 8, 9, 10], [3, 8, 9, 10]]).bind (toKFn [6, 7, 12, 13, 14, 15, 16, 17, 18, 19, 20] 1) = some kf30 := by kernel_rfl
noncomputable def kf31 : KFn := { params := [w0, w1, w2], res := [(.s r6)], body :=
 (.seq
 (.reg [.p (o1 boxG r1) w4, .p (o1 mvG (ctK (.int .i64 (Int.ofNat 0)))) w6])
 (.seq
 (.reg [.p (o1 nilckG r0) pushW, .p (o1 (faddrG 1) l0) pushW, .p (o1 load1G l0) pushW, .p (o2 (binG addB) l0 (ctK (.int .i64 (Int.ofNat 1)))) pushW, .p (o1 nilckG r0) pushW, .p (o1 (faddrG 1) l0) pushW, .p (o2 (storeG 1) l0 l2) noW])
 (.seq
 (.drw [.p (o1 nilckG r0) pushW, .p (o1 (faddrG 0) l0) pushW, .p (o1 load1G l0) pushW, .p (o1 (faddrG 1) r4) pushW, .p (o1 load1G l0) pushW, .p (o2 (lookupG (.one .s) (.agg [(.int .i64 (Int.ofNat 0)), (.str 0 0), .snil, .snil]) true) l2 l0) pushW, .p (o1 (extG 0) l0) pushW, .p (o1 (extG 1) l1) pushW, .p (allocO [(.int .i64 (Int.ofNat 0)), (.str 0 0), .snil, .snil]) pushW, .p (o2 (storeG 4) l0 l2) noW, .p (o1 mvG l1) w8] [])
 (.seq
 (.reg [.p (o1 (faddrG 0) r4) pushW, .p (o1 load1G l0) pushW, .p (o2 (eqG eqIV false) l0 (ctK (.int .i64 (Int.ofNat 7)))) pushW, .g l0 false false none (o1 (faddrG 0) r4) pushW, .g l1 false false none (o1 load1G l0) pushW, .g l2 false false none (o2 (eqG eqIV false) l0 (ctK (.int .i64 (Int.ofNat 8)))) pushW, .p (o3 pickG l3 (ctK (.bool true)) l0) pushW, .p (o1 mvG l0) w9])
 (.seq
 (.block 0
 (.seq
 (.reg [.p (o1 nilckG r0) pushW, .p (o1 (faddrG 1) l0) pushW, .p (o1 load1G l0) pushW, .p (o2 (binG (cmpB .gtr gtI)) l0 (ctK (.int .i64 (Int.ofNat 400)))) pushW, .p (o1 mvG l0) w39])
 (.cond r39
 (.seq
 (.reg [.p (o1 mvG (ctK (.int .i64 (Int.ofNat 3)))) w6])
 .ret)
 (.seq
 (.reg [.p (o2 (binG (cmpB .gtr gtI)) r2 (ctK (.int .i64 (Int.ofNat 12)))) pushW, .p (o1 mvG l0) w45])
 (.cond r45
 (.seq
 (.reg [.p (o1 mvG (ctK (.int .i64 (Int.ofNat 13)))) w6])
 .ret)
 (.seq
 (.reg [.p (o1 (faddrG 0) r4) pushW, .p (o1 load1G l0) pushW, .p (o2 (binG (cmpB .lss ltI)) l0 (ctK (.int .i64 (Int.ofNat 1)))) pushW, .g l0 false false none (o1 (faddrG 0) r4) pushW, .g l1 false false none (o1 load1G l0) pushW, .g l2 false false none (o2 (binG (cmpB .gtr gtI)) l0 (ctK (.int .i64 (Int.ofNat 9)))) pushW, .p (o3 pickG l3 (ctK (.bool true)) l0) pushW, .p (o1 mvG l0) w48])
 (.cond r48
 (.seq
 (.reg [.p (o1 mvG (ctK (.int .i64 (Int.ofNat 1)))) w6])
 .ret)
 (.seq
 (.drw [.p (o1 (faddrG 3) r4) w58, .p (o1 load1G r58) pushW, .p (o1 lenLG l0) pushW, .p (o1 (loadnG 4) r4) pushW, .m (callO 43 [l0]) pushW (some [58]), .p (o2 (eqG eqIV true) l2 l0) pushW, .g l0 false false none (o1 (faddrG 1) r4) pushW, .g l1 false false none (o1 load1G l0) pushW, .g l2 false false none (o2 (eqG eqSV true) l0 (ctK (.str 0 0))) pushW, .g l3 false false none (o1 mvG l0) pushW, .g l0 true false none (o1 (faddrG 0) r4) pushW, .g l1 true false none (o1 load1G l0) pushW, .g l2 true false none (o2 (eqG eqIV true) l0 (ctK (.int .i64 (Int.ofNat 9)))) pushW, .g l7 false false none (o3 pickG l3 l0 (ctK (.bool false))) pushW, .p (o3 pickG l8 (ctK (.bool true)) l0) pushW, .g l0 false false none (o1 (faddrG 2) r4) pushW, .g l1 false false none (o1 load1G l0) pushW, .g l2 false false none (o1 lenLG l0) pushW, .g l3 false false none (o2 (binG (cmpB .gtr gtI)) l0 (ctK (.int .i64 (Int.ofNat 0)))) pushW, .g l4 false false none (o1 mvG l0) pushW, .g l0 true false none (o1 mvG r9) pushW, .g l1 true false none (o1 notG l0) pushW, .g l7 false false none (o3 pickG l2 l0 (ctK (.bool false))) pushW, .p (o3 pickG l8 (ctK (.bool true)) l0) pushW, .p (o1 mvG l0) w57] [])
 (.cond r57
 (.seq
 (.reg [.p (o1 mvG (ctK (.int .i64 (Int.ofNat 12)))) w6])
 .ret)
 (.seq
 (.reg [.p (o1 (faddrG 0) r4) pushW, .p (o1 load1G l0) pushW, .p (o2 (eqG eqIV false) l0 (ctK (.int .i64 (Int.ofNat 9)))) pushW, .g l0 true false none (o1 mvG r8) pushW, .g l1 true false none (o1 notG l0) pushW, .p (o3 pickG l2 l0 (ctK (.bool false))) pushW, .p (o1 mvG l0) w84])
 (.cond r84
 (.seq
 (.reg [.p (o1 mvG (ctK (.int .i64 (Int.ofNat 15)))) w6])
 .ret)
 .skip)))))))))))
 (.seq
 (.seq
 (.reg [.p (o1 (loadnG 4) r4) pushW, .p (callO 44 [l0]) pushW, .p (o1 mvG l0) w10])
 (.seq
 (.reg [.p (o2 (eqG eqIV true) r10 (ctK (.int .i64 (Int.ofNat 0)))) w95])
 (.cond r95
 (.seq
 (.reg [.p (o1 mvG r10) w6])
 .ret)
 .skip)))
 (.seq
 (.seq
 (.reg [.p (o1 (faddrG 3) r4) pushW, .p (o1 load1G l0) w98, .p (o1 lenLG r98) w99, .p (o1 mvG (ctK (.int .i64 (Int.ofNat 0)))) w100])
 (.block 1
 (.loop
 (.seq
 (.reg [.p (o2 (binG (cmpB .lss ltI)) r100 r99) w101])
 (.seq
 (.cond r101
 .skip
 (.exit 1))
 (.seq
 (.block 2
 (.seq
 (.reg [.p (o2 (iaddrG 4) r98 r100) pushW, .p (o1 (loadnG 4) l0) pushW, .p (allocO [(.int .i64 (Int.ofNat 0)), (.str 0 0), .snil, .snil]) w12, .p (o2 (storeG 4) r12 l0) noW])
 (.seq
 (.reg [.p (o1 (loadnG 4) r12) pushW, .p (o2 (binG addB) r2 (ctK (.int .i64 (Int.ofNat 1)))) pushW, .p (callO 31 [r0, l1, l0]) pushW, .p (o1 mvG l0) w13])
 (.seq
 (.reg [.p (o2 (eqG eqIV true) r13 (ctK (.int .i64 (Int.ofNat 0)))) w110])
 (.cond r110
 (.seq
 (.reg [.p (o1 mvG r13) w6])
 .ret)
 .skip)))))
 (.reg [.p (o2 (binG addB) r100 (ctK (.int .i64 (Int.ofNat 1)))) pushW, .p (o1 mvG l0) w100])))))))
 (.seq
 (.reg [.p (o1 mvG (ctK (.int .i64 (Int.ofNat 0)))) w6])
 .ret)))))))) }
theorem kf31_ok : (compFn Try.prog Try.f31 [[0, 2, 4], [0, 2, 4], [], [0, 2, 98, 99, 100], [0, 2, 98, 99, 100], [0, 2, 98, 99, 100]]).bind (toKFn [7, 14, 15, 16, 17, 18, 19, 20, 21, 22, 23, 24, 25, 26, 27, 28, 29, 30, 31, 32, 33, 34, 35, 36, 37, 38, 40, 41, 42, 43, 44, 46, 47, 49, 50, 51, 52, 53, 54, 55, 56, 59, 60, 61, 62, 63, 64, 65, 66, 67, 68, 69, 70, 71, 72, 73, 74, 75, 76, 77, 78, 79, 80, 81, 82, 83, 85, 86, 87, 88, 89, 90, 91, 92, 93, 94, 96, 97, 102, 103, 104, 105, 106, 107, 108, 109, 111, 112] 3) = some kf31 := by kernel_rfl
noncomputable def kf43 : KFn := { params := [w0], res := [(.s r2)], body :=
 (.seq
 (.reg [.p (o1 boxG r0) w1, .p (o1 mvG (ctK (.int .i64 (Int.ofNat 0)))) w2])
 (.seq
 (.seq
 (.reg [.p (o1 (faddrG 0) r1) pushW, .p (o1 load1G l0) w4])
 (.block 0
 (.seq
 (.seq
 (.reg [.p (o2 (eqG eqIV false) r4 (ctK (.int .i64 (Int.ofNat 4)))) pushW, .p (o1 mvG l0) w5])
 (.cond r5
 .skip
 (.seq
 (.reg [.p (o2 (eqG eqIV false) r4 (ctK (.int .i64 (Int.ofNat 5)))) pushW, .p (o1 mvG l0) w5])
 (.cond r5
 .skip
 (.reg [.p (o2 (eqG eqIV false) r4 (ctK (.int .i64 (Int.ofNat 6)))) pushW, .p (o1 mvG l0) w5])))))
 (.cond r5
 (.seq
 (.reg [.p (o1 mvG (ctK (.int .i64 (Int.ofNat 1)))) w2])
 .ret)
 (.seq
 (.seq
 (.reg [.p (o2 (eqG eqIV false) r4 (ctK (.int .i64 (Int.ofNat 7)))) pushW, .p (o1 mvG l0) w9])
 (.cond r9
 .skip
 (.reg [.p (o2 (eqG eqIV false) r4 (ctK (.int .i64 (Int.ofNat 8)))) pushW, .p (o1 mvG l0) w9])))
 (.cond r9
 (.seq
 (.reg [.p (o1 (faddrG 2) r1) pushW, .p (o1 load1G l0) pushW, .p (o1 lenLG l0) pushW, .p (o1 mvG l0) w2])
 .ret)
 .skip))))))
 (.seq
 (.reg [.p (o1 mvG (ctK (.int .i64 (Int.ofNat 0)))) w2])
 .ret))) }
theorem kf43_ok : (compFn Try.prog Try.f43 [[], [1, 4, 5], [1, 9]]).bind (toKFn [3, 6, 7, 8, 10, 11, 12, 13, 14] 1) = some kf43 := by kernel_rfl
noncomputable def kf44 : KFn := { params := [w0], res := [(.s r2)], body :=
 (.seq
 (.reg [.p (o1 boxG r0) w1, .p (o1 mvG (ctK (.int .i64 (Int.ofNat 0)))) w2])
 (.seq
 (.seq
 (.reg [.p (o1 (faddrG 2) r1) pushW, .p (o1 load1G l0) pushW, .p (o1 lenLG l0) pushW, .p (o2 (binG (cmpB .gtr gtI)) l0 (ctK (.int .i64 (Int.ofNat 8)))) w8])
 (.cond r8
 (.seq
 (.reg [.p (o1 mvG (ctK (.int .i64 (Int.ofNat 3)))) w2])
 .ret)
 .skip))
 (.seq
 (.seq
 (.reg [.p (o1 (faddrG 2) r1) pushW, .p (o1 load1G l0) w10, .p (o1 lenLG r10) w11, .p (o1 mvG (ctK (.int .i64 (Int.ofNat 0)))) w12])
 (.block 0
 (.loop
 (.seq
 (.reg [.p (o2 (binG (cmpB .lss ltI)) r12 r11) w13])
 (.seq
 (.cond r13
 .skip
 (.exit 0))
 (.seq
 (.block 1
 (.seq
 (.reg [.p (o2 (iaddrG 1) r10 r12) pushW, .p (o1 load1G l0) pushW, .p (o1 mvG r12) w3, .p (o1 mvG l0) w4])
 (.block 2
 (.seq
 (.reg [.p (callO 41 [r4]) pushW, .p (o1 notG l0) pushW, .p (o1 mvG l0) w17])
 (.cond r17
 (.seq
 (.reg [.p (o1 mvG (ctK (.int .i64 (Int.ofNat 15)))) w2])
 .ret)
 (.seq
 (.reg [.p (o2 (binG (cmpB .gtr gtI)) r3 (ctK (.int .i64 (Int.ofNat 0)))) pushW, .g l0 true false none (o1 (faddrG 2) r1) pushW, .g l1 true false none (o1 load1G l0) pushW, .g l2 true false none (o1 mvG r3) pushW, .g l3 true false none (o2 (binG subB) l0 (ctK (.int .i64 (Int.ofNat 1)))) pushW, .g l4 true false none (o2 (iaddrG 1) l2 l0) pushW, .g l5 true false none (o1 load1G l0) pushW, .g l6 true false none (o1 mvG r4) pushW, .g l7 true false none (o2 (binG (cmpB .geq geI)) l1 l0) pushW, .p (o3 pickG l8 l0 (ctK (.bool false))) pushW, .p (o1 mvG l0) w21])
 (.cond r21
 (.seq
 (.reg [.p (o1 mvG (ctK (.int .i64 (Int.ofNat 6)))) w2])
 .ret)
 .skip)))))))
 (.reg [.p (o2 (binG addB) r12 (ctK (.int .i64 (Int.ofNat 1)))) pushW, .p (o1 mvG l0) w12])))))))
 (.seq
 (.seq
 (.reg [.p (o1 (faddrG 0) r1) pushW, .p (o1 load1G l0) pushW, .p (o2 (eqG eqIV false) l0 (ctK (.int .i64 (Int.ofNat 8)))) pushW, .g l0 true false none (o1 (faddrG 2) r1) pushW, .g l1 true false none (o1 load1G l0) pushW, .g l2 true false none (o1 lenLG l0) pushW, .g l3 true false none (o2 (eqG eqIV false) l0 (ctK (.int .i64 (Int.ofNat 0)))) pushW, .p (o3 pickG l4 l0 (ctK (.bool false))) w43])
 (.cond r43
 (.seq
 (.reg [.p (o1 mvG (ctK (.int .i64 (Int.ofNat 12)))) w2])
 .ret)
 .skip))
 (.seq
 (.reg [.p (o1 mvG (ctK (.int .i64 (Int.ofNat 0)))) w2])
 .ret))))) }
theorem kf44_ok : (compFn Try.prog Try.f44 [[1], [1], [1, 10, 11, 12], [1, 10, 11, 12], [1, 10, 11, 12], []]).bind (toKFn [5, 6, 7, 9, 14, 15, 16, 18, 19, 20, 22, 23, 24, 25, 26, 27, 28, 29, 30, 31, 32, 33, 34, 35, 36, 37, 38, 39, 40, 41, 42] 1) = some kf44 := by kernel_rfl
noncomputable def kf32 : KFn := { params := [w0, w1], res := [(.s r4)], body :=
 (.seq
 (.reg [.p (o1 mvG (ctK (.int .i64 (Int.ofNat 0)))) w4])
 (.seq
 (.seq
 (.reg [.p (o1 mvG r1) w8, .p (o1 lenLG r8) w9, .p (o1 mvG (ctK (.int .i64 (Int.ofNat 0)))) w10])
 (.block 0
 (.loop
 (.seq
 (.reg [.p (o2 (binG (cmpB .lss ltI)) r10 r9) w11])
 (.seq
 (.cond r11
 .skip
 (.exit 0))
 (.seq
 (.block 1
 (.seq
 (.reg [.p (o2 (iaddrG 6) r8 r10) pushW, .p (o1 (loadnG 6) l0) pushW, .p (allocO [(.str 0 0), .snil, (.int .i64 (Int.ofNat 0)), (.str 0 0), .snil, .snil]) w6, .p (o1 mvG r10) w5, .p (o2 (storeG 6) r6 l0) noW])
 (.seq
 (.block 2
 (.seq
 (.reg [.p (o1 (faddrG 0) r6) pushW, .p (o1 load1G l0) pushW, .p (callO 41 [l0]) pushW, .p (o1 notG l0) pushW, .g l0 false false none (o1 (faddrG 0) r6) pushW, .g l1 false false none (o1 load1G l0) pushW, .g l2 false false none (callO 45 [l0]) pushW, .p (o3 pickG l3 (ctK (.bool true)) l0) pushW, .p (o1 mvG l0) w15])
 (.cond r15
 (.seq
 (.reg [.p (o1 mvG (ctK (.int .i64 (Int.ofNat 15)))) w4])
 .ret)
 (.seq
 (.drw [.p (o2 (binG (cmpB .gtr gtI)) r5 (ctK (.int .i64 (Int.ofNat 0)))) pushW, .g l0 true false none (o1 mvG r1) pushW, .g l1 true false none (o1 mvG r5) pushW, .g l2 true false none (o2 (binG subB) l0 (ctK (.int .i64 (Int.ofNat 1)))) pushW, .g l3 true false none (o2 (iaddrG 6) l2 l0) pushW, .g l4 true false none (o1 (faddrG 0) l0) pushW, .g l5 true false none (o1 load1G l0) pushW, .g l6 true false none (o1 (faddrG 0) r6) pushW, .g l7 true false none (o1 load1G l0) pushW, .g l8 true false none (o2 (binG (cmpB .geq geI)) l2 l0) pushW, .p (o3 pickG l9 l0 (ctK (.bool false))) pushW, .p (o1 mvG l0) w25] [])
 (.cond r25
 (.seq
 (.reg [.p (o1 mvG (ctK (.int .i64 (Int.ofNat 6)))) w4])
 .ret)
 (.seq
 (.reg [.p (o1 (faddrG 1) r6) pushW, .p (o1 load1G l0) pushW, .p (o1 lenLG l0) pushW, .p (o2 (binG (cmpB .gtr gtI)) l0 (ctK (.int .i64 (Int.ofNat 4)))) pushW, .p (o1 mvG l0) w39])
 (.cond r39
 (.seq
 (.reg [.p (o1 mvG (ctK (.int .i64 (Int.ofNat 18)))) w4])
 .ret)
 .skip)))))))
 (.seq
 (.drw [.p (o1 (faddrG 1) r6) pushW, .p (o1 load1G l0) pushW, .m (callO 21 [l0]) pushW none, .p (o1 (faddrG 2) r6) pushW, .p (o1 (loadnG 4) l0) pushW, .p (bslO 4 1 [(.int .i64 (Int.ofNat 0)), (.str 0 0), .snil, .snil] [(0, 4, l0)]) pushW, .p (o2 (appG 4) l3 l0) pushW, .m (callO 46 [r0, l0]) pushW (some []), .p (o1 mvG l0) w7] [])
 (.seq
 (.reg [.p (o2 (eqG eqIV true) r7 (ctK (.int .i64 (Int.ofNat 0)))) w54])
 (.cond r54
 (.seq
 (.reg [.p (o1 mvG r7) w4])
 .ret)
 .skip))))))
 (.reg [.p (o2 (binG addB) r10 (ctK (.int .i64 (Int.ofNat 1)))) pushW, .p (o1 mvG l0) w10])))))))
 (.seq
 (.reg [.p (o1 mvG (ctK (.int .i64 (Int.ofNat 0)))) w4])
 .ret))) }
theorem kf32_ok : (compFn Try.prog Try.f32 [[], [0, 1, 8, 9, 10], [0, 1, 8, 9, 10], [0, 1, 8, 9, 10], [0, 1, 6, 8, 9, 10]]).bind (toKFn [12, 13, 14, 16, 17, 18, 19, 20, 21, 22, 23, 24, 26, 27, 28, 29, 30, 31, 32, 33, 34, 35, 36, 37, 38, 40, 41, 42, 43, 44, 45, 46, 47, 48, 49, 50, 51, 52, 53, 55, 56] 2) = some kf32 := by kernel_rfl
noncomputable def kf45 : KFn := { params := [w0], res := [(.s r2)], body :=
 (.seq
 (.reg [.p (o1 mvG (ctK (.bool false))) w2])
 (.seq
 (.reg [.p (callO 41 [r0]) pushW, .g l0 true false none (o1 mvG r0) pushW, .g l1 true false none (o2 (binG addB) (ctK (.str 1 32)) l0) pushW, .g l2 true false none (o2 (binG addB) l0 (ctK (.str 1 32))) pushW, .g l3 true false none (callO 42 [(ctK (.str 91 178686683887446287100313889210838612883293650169161782699781515008887049184836398825504385070224074575899429074951214181473750552558099404030661262664651392350738735132031991416282501624620935436484047697889576312204320)), l0]) pushW, .p (o3 pickG l4 l0 (ctK (.bool false))) pushW, .p (o1 mvG l0) w2])
 .ret)) }
theorem kf45_ok : (compFn Try.prog Try.f45 []).bind (toKFn [3, 4, 5, 6, 7, 8, 9, 10] 1) = some kf45 := by kernel_rfl
noncomputable def kf21 : KFn := { params := [w0], res := [(.s r2)], body :=
 (.seq
 (.reg [.p (o1 mvG (ctK .snil)) w2])
 (.seq
 (.seq
 (.reg [.p (o2 (eqG (slowEq (.one .l)) false) r0 (ctK .snil)) w4])
 (.cond r4
 (.seq
 (.reg [.p (o1 mvG (ctK .snil)) w2])
 .ret)
 .skip))
 (.seq
 (.reg [.p (bslO 4 0 [] []) pushW, .p (o2 (appG 4) l0 r0) pushW, .p (o1 mvG l0) w2])
 .ret))) }
theorem kf21_ok : (compFn Try.prog Try.f21 [[0]]).bind (toKFn [3, 5, 6, 7] 1) = some kf21 := by kernel_rfl
noncomputable def kf46 : KFn := { params := [w0, w1], res := [(.s r4)], body :=
 (.seq
 (.reg [.p (o1 mvG (ctK (.int .i64 (Int.ofNat 0)))) w4])
 (.seq
 (.seq
 (.reg [.p (o1 mvG r1) w8, .p (o1 lenLG r8) w9, .p (o1 mvG (ctK (.int .i64 (Int.ofNat 0)))) w10])
 (.block 0
 (.loop
 (.seq
 (.reg [.p (o2 (binG (cmpB .lss ltI)) r10 r9) w11])
 (.seq
 (.cond r11
 .skip
 (.exit 0))
 (.seq
 (.block 1
 (.seq
 (.reg [.p (o2 (iaddrG 4) r8 r10) pushW, .p (o1 (loadnG 4) l0) pushW, .p (allocO [(.int .i64 (Int.ofNat 0)), (.str 0 0), .snil, .snil]) w6, .p (o2 (storeG 4) r6 l0) noW])
 (.seq
 (.reg [.p (o1 (loadnG 4) r6) pushW, .p (callO 31 [r0, l0, (ctK (.int .i64 (Int.ofNat 1)))]) pushW, .p (o1 mvG l0) w7])
 (.seq
 (.reg [.p (o2 (eqG eqIV true) r7 (ctK (.int .i64 (Int.ofNat 0)))) w18])
 (.cond r18
 (.seq
 (.reg [.p (o1 mvG r7) w4])
 .ret)
 .skip)))))
 (.reg [.p (o2 (binG addB) r10 (ctK (.int .i64 (Int.ofNat 1)))) pushW, .p (o1 mvG l0) w10])))))))
 (.seq
 (.reg [.p (o1 mvG (ctK (.int .i64 (Int.ofNat 0)))) w4])
 .ret))) }
theorem kf46_ok : (compFn Try.prog Try.f46 [[], [0, 8, 9, 10], [0, 8, 9, 10], [0, 8, 9, 10]]).bind (toKFn [12, 13, 14, 15, 16, 17, 19, 20] 2) = some kf46 := by kernel_rfl
noncomputable def kf33 : KFn := { params := [w0, w1], res := [(.s r4)], body :=
 (.seq
 (.reg [.p (o1 boxG r0) w2, .p (o1 boxG r1) w3, .p (o1 mvG (ctK (.bool false))) w4])
 (.seq
 (.reg [.p (o1 (loadnG 6) r2) pushW, .p (callO 30 [l0]) pushW, .p (buildO [.mnil, (.int .i64 (Int.ofNat 0))] [(0, 1, l0)]) pushW, .p (o1 boxG l0) pushW, .p (o1 mvG l0) w5])
 (.seq
 (.seq
 (.reg [.p (o1 (faddrG 4) r2) pushW, .p (o1 load1G l0) w16, .p (o1 lenLG r16) w17, .p (o1 mvG (ctK (.int .i64 (Int.ofNat 0)))) w18])
 (.block 0
 (.loop
 (.seq
 (.reg [.p (o2 (binG (cmpB .lss ltI)) r18 r17) w19])
 (.seq
 (.cond r19
 .skip
 (.exit 0))
 (.seq
 (.block 1
 (.seq
 (.reg [.p (o2 (iaddrG 5) r16 r18) pushW, .p (o1 (loadnG 5) l0) pushW, .p (allocO [(.str 0 0), (.int .i64 (Int.ofNat 0)), (.str 0 0), .snil, .snil]) w7, .p (o2 (storeG 5) r7 l0) noW])
 (.seq
 (.reg [.p (o1 (faddrG 1) r7) pushW, .p (o1 (loadnG 4) l0) pushW, .p (callO 31 [r5, l0, (ctK (.int .i64 (Int.ofNat 1)))]) pushW, .p (o2 (eqG eqIV true) l0 (ctK (.int .i64 (Int.ofNat 0)))) w26])
 (.cond r26
 (.seq
 (.reg [.p (o1 mvG (ctK (.bool false))) w4])
 .ret)
 .skip))))
 (.reg [.p (o2 (binG addB) r18 (ctK (.int .i64 (Int.ofNat 1)))) pushW, .p (o1 mvG l0) w18])))))))
 (.seq
 (.reg [.p (o1 nilckG r5) pushW, .p (o1 (faddrG 1) l0) pushW, .p (o2 (storeG 1) l0 (ctK (.int .i64 (Int.ofNat 0)))) noW])
 (.seq
 (.seq
 (.reg [.p (o1 (loadnG 4) r3) pushW, .p (callO 31 [r5, l0, (ctK (.int .i64 (Int.ofNat 1)))]) pushW, .p (o2 (eqG eqIV true) l0 (ctK (.int .i64 (Int.ofNat 0)))) w34])
 (.cond r34
 (.seq
 (.reg [.p (o1 mvG (ctK (.bool false))) w4])
 .ret)
 .skip))
 (.seq
 (.reg [.p mkmapO pushW, .p (o1 mvG l0) w8])
 (.seq
 (.seq
 (.reg [.p (o1 (faddrG 4) r2) pushW, .p (o1 load1G l0) pushW, .p (o1 lenLG l0) w38, .p (o1 mvG (ctK (.int .i64 (Int.ofNat 0)))) w39])
 (.block 2
 (.loop
 (.seq
 (.reg [.p (o2 (binG (cmpB .lss ltI)) r39 r38) w40])
 (.seq
 (.cond r40
 .skip
 (.exit 2))
 (.seq
 (.block 3
 (.seq
 (.reg [.p (o1 (faddrG 4) r2) pushW, .p (o1 load1G l0) w42, .p (o1 lenLG r42) w43, .p (o1 mvG (ctK (.int .i64 (Int.ofNat 0)))) w44])
 (.block 4
 (.loop
 (.seq
 (.reg [.p (o2 (binG (cmpB .lss ltI)) r44 r43) w45])
 (.seq
 (.cond r45
 .skip
 (.exit 4))
 (.seq
 (.block 5
 (.seq
 (.reg [.p (o2 (iaddrG 5) r42 r44) pushW, .p (o1 (loadnG 5) l0) pushW, .p (allocO [(.str 0 0), (.int .i64 (Int.ofNat 0)), (.str 0 0), .snil, .snil]) w10, .p (o2 (storeG 5) r10 l0) noW])
 (.drw [.p (o1 (faddrG 0) r10) w49, .p (o1 load1G r49) pushW, .p (o1 (faddrG 0) r10) pushW, .p (o1 load1G l0) pushW, .p (o2 (lookupG (.one .s) (.bool false) false) r8 l0) pushW, .g l0 false false none (o1 (faddrG 1) r10) pushW, .g l1 false false none (o1 (loadnG 4) l0) pushW, .g l2 false false none (o1 mvG r8) pushW, .g l3 false true (some [49]) (callO 47 [l1, l0, (ctK (.int .i64 (Int.ofNat 1)))]) pushW, .p (o3 pickG l4 (ctK (.bool true)) l0) pushW, .p (o3 (mupdG (.one .s)) r8 l8 l0) noW] [])))
 (.reg [.p (o2 (binG addB) r44 (ctK (.int .i64 (Int.ofNat 1)))) pushW, .p (o1 mvG l0) w44]))))))))
 (.reg [.p (o2 (binG addB) r39 (ctK (.int .i64 (Int.ofNat 1)))) pushW, .p (o1 mvG l0) w39])))))))
 (.seq
 (.reg [.p (o1 (loadnG 4) r3) pushW, .p (callO 47 [l0, r8, (ctK (.int .i64 (Int.ofNat 1)))]) pushW, .p (o1 mvG l0) w4])
 .ret)))))))) }
theorem kf33_ok : (compFn Try.prog Try.f33 [[2, 3, 5], [2, 3, 5, 16, 17, 18], [2, 3, 5, 16, 17, 18], [2, 3, 5, 16, 17, 18], [2, 3], [3, 8], [2, 3, 8, 38, 39], [2, 3, 8, 38, 39], [2, 3, 8, 38, 39], [2, 3, 8, 38, 39, 42, 43, 44], [2, 3, 8, 38, 39, 42, 43, 44], [2, 3, 8, 38, 39, 42, 43, 44]]).bind (toKFn [11, 12, 13, 14, 15, 20, 21, 22, 23, 24, 25, 27, 28, 29, 30, 31, 32, 33, 35, 36, 37, 41, 46, 47, 48, 50, 51, 52, 53, 54, 55, 56, 57, 58, 59, 60, 61, 62, 63, 64, 65] 2) = some kf33 := by kernel_rfl
noncomputable def kf47 : KFn := { params := [w0, w1, w2], res := [(.s r6)], body :=
 (.seq
 (.reg [.p (o1 boxG r0) w3, .p (o1 boxG r1) w4, .p (o1 boxG r2) w5, .p (o1 mvG (ctK (.bool false))) w6])
 (.seq
 (.seq
 (.reg [.p (o1 load1G r5) pushW, .p (o2 (binG (cmpB .gtr gtI)) l0 (ctK (.int .i64 (Int.ofNat 12)))) w9])
 (.cond r9
 (.seq
 (.reg [.p (o1 mvG (ctK (.bool false))) w6])
 .ret)
 .skip))
 (.seq
 (.reg [.p (mkfnO 56 [] [r4, r5]) pushW, .p (allocO [.fnil]) w7, .p (o2 (storeG 1) r7 l0) noW])
 (.seq
 (.seq
 (.reg [.p (o1 (faddrG 0) r3) pushW, .p (o1 load1G l0) w12])
 (.block 0
 (.seq
 (.reg [.p (o2 (eqG eqIV false) r12 (ctK (.int .i64 (Int.ofNat 9)))) pushW, .p (o1 mvG l0) w13])
 (.cond r13
 (.seq
 (.reg [.p (o1 load1G r4) pushW, .p (o1 (faddrG 1) r3) pushW, .p (o1 load1G l0) pushW, .p (o2 (lookupG (.one .s) (.bool false) false) l2 l0) pushW, .p (o1 mvG l0) w6])
 .ret)
 (.seq
 (.reg [.p (o2 (eqG eqIV false) r12 (ctK (.int .i64 (Int.ofNat 8)))) pushW, .p (o1 mvG l0) w19])
 (.cond r19
 (.seq
 (.reg [.p (o1 (faddrG 3) r3) pushW, .p (o1 load1G l0) pushW, .p (o1 load1G r7) pushW, .p (callO 34 [l1, l0]) pushW, .p (o1 mvG l0) w6])
 .ret)
 (.seq
 (.reg [.p (o2 (eqG eqIV false) r12 (ctK (.int .i64 (Int.ofNat 7)))) pushW, .p (o1 mvG l0) w25])
 (.cond r25
 (.seq
 (.reg [.p (o1 (faddrG 3) r3) pushW, .p (o1 load1G l0) pushW, .p (mkfnO 57 [] [r7]) pushW, .p (callO 34 [l1, l0]) pushW, .p (o1 notG l0) pushW, .p (o1 mvG l0) w6])
 .ret)
 .skip))))))))
 (.seq
 (.reg [.p (o1 mvG (ctK (.bool true))) w6])
 .ret))))) }
theorem kf47_ok : (compFn Try.prog Try.f47 [[3, 4, 5], []]).bind (toKFn [8, 10, 11, 14, 15, 16, 17, 18, 20, 21, 22, 23, 24, 26, 27, 28, 29, 30, 31] 3) = some kf47 := by kernel_rfl
noncomputable def kf56 : KFn := { params := [w0, w1, w2], res := [(.s r4)], body :=
 (.seq
 (.reg [.p (o1 boxG r0) w3, .p (o1 mvG (ctK (.bool false))) w4])
 (.seq
 (.reg [.p (o1 (loadnG 4) r3) pushW, .p (o1 load1G r1) pushW, .p (o1 load1G r2) pushW, .p (o2 (binG addB) l0 (ctK (.int .i64 (Int.ofNat 1)))) pushW, .p (callO 47 [l3, l2, l0]) pushW, .p (o1 mvG l0) w4])
 .ret)) }
theorem kf56_ok : (compFn Try.prog Try.f56 []).bind (toKFn [5, 6, 7, 8, 9] 3) = some kf56 := by kernel_rfl
noncomputable def kf34 : KFn := { params := [w0, w1], res := [(.s r4)], body :=
 (.seq
 (.reg [.p (o1 mvG (ctK (.bool false))) w4])
 (.seq
 (.reg [.p (callO 48 [r0, r1]) pushW, .p (o2 (binG (cmpB .geq geI)) l0 (ctK (.int .i64 (Int.ofNat 0)))) pushW, .p (o1 mvG l0) w4])
 .ret)) }
theorem kf34_ok : (compFn Try.prog Try.f34 []).bind (toKFn [5, 6, 7, 8] 2) = some kf34 := by kernel_rfl
noncomputable def kf48 : KFn := { params := [w0, w1], res := [(.s r4)], body :=
 (.seq
 (.reg [.p (o1 mvG (ctK (.int .i64 (Int.ofNat 0)))) w4])
 (.seq
 (.seq
 (.reg [.p (o1 lenLG r0) w7, .p (o1 mvG (ctK (.int .i64 (Int.ofNat 0)))) w8])
 (.block 0
 (.loop
 (.seq
 (.reg [.p (o2 (binG (cmpB .lss ltI)) r8 r7) w9])
 (.seq
 (.cond r9
 .skip
 (.exit 0))
 (.seq
 (.block 1
 (.seq
 (.reg [.p (o1 mvG r8) w5])
 (.seq
 (.reg [.p (o2 (iaddrG 4) r0 r5) pushW, .p (o1 (loadnG 4) l0) pushW, .p (callvO r1 [l0]) w16])
 (.cond r16
 (.seq
 (.reg [.p (o1 mvG r5) w4])
 .ret)
 .skip))))
 (.reg [.p (o2 (binG addB) r8 (ctK (.int .i64 (Int.ofNat 1)))) pushW, .p (o1 mvG l0) w8])))))))
 (.seq
 (.reg [.p (o1 mvG (ctK (.int .i64 (Int.negSucc 0)))) w4])
 .ret))) }
theorem kf48_ok : (compFn Try.prog Try.f48 [[], [0, 1, 7, 8], [0, 1, 7, 8], [0, 1, 7, 8]]).bind (toKFn [6, 10, 11, 12, 13, 14, 15, 17, 18] 2) = some kf48 := by kernel_rfl
noncomputable def kf57 : KFn := { params := [w0, w1], res := [(.s r3)], body :=
 (.seq
 (.reg [.p (o1 boxG r0) w2, .p (o1 mvG (ctK (.bool false))) w3])
 (.seq
 (.reg [.p (o1 load1G r1) pushW, .p (o1 (loadnG 4) r2) pushW, .p (callvO l1 [l0]) pushW, .p (o1 notG l0) pushW, .p (o1 mvG l0) w3])
 .ret)) }
theorem kf57_ok : (compFn Try.prog Try.f57 []).bind (toKFn [4, 5, 6, 7] 2) = some kf57 := by kernel_rfl
noncomputable def kf35 : KFn := { params := [w0], res := [(.s r2)], body :=
 (.seq
 (.reg [.p (o1 boxG r0) w1, .p (o1 mvG (ctK .snil)) w2])
 (.seq
 (.reg [.p (o1 mvG (ctK .snil)) w3])
 (.seq
 (.seq
 (.reg [.p (o1 (faddrG 4) r1) pushW, .p (o1 load1G l0) w9, .p (o1 lenLG r9) w10, .p (o1 mvG (ctK (.int .i64 (Int.ofNat 0)))) w11])
 (.block 0
 (.loop
 (.seq
 (.reg [.p (o2 (binG (cmpB .lss ltI)) r11 r10) w12])
 (.seq
 (.cond r12
 .skip
 (.exit 0))
 (.seq
 (.block 1
 (.seq
 (.reg [.p (o2 (iaddrG 5) r9 r11) pushW, .p (o1 (loadnG 5) l0) pushW, .p (allocO [(.str 0 0), (.int .i64 (Int.ofNat 0)), (.str 0 0), .snil, .snil]) w5, .p (o2 (storeG 5) r5 l0) noW])
 (.reg [.p (o1 mvG r3) pushW, .p (o1 (faddrG 1) r5) pushW, .p (o1 (loadnG 4) l0) pushW, .p (bslO 4 1 [(.int .i64 (Int.ofNat 0)), (.str 0 0), .snil, .snil] [(0, 4, l0)]) pushW, .p (o2 (appG 4) l3 l0) pushW, .p (o1 mvG l0) w3])))
 (.reg [.p (o2 (binG addB) r11 (ctK (.int .i64 (Int.ofNat 1)))) pushW, .p (o1 mvG l0) w11])))))))
 (.seq
 (.reg [.p (o1 mvG r3) pushW, .p (o1 (faddrG 0) r1) pushW, .p (o1 (loadnG 4) l0) pushW, .p (bslO 4 1 [(.int .i64 (Int.ofNat 0)), (.str 0 0), .snil, .snil] [(0, 4, l0)]) pushW, .p (o2 (appG 4) l3 l0) pushW, .p (o1 mvG l0) w3])
 (.seq
 (.seq
 (.reg [.p (o1 (faddrG 5) r1) pushW, .p (o1 load1G l0) w27, .p (o1 lenLG r27) w28, .p (o1 mvG (ctK (.int .i64 (Int.ofNat 0)))) w29])
 (.block 2
 (.loop
 (.seq
 (.reg [.p (o2 (binG (cmpB .lss ltI)) r29 r28) w30])
 (.seq
 (.cond r30
 .skip
 (.exit 2))
 (.seq
 (.block 3
 (.seq
 (.reg [.p (o2 (iaddrG 6) r27 r29) pushW, .p (o1 (loadnG 6) l0) pushW, .p (allocO [(.str 0 0), .snil, (.int .i64 (Int.ofNat 0)), (.str 0 0), .snil, .snil]) w7, .p (o2 (storeG 6) r7 l0) noW])
 (.drw [.p (o1 mvG r3) w33, .p (o1 (faddrG 1) r7) pushW, .p (o1 load1G l0) pushW, .p (o2 (appG 4) r33 l0) pushW, .p (o1 (faddrG 2) r7) w37, .p (o1 (loadnG 4) r37) pushW, .p (bslO 4 1 [(.int .i64 (Int.ofNat 0)), (.str 0 0), .snil, .snil] [(0, 4, l0)]) pushW, .p (o2 (appG 4) l2 l0) pushW, .p (o1 mvG l0) w3] [([r33], [r37])])))
 (.reg [.p (o2 (binG addB) r29 (ctK (.int .i64 (Int.ofNat 1)))) pushW, .p (o1 mvG l0) w29])))))))
 (.seq
 (.reg [.p (o1 mvG r3) w2])
 .ret)))))) }
theorem kf35_ok : (compFn Try.prog Try.f35 [[1, 3], [1, 3, 9, 10, 11], [1, 3, 9, 10, 11], [1, 3, 9, 10, 11], [3], [3, 27, 28, 29], [3, 27, 28, 29], [3, 27, 28, 29]]).bind (toKFn [8, 13, 14, 15, 16, 17, 18, 19, 20, 21, 22, 23, 24, 25, 26, 31, 32, 34, 35, 36, 38, 39, 40, 41, 42] 1) = some kf35 := by kernel_rfl
noncomputable def kf36 : KFn := { params := [w0, w1], res := [(.s r4)], body :=
 (.seq
 (.reg [.p (o1 boxG r1) w3, .p (o1 mvG (ctK (.bool false))) w4])
 (.seq
 (.seq
 (.reg [.p (o1 (faddrG 0) r3) pushW, .p (o1 load1G l0) pushW, .p (o2 (eqG eqIV false) l0 (ctK (.int .i64 (Int.ofNat 6)))) pushW, .g l0 true false none (o1 (faddrG 3) r3) pushW, .g l1 true false none (o1 load1G l0) pushW, .g l2 true false none (o1 lenLG l0) pushW, .g l3 true false none (o2 (eqG eqIV false) l0 (ctK (.int .i64 (Int.ofNat 1)))) pushW, .p (o3 pickG l4 l0 (ctK (.bool false))) w14])
 (.cond r14
 (.seq
 (.reg [.p (o1 (faddrG 3) r3) pushW, .p (o1 load1G l0) pushW, .p (o2 (iaddrG 4) l0 (ctK (.int .i64 (Int.ofNat 0)))) pushW, .p (o1 (loadnG 4) l0) pushW, .p (allocO [(.int .i64 (Int.ofNat 0)), (.str 0 0), .snil, .snil]) w5, .p (o2 (storeG 4) r5 l0) noW])
 (.seq
 (.seq
 (.reg [.p (o1 nilckG r0) pushW, .p (o1 (faddrG 0) l0) pushW, .p (o1 load1G l0) pushW, .p (o1 rngMG l0) w23])
 (.block 0
 (.loop
 (.seq
 (.reg [.p (o1 nextMG r23) pushW, .p (o1 (extG 0) l0) w25])
 (.seq
 (.cond r25
 .skip
 (.exit 0))
 (.block 1
 (.seq
 (.reg [.p (o1 (faddrG 0) r5) pushW, .p (o1 load1G l0) pushW, .p (o2 (eqG eqIV false) l0 (ctK (.int .i64 (Int.ofNat 9)))) w29])
 (.cond r29
 (.drw [.p (o1 nilckG r0) pushW, .p (o1 (faddrG 0) l0) pushW, .p (o1 load1G l0) pushW, .p (o1 (faddrG 1) r5) pushW, .p (o1 load1G l0) pushW, .p (o2 (lookupG (.one .s) (.agg [(.int .i64 (Int.ofNat 0)), (.str 0 0), .snil, .snil]) false) l2 l0) pushW, .p (o2 (storeG 4) r5 l0) noW] [])
 .skip))))))))
 (.seq
 (.reg [.p (o1 (faddrG 0) r5) pushW, .p (o1 load1G l0) pushW, .p (o2 (eqG eqIV false) l0 (ctK (.int .i64 (Int.ofNat 6)))) w39])
 (.cond r39
 (.seq
 (.reg [.p (o1 mvG (ctK (.bool true))) w4])
 .ret)
 .skip))))
 .skip))
 (.seq
 (.reg [.p (o1 (faddrG 3) r3) pushW, .p (o1 load1G l0) pushW, .p (mkfnO 36 [r0] []) pushW, .p (callO 34 [l1, l0]) pushW, .p (o1 mvG l0) w4])
 .ret))) }
theorem kf36_ok : (compFn Try.prog Try.f36 [[0, 3], [0, 3, 5], [0, 3, 5, 23], [0, 3, 5, 23]]).bind (toKFn [6, 7, 8, 9, 10, 11, 12, 13, 15, 16, 17, 18, 19, 20, 21, 22, 24, 27, 28, 30, 31, 32, 33, 34, 35, 36, 37, 38, 40, 41, 42, 43, 44] 2) = some kf36 := by kernel_rfl
noncomputable def kf13 : KFn := { params := [w0, w1], res := [(.s r4), (.s r5)], body :=
 (.seq
 (.reg [.p (o1 boxG r1) w3, .p (o1 mvG (ctK (.int .i64 (Int.ofNat 0)))) w4, .p (o1 mvG (ctK (.int .i64 (Int.ofNat 0)))) w5])
 (.seq
 (.reg [.p (allocO [(.int .i64 (Int.ofNat 0))]) w6, .p (o2 (storeG 1) r6 (ctK (.int .i64 (Int.ofNat 400)))) noW])
 (.seq
 (.reg [.p (o1 (loadnG 4) r3) pushW, .p (callO 22 [r0, l0, r6]) pushW, .p (o1 (extG 0) l0) pushW, .p (o1 (extG 1) l1) pushW, .p (o1 mvG l1) w4, .p (o1 mvG l0) w5])
 .ret))) }
theorem kf13_ok : (compFn Try.prog Try.f13 []).bind (toKFn [7, 8, 9, 10, 11] 2) = some kf13 := by kernel_rfl
noncomputable def kf22 : KFn := { params := [w0, w1, w2], res := [(.s r6), (.s r7)], body :=
 (.seq
 (.reg [.p (o1 boxG r1) w4, .p (o1 mvG (ctK (.int .i64 (Int.ofNat 0)))) w6, .p (o1 mvG (ctK (.int .i64 (Int.ofNat 0)))) w7])
 (.seq
 (.reg [.p (o1 nilckG r2) pushW, .p (o1 load1G l0) pushW, .p (o2 (binG subB) l0 (ctK (.int .i64 (Int.ofNat 1)))) pushW, .p (o1 nilckG r2) pushW, .p (o2 (storeG 1) l0 l1) noW])
 (.seq
 (.seq
 (.reg [.p (o1 nilckG r2) pushW, .p (o1 load1G l0) pushW, .p (o2 (binG (cmpB .lss ltI)) l0 (ctK (.int .i64 (Int.ofNat 0)))) pushW, .g l0 false false none (o1 (faddrG 3) r4) pushW, .g l1 false false none (o1 load1G l0) pushW, .g l2 false false none (o1 lenLG l0) pushW, .g l3 false false none (o2 (binG (cmpB .gtr gtI)) l0 (ctK (.int .i64 (Int.ofNat 8)))) pushW, .p (o3 pickG l4 (ctK (.bool true)) l0) pushW, .g l0 false false none (o1 (faddrG 2) r4) pushW, .g l1 false false none (o1 load1G l0) pushW, .g l2 false false none (o1 lenLG l0) pushW, .g l3 false false none (o2 (binG (cmpB .gtr gtI)) l0 (ctK (.int .i64 (Int.ofNat 8)))) pushW, .p (o3 pickG l4 (ctK (.bool true)) l0) w33])
 (.cond r33
 (.seq
 (.reg [.p (o1 mvG (ctK (.int .i64 (Int.ofNat 0)))) w6, .p (o1 mvG (ctK (.int .i64 (Int.ofNat 20)))) w7])
 .ret)
 .skip))
 (.seq
 (.reg [.p (o1 (faddrG 0) r4) pushW, .p (o1 load1G l0) pushW, .p (o1 (faddrG 1) r4) pushW, .p (o1 load1G l0) pushW, .p (o1 (faddrG 2) r4) pushW, .p (o1 load1G l0) pushW, .p (buildO [(.int .i64 (Int.ofNat 0)), (.str 0 0), .snil, .snil] [(0, 1, l4), (1, 1, l2), (2, 1, l0)]) pushW, .p (allocO [(.int .i64 (Int.ofNat 0)), (.str 0 0), .snil, .snil]) w8, .p (o2 (storeG 4) r8 l0) noW])
 (.seq
 (.seq
 (.reg [.p (o1 (faddrG 3) r4) pushW, .p (o1 load1G l0) w42, .p (o1 lenLG r42) w43, .p (o1 mvG (ctK (.int .i64 (Int.ofNat 0)))) w44])
 (.block 0
 (.loop
 (.seq
 (.reg [.p (o2 (binG (cmpB .lss ltI)) r44 r43) w45])
 (.seq
 (.cond r45
 .skip
 (.exit 0))
 (.seq
 (.block 1
 (.seq
 (.reg [.p (o2 (iaddrG 4) r42 r44) pushW, .p (o1 (loadnG 4) l0) pushW, .p (allocO [(.int .i64 (Int.ofNat 0)), (.str 0 0), .snil, .snil]) w10, .p (o2 (storeG 4) r10 l0) noW])
 (.seq
 (.reg [.p (o1 (loadnG 4) r10) pushW, .p (callO 22 [r0, l0, r2]) pushW, .p (o1 (extG 0) l0) pushW, .p (o1 (extG 1) l1) pushW, .p (o1 mvG l1) w11, .p (o1 mvG l0) w12])
 (.seq
 (.seq
 (.reg [.p (o2 (eqG eqIV true) r12 (ctK (.int .i64 (Int.ofNat 0)))) w56])
 (.cond r56
 (.seq
 (.reg [.p (o1 mvG (ctK (.int .i64 (Int.ofNat 0)))) w6, .p (o1 mvG r12) w7])
 .ret)
 .skip))
 (.reg [.p (o1 (faddrG 3) r8) pushW, .p (o1 load1G l0) pushW, .p (bslO 1 1 [(.int .i64 (Int.ofNat 0))] [(0, 1, r11)]) pushW, .p (o2 (appG 1) l1 l0) pushW, .p (o1 (faddrG 3) r8) pushW, .p (o2 (storeG 1) l0 l1) noW])))))
 (.reg [.p (o2 (binG addB) r44 (ctK (.int .i64 (Int.ofNat 1)))) pushW, .p (o1 mvG l0) w44])))))))
 (.seq
 (.reg [.p (o1 (loadnG 4) r8) pushW, .p (callO 24 [r0, l0]) pushW, .p (o1 (extG 0) l0) pushW, .p (o1 (extG 1) l1) pushW, .p (o1 mvG l1) w6, .p (o1 mvG l0) w7])
 .ret)))))) }
theorem kf22_ok : (compFn Try.prog Try.f22 [[0, 2, 4], [0, 8], [0, 2, 8, 42, 43, 44], [0, 2, 8, 42, 43, 44], [0, 2, 8, 42, 43, 44], [0, 2, 8, 11, 42, 43, 44]]).bind (toKFn [13, 14, 15, 16, 17, 18, 19, 20, 21, 22, 23, 24, 25, 26, 27, 28, 29, 30, 31, 32, 34, 35, 36, 37, 38, 39, 40, 41, 46, 47, 48, 49, 50, 51, 52, 53, 54, 55, 57, 58, 59, 60, 61, 62, 63, 64, 65, 66, 67, 68, 69] 3) = some kf22 := by kernel_rfl
noncomputable def kf24 : KFn := { params := [w0, w1], res := [(.s r4), (.s r5)], body :=
 (.seq
 (.reg [.p (o1 boxG r1) w3, .p (o1 mvG (ctK (.int .i64 (Int.ofNat 0)))) w4, .p (o1 mvG (ctK (.int .i64 (Int.ofNat 0)))) w5])
 (.seq
 (.reg [.p (o1 (loadnG 4) r3) pushW, .p (callO 38 [l0]) pushW, .p (allocO [(.int .i64 (Int.ofNat 0)), (.int .i64 (Int.ofNat 0)), (.int .i64 (Int.ofNat 0)), (.str 0 0), (.str 0 0), (.str 0 0), (.str 0 0), (.str 0 0), (.str 0 0), (.str 0 0), (.str 0 0), (.str 0 0), (.int .i64 (Int.ofNat 0)), (.int .i64 (Int.ofNat 0)), (.int .i64 (Int.ofNat 0)), (.int .i64 (Int.ofNat 0)), (.int .i64 (Int.ofNat 0)), (.int .i64 (Int.ofNat 0)), (.int .i64 (Int.ofNat 0)), (.int .i64 (Int.ofNat 0))]) w6, .p (o2 (storeG 20) r6 l0) noW])
 (.seq
 (.seq
 (.drw [.p (o1 nilckG r0) pushW, .p (o1 (faddrG 1) l0) pushW, .p (o1 load1G l0) pushW, .p (o1 (loadnG 20) r6) pushW, .p (o2 (lookupG (.many [.i, .i, .i, .s, .s, .s, .s, .s, .s, .s, .s, .s, .i, .i, .i, .i, .i, .i, .i, .i]) (.int .i64 (Int.ofNat 0)) true) l1 l0) pushW, .p (o1 (extG 0) l0) pushW, .p (o1 (extG 1) l1) pushW, .p (o1 mvG l1) w7, .p (o1 mvG l0) w8] [])
 (.seq
 (.drw [.g r8 true false none (o1 mvG r0) pushW, .g r8 true false none (o1 nilckG l0) pushW, .g r8 true false none (o1 (faddrG 0) l0) pushW, .g r8 true false none (o1 load1G l0) pushW, .g r8 true false none (o1 mvG r7) pushW, .g r8 true false none (o2 (iaddrG 4) l1 l0) pushW, .g r8 true false none (o1 (loadnG 4) l0) pushW, .g r8 true true none (callO 38 [l0]) pushW, .g r8 true false none (o1 (fldnG 12 8) l0) pushW, .g r8 true false none (o1 (faddrG 12) r6) pushW, .g r8 true false none (o1 (loadnG 8) l0) pushW, .g r8 true false none (o2 (eqG (slowEq (.many [.i, .i, .i, .i, .i, .i, .i, .i])) false) l2 l0) pushW, .p (o3 pickG r8 l0 (ctK (.bool false))) w34] [])
 (.cond r34
 (.seq
 (.reg [.p (o1 mvG r7) w4, .p (o1 mvG (ctK (.int .i64 (Int.ofNat 0)))) w5])
 .ret)
 .skip)))
 (.seq
 (.seq
 (.reg [.p (o1 nilckG r0) pushW, .p (o1 (faddrG 0) l0) pushW, .p (o1 load1G l0) pushW, .p (o1 lenLG l0) pushW, .p (o2 (binG (cmpB .geq geI)) l0 (ctK (.int .i64 (Int.ofNat 120)))) w41])
 (.cond r41
 (.seq
 (.reg [.p (o1 mvG (ctK (.int .i64 (Int.ofNat 0)))) w4, .p (o1 mvG (ctK (.int .i64 (Int.ofNat 20)))) w5])
 .ret)
 .skip))
 (.seq
 (.drw [.p (o1 (faddrG 2) r3) pushW, .p (o1 load1G l0) pushW, .m (callO 39 [l0]) pushW none, .p (o1 (faddrG 3) r3) pushW, .p (o1 load1G l0) pushW, .m (callO 40 [l0]) pushW (some []), .p (o1 (faddrG 2) r3) pushW, .p (o2 (storeG 1) l0 l4) noW, .p (o1 (faddrG 3) r3) pushW, .p (o2 (storeG 1) l0 l2) noW] [])
 (.seq
 (.drw [.p (o1 nilckG r0) pushW, .p (o1 (faddrG 1) l0) pushW, .p (o1 load1G l0) pushW, .p (o1 (loadnG 20) r6) pushW, .p (o1 nilckG r0) pushW, .p (o1 (faddrG 0) l0) pushW, .p (o1 load1G l0) pushW, .p (o1 lenLG l0) pushW, .p (o3 (mupdG (.many [.i, .i, .i, .s, .s, .s, .s, .s, .s, .s, .s, .s, .i, .i, .i, .i, .i, .i, .i, .i])) l5 l4 l0) noW] [])
 (.seq
 (.drw [.p (o1 nilckG r0) pushW, .p (o1 (faddrG 0) l0) pushW, .p (o1 load1G l0) pushW, .p (o1 (loadnG 4) r3) pushW, .p (bslO 4 1 [(.int .i64 (Int.ofNat 0)), (.str 0 0), .snil, .snil] [(0, 4, l0)]) pushW, .p (o2 (appG 4) l2 l0) pushW, .p (o1 nilckG r0) pushW, .p (o1 (faddrG 0) l0) pushW, .p (o2 (storeG 1) l0 l2) noW] [])
 (.seq
 (.reg [.p (o1 nilckG r0) pushW, .p (o1 (faddrG 0) l0) pushW, .p (o1 load1G l0) pushW, .p (o1 lenLG l0) pushW, .p (o2 (binG subB) l0 (ctK (.int .i64 (Int.ofNat 1)))) pushW, .p (o1 mvG l0) w4, .p (o1 mvG (ctK (.int .i64 (Int.ofNat 0)))) w5])
 .ret)))))))) }
theorem kf24_ok : (compFn Try.prog Try.f24 [[0, 3, 6], [0, 3, 6]]).bind (toKFn [9, 10, 11, 12, 13, 14, 15, 16, 17, 18, 19, 20, 21, 22, 23, 24, 25, 26, 27, 28, 29, 30, 31, 32, 33, 35, 36, 37, 38, 39, 40, 42, 43, 44, 45, 46, 47, 48, 49, 50, 51, 52, 53, 54, 55, 56, 57, 58, 59, 60, 61, 62, 63, 64, 65, 66, 67, 68, 69, 70, 71, 72, 73, 74, 75] 2) = some kf24 := by kernel_rfl
noncomputable def kf38 : KFn := { params := [w0], res := [(.cn r2 20)], body :=
 (.seq
 (.reg [.p (o1 boxG r0) w1, .p (allocO [(.int .i64 (Int.ofNat 0)), (.int .i64 (Int.ofNat 0)), (.int .i64 (Int.ofNat 0)), (.str 0 0), (.str 0 0), (.str 0 0), (.str 0 0), (.str 0 0), (.str 0 0), (.str 0 0), (.str 0 0), (.str 0 0), (.int .i64 (Int.ofNat 0)), (.int .i64 (Int.ofNat 0)), (.int .i64 (Int.ofNat 0)), (.int .i64 (Int.ofNat 0)), (.int .i64 (Int.ofNat 0)), (.int .i64 (Int.ofNat 0)), (.int .i64 (Int.ofNat 0)), (.int .i64 (Int.ofNat 0))]) w2])
 (.seq
 (.reg [.p (o1 (faddrG 0) r1) pushW, .p (o1 load1G l0) pushW, .p (o1 (faddrG 2) r1) pushW, .p (o1 load1G l0) pushW, .p (o1 lenLG l0) pushW, .p (o1 (faddrG 3) r1) pushW, .p (o1 load1G l0) pushW, .p (o1 lenLG l0) pushW, .p (o1 (faddrG 1) r1) pushW, .p (o1 load1G l0) pushW, .p (buildO [(.int .i64 (Int.ofNat 0)), (.int .i64 (Int.ofNat 0)), (.int .i64 (Int.ofNat 0)), (.str 0 0), (.str 0 0), (.str 0 0), (.str 0 0), (.str 0 0), (.str 0 0), (.str 0 0), (.str 0 0), (.str 0 0), (.int .i64 (Int.ofNat 0)), (.int .i64 (Int.ofNat 0)), (.int .i64 (Int.ofNat 0)), (.int .i64 (Int.ofNat 0)), (.int .i64 (Int.ofNat 0)), (.int .i64 (Int.ofNat 0)), (.int .i64 (Int.ofNat 0)), (.int .i64 (Int.ofNat 0))] [(0, 1, l8), (1, 1, l5), (2, 1, l2), (3, 1, l0)]) pushW, .p (allocO [(.int .i64 (Int.ofNat 0)), (.int .i64 (Int.ofNat 0)), (.int .i64 (Int.ofNat 0)), (.str 0 0), (.str 0 0), (.str 0 0), (.str 0 0), (.str 0 0), (.str 0 0), (.str 0 0), (.str 0 0), (.str 0 0), (.int .i64 (Int.ofNat 0)), (.int .i64 (Int.ofNat 0)), (.int .i64 (Int.ofNat 0)), (.int .i64 (Int.ofNat 0)), (.int .i64 (Int.ofNat 0)), (.int .i64 (Int.ofNat 0)), (.int .i64 (Int.ofNat 0)), (.int .i64 (Int.ofNat 0))]) w3, .p (o2 (storeG 20) r3 l0) noW])
 (.seq
 (.drw [.p (o1 (faddrG 4) r3) pushW, .p (cutAO 8 1 l0 none none none) pushW, .p (o1 (faddrG 2) r1) pushW, .p (o1 load1G l0) pushW, .p (o2 (copyG 1) l2 l0) pushW] [])
 (.seq
 (.drw [.p (o1 (faddrG 12) r3) pushW, .p (cutAO 8 1 l0 none none none) pushW, .p (o1 (faddrG 3) r1) pushW, .p (o1 load1G l0) pushW, .p (o2 (copyG 1) l2 l0) pushW] [])
 (.seq
 (.reg [.p (o1 (loadnG 20) r3) pushW, .p (o2 (storeG 20) r2 l0) noW])
 .ret))))) }
theorem kf38_ok : (compFn Try.prog Try.f38 []).bind (toKFn [4, 5, 6, 7, 8, 9, 10, 11, 12, 13, 14, 15, 16, 17, 18, 19, 20, 21, 22, 23, 24, 25] 1) = some kf38 := by kernel_rfl
noncomputable def kf39 : KFn := { params := [w0], res := [(.s r2)], body :=
 (.seq
 (.reg [.p (o1 mvG (ctK .snil)) w2])
 (.seq
 (.seq
 (.reg [.p (o2 (eqG (slowEq (.one .l)) false) r0 (ctK .snil)) w4])
 (.cond r4
 (.seq
 (.reg [.p (o1 mvG (ctK .snil)) w2])
 .ret)
 .skip))
 (.seq
 (.reg [.p (bslO 1 0 [] []) pushW, .p (o2 (appG 1) l0 r0) pushW, .p (o1 mvG l0) w2])
 .ret))) }
theorem kf39_ok : (compFn Try.prog Try.f39 [[0]]).bind (toKFn [3, 5, 6, 7] 1) = some kf39 := by kernel_rfl
noncomputable def kf40 : KFn := { params := [w0], res := [(.s r2)], body :=
 (.seq
 (.reg [.p (o1 mvG (ctK .snil)) w2])
 (.seq
 (.seq
 (.reg [.p (o2 (eqG (slowEq (.one .l)) false) r0 (ctK .snil)) w4])
 (.cond r4
 (.seq
 (.reg [.p (o1 mvG (ctK .snil)) w2])
 .ret)
 .skip))
 (.seq
 (.reg [.p (bslO 1 0 [] []) pushW, .p (o2 (appG 1) l0 r0) pushW, .p (o1 mvG l0) w2])
 .ret))) }
theorem kf40_ok : (compFn Try.prog Try.f40 [[0]]).bind (toKFn [3, 5, 6, 7] 1) = some kf40 := by kernel_rfl
noncomputable def kf15 : KFn := { params := [w0], res := [(.s r2)], body :=
 (.seq
 (.reg [.p (o1 mvG (ctK (.int .i64 (Int.ofNat 0)))) w2])
 (.seq
 (.reg [.p (o1 nilckG r0) pushW, .p (o1 (faddrG 3) l0) pushW, .p (o1 load1G l0) pushW, .p (o1 mvG l0) w2])
 .ret)) }
theorem kf15_ok : (compFn Try.prog Try.f15 []).bind (toKFn [3, 4, 5, 6] 1) = some kf15 := by kernel_rfl
noncomputable def kf14 : KFn := { params := [w0, w1, w2], res := [(.s r6), (.s r7)], body :=
 (.seq
 (.reg [.p (o1 mvG (ctK (.bool false))) w6, .p (o1 mvG (ctK (.int .i64 (Int.ofNat 0)))) w7])
 (.seq
 (.seq
 (.reg [.p (o2 (binG (cmpB .lss ltI)) r1 (ctK (.int .i64 (Int.ofNat 0)))) pushW, .g l0 false false none (o1 mvG r1) pushW, .g l1 false false none (o1 mvG r0) pushW, .g l2 false false none (callO 16 [l0]) pushW, .g l3 false false none (o2 (binG (cmpB .geq geI)) l2 l0) pushW, .p (o3 pickG l4 (ctK (.bool true)) l0) pushW, .g l0 false false none (o1 mvG r2) pushW, .g l1 false false none (o2 (binG (cmpB .lss ltI)) l0 (ctK (.int .i64 (Int.ofNat 0)))) pushW, .p (o3 pickG l2 (ctK (.bool true)) l0) pushW, .g l0 false false none (o1 mvG r2) pushW, .g l1 false false none (o1 mvG r0) pushW, .g l2 false false none (callO 16 [l0]) pushW, .g l3 false false none (o2 (binG (cmpB .geq geI)) l2 l0) pushW, .p (o3 pickG l4 (ctK (.bool true)) l0) w27])
 (.cond r27
 (.seq
 (.reg [.p (o1 mvG (ctK (.bool false))) w6, .p (o1 mvG (ctK (.int .i64 (Int.ofNat 0)))) w7])
 .ret)
 .skip))
 (.seq
 (.reg [.p mkmapO pushW, .p (buildO [.pnil, .mnil] [(0, 1, r0), (1, 1, l0)]) pushW, .p (o1 boxG l0) pushW, .p (o1 mvG l0) w8])
 (.seq
 (.reg [.p (callO 23 [r8, r1, r2]) pushW, .p (o1 mvG l0) w9])
 (.seq
 (.reg [.p (o1 nilckG r8) pushW, .p (o1 (faddrG 1) l0) pushW, .p (o1 load1G l0) pushW, .p (o1 lenMG l0) pushW, .p (o1 mvG r9) w6, .p (o1 mvG l0) w7])
 .ret))))) }
theorem kf14_ok : (compFn Try.prog Try.f14 [[0, 1, 2]]).bind (toKFn [10, 11, 12, 13, 14, 15, 16, 17, 18, 19, 20, 21, 22, 23, 24, 25, 26, 28, 29, 30, 31, 32, 33, 34, 35, 36, 37, 38, 39, 40, 41] 3) = some kf14 := by kernel_rfl
noncomputable def kf16 : KFn := { params := [w0], res := [(.s r2)], body :=
 (.seq
 (.reg [.p (o1 mvG (ctK (.int .i64 (Int.ofNat 0)))) w2])
 (.seq
 (.reg [.p (o1 nilckG r0) pushW, .p (o1 (faddrG 0) l0) pushW, .p (o1 load1G l0) pushW, .p (o1 lenLG l0) pushW, .p (o1 mvG l0) w2])
 .ret)) }
theorem kf16_ok : (compFn Try.prog Try.f16 []).bind (toKFn [3, 4, 5, 6, 7] 1) = some kf16 := by kernel_rfl
noncomputable def kf23 : KFn := { params := [w0, w1, w2], res := [(.s r6)], body :=
 (.seq
 (.reg [.p (o1 mvG (ctK (.bool false))) w6])
 (.seq
 (.reg [.p (buildO [(.int .i64 (Int.ofNat 0)), (.int .i64 (Int.ofNat 0))] [(0, 1, r1), (1, 1, r2)]) pushW, .p (allocO [(.int .i64 (Int.ofNat 0)), (.int .i64 (Int.ofNat 0))]) w7, .p (o2 (storeG 2) r7 l0) noW])
 (.seq
 (.seq
 (.drw [.p (o2 (eqG eqIV false) r1 r2) pushW, .g l0 false false none (o1 mvG r0) pushW, .g l1 false false none (o1 nilckG l0) pushW, .g l2 false false none (o1 (faddrG 1) l0) pushW, .g l3 false false none (o1 load1G l0) pushW, .g l4 false false none (o1 (loadnG 2) r7) pushW, .g l5 false false none (o2 (lookupG (.many [.i, .i]) (.int .i64 (Int.ofNat 0)) false) l1 l0) pushW, .g l6 false false none (o2 (binG (cmpB .gtr gtI)) l0 (ctK (.int .i64 (Int.ofNat 0)))) pushW, .p (o3 pickG l7 (ctK (.bool true)) l0) w22] [])
 (.cond r22
 (.seq
 (.reg [.p (o1 mvG (ctK (.bool true))) w6])
 .ret)
 .skip))
 (.seq
 (.drw [.p (o1 nilckG r0) pushW, .p (o1 (faddrG 1) l0) pushW, .p (o1 load1G l0) pushW, .p (o1 (loadnG 2) r7) pushW, .p (o2 (lookupG (.many [.i, .i]) (.int .i64 (Int.ofNat 0)) false) l1 l0) pushW, .p (o2 (binG addB) l0 (ctK (.int .i64 (Int.ofNat 1)))) pushW, .p (o2 (mentG (.many [.i, .i]) (.int .i64 (Int.ofNat 0))) l3 l2) pushW, .p (o1 (extG 1) l0) pushW, .p (o3 estsG l5 l0 l2) noW] [])
 (.seq
 (.reg [.p (callO 37 [r0, r1, r2]) pushW, .p (o1 mvG l0) w6])
 .ret))))) }
theorem kf23_ok : (compFn Try.prog Try.f23 [[0, 1, 2, 7]]).bind (toKFn [8, 9, 10, 11, 12, 13, 14, 15, 16, 17, 18, 19, 20, 21, 23, 24, 25, 26, 27, 28, 29, 30, 31, 32, 33, 34, 35] 3) = some kf23 := by kernel_rfl
noncomputable def kf37 : KFn := { params := [w0, w1, w2], res := [(.s r6)], body :=
 (.seq
 (.reg [.p (o1 mvG (ctK (.bool false))) w6])
 (.seq
 (.reg [.p (o1 nilckG r0) pushW, .p (o1 (faddrG 0) l0) pushW, .p (o1 load1G l0) pushW, .p (o1 mvG r1) pushW, .p (callO 49 [l1, l0]) pushW, .p (o1 (extG 0) l0) pushW, .p (o1 (extG 1) l1) pushW, .p (o1 mvG l1) w1, .p (o1 mvG l0) w7])
 (.seq
 (.reg [.p (o1 nilckG r0) pushW, .p (o1 (faddrG 0) l0) pushW, .p (o1 load1G l0) pushW, .p (o1 mvG r2) pushW, .p (callO 49 [l1, l0]) pushW, .p (o1 (extG 0) l0) pushW, .p (o1 (extG 1) l1) pushW, .p (o1 mvG l1) w2, .p (o1 mvG l0) w8])
 (.seq
 (.seq
 (.reg [.p (o1 notG r7) pushW, .g l0 false false none (o1 mvG r8) pushW, .g l1 false false none (o1 notG l0) pushW, .p (o3 pickG l2 (ctK (.bool true)) l0) w36])
 (.cond r36
 (.seq
 (.reg [.p (o1 mvG (ctK (.bool false))) w6])
 .ret)
 .skip))
 (.seq
 (.reg [.p (o1 nilckG r0) pushW, .p (o1 (faddrG 0) l0) pushW, .p (o1 load1G l0) pushW, .p (callO 50 [l0, r1]) pushW, .p (o1 (extG 0) l0) pushW, .p (o1 (extG 1) l1) pushW, .p (allocO [(.int .i64 (Int.ofNat 0)), (.str 0 0), .snil, .snil]) w9, .p (o2 (storeG 4) r9 l1) noW])
 (.seq
 (.reg [.p (o1 nilckG r0) pushW, .p (o1 (faddrG 0) l0) pushW, .p (o1 load1G l0) pushW, .p (callO 50 [l0, r2]) pushW, .p (o1 (extG 0) l0) pushW, .p (o1 (extG 1) l1) pushW, .p (allocO [(.int .i64 (Int.ofNat 0)), (.str 0 0), .snil, .snil]) w11, .p (o2 (storeG 4) r11 l1) noW])
 (.seq
 (.block 0
 (.seq
 (.reg [.p (o1 (faddrG 0) r11) pushW, .p (o1 load1G l0) pushW, .p (o2 (eqG eqIV false) l0 (ctK (.int .i64 (Int.ofNat 6)))) pushW, .g l0 true false none (o1 (faddrG 0) r9) pushW, .g l1 true false none (o1 load1G l0) pushW, .g l2 true false none (o2 (eqG eqIV true) l0 (ctK (.int .i64 (Int.ofNat 6)))) pushW, .p (o3 pickG l3 l0 (ctK (.bool false))) pushW, .g l0 true false none (o1 (faddrG 3) r11) pushW, .g l1 true false none (o1 load1G l0) pushW, .g l2 true false none (o1 lenLG l0) pushW, .g l3 true false none (o2 (eqG eqIV false) l0 (ctK (.int .i64 (Int.ofNat 1)))) pushW, .p (o3 pickG l4 l0 (ctK (.bool false))) pushW, .p (o1 mvG l0) w55])
 (.cond r55
 (.seq
 (.reg [.p (o1 (faddrG 3) r11) pushW, .p (o1 load1G l0) pushW, .p (o2 (iaddrG 1) l0 (ctK (.int .i64 (Int.ofNat 0)))) pushW, .p (o1 load1G l0) pushW, .p (callO 23 [r0, r1, l0]) pushW, .p (o1 mvG l0) w6])
 .ret)
 (.seq
 (.reg [.p (o1 (faddrG 0) r9) pushW, .p (o1 load1G l0) pushW, .p (o1 (faddrG 0) r11) pushW, .p (o1 load1G l0) pushW, .p (o2 (eqG eqIV true) l2 l0) pushW, .p (o1 mvG l0) w77])
 (.cond r77
 (.seq
 (.reg [.p (o1 mvG (ctK (.bool false))) w6])
 .ret)
 (.seq
 (.reg [.p (o1 (faddrG 0) r11) pushW, .p (o1 load1G l0) pushW, .p (o2 (eqG eqIV false) l0 (ctK (.int .i64 (Int.ofNat 7)))) pushW, .p (o1 mvG l0) w83])
 (.cond r83
 (.seq
 (.reg [.p (o1 (loadnG 4) r9) pushW, .p (o1 (loadnG 4) r11) pushW, .p (callO 51 [r0, l1, l0, (ctK (.bool true))]) pushW, .p (o1 mvG l0) w6])
 .ret)
 (.seq
 (.reg [.p (o1 (faddrG 0) r11) pushW, .p (o1 load1G l0) pushW, .p (o2 (eqG eqIV false) l0 (ctK (.int .i64 (Int.ofNat 8)))) pushW, .p (o1 mvG l0) w91])
 (.cond r91
 (.seq
 (.reg [.p (o1 (loadnG 4) r11) pushW, .p (o1 (loadnG 4) r9) pushW, .p (callO 51 [r0, l1, l0, (ctK (.bool false))]) pushW, .p (o1 mvG l0) w6])
 .ret)
 .skip)))))))))
 (.seq
 (.reg [.p (o1 (loadnG 4) r9) pushW, .p (o1 (loadnG 4) r11) pushW, .p (callO 52 [r0, l1, l0]) pushW, .p (o1 mvG l0) w6])
 .ret)))))))) }
theorem kf37_ok : (compFn Try.prog Try.f37 [[0, 1, 2], [0, 9, 11]]).bind (toKFn [10, 12, 13, 14, 15, 16, 17, 18, 19, 20, 21, 22, 23, 24, 25, 26, 27, 28, 29, 30, 31, 32, 33, 34, 35, 37, 38, 39, 40, 41, 42, 43, 44, 45, 46, 47, 48, 49, 50, 51, 52, 53, 54, 56, 57, 58, 59, 60, 61, 62, 63, 64, 65, 66, 67, 68, 69, 70, 71, 72, 73, 74, 75, 76, 78, 79, 80, 81, 82, 84, 85, 86, 87, 88, 89, 90, 92, 93, 94, 95, 96, 97, 98, 99, 100, 101, 102] 3) = some kf37 := by kernel_rfl
noncomputable def kf49 : KFn := { params := [w0, w1], res := [(.s r4), (.s r5)], body :=
 (.seq
 (.reg [.p (o1 mvG (ctK (.int .i64 (Int.ofNat 0)))) w4, .p (o1 mvG (ctK (.bool false))) w5])
 (.seq
 (.seq
 (.reg [.p (o1 nilckG r0) pushW, .p (o1 (faddrG 0) l0) pushW, .p (o1 load1G l0) pushW, .p (o1 lenLG l0) pushW, .p (o2 (binG addB) l0 (ctK (.int .i64 (Int.ofNat 1)))) w13, .p (o1 mvG (ctK (.int .i64 (Int.ofNat 0)))) w14])
 (.block 0
 (.loop
 (.seq
 (.reg [.p (o2 (binG (cmpB .lss ltI)) r14 r13) w15])
 (.seq
 (.cond r15
 .skip
 (.exit 0))
 (.seq
 (.block 1
 (.seq
 (.seq
 (.reg [.p (o2 (binG (cmpB .lss ltI)) r1 (ctK (.int .i64 (Int.ofNat 0)))) pushW, .g l0 false false none (o1 mvG r1) pushW, .g l1 false false none (o1 mvG r0) pushW, .g l2 false false none (o1 nilckG l0) pushW, .g l3 false false none (o1 (faddrG 0) l0) pushW, .g l4 false false none (o1 load1G l0) pushW, .g l5 false false none (o1 lenLG l0) pushW, .g l6 false false none (o2 (binG (cmpB .geq geI)) l5 l0) pushW, .p (o3 pickG l7 (ctK (.bool true)) l0) w26])
 (.cond r26
 (.seq
 (.reg [.p (o1 mvG (ctK (.int .i64 (Int.ofNat 0)))) w4, .p (o1 mvG (ctK (.bool false))) w5])
 .ret)
 .skip))
 (.seq
 (.seq
 (.reg [.p (o1 nilckG r0) pushW, .p (o1 (faddrG 0) l0) pushW, .p (o1 load1G l0) pushW, .p (o2 (iaddrG 4) l0 r1) pushW, .p (o1 (faddrG 0) l0) pushW, .p (o1 load1G l0) pushW, .p (o2 (eqG eqIV true) l0 (ctK (.int .i64 (Int.ofNat 9)))) w35])
 (.cond r35
 (.seq
 (.reg [.p (o1 mvG r1) w4, .p (o1 mvG (ctK (.bool true))) w5])
 .ret)
 .skip))
 (.seq
 (.drw [.p (o1 nilckG r0) pushW, .p (o1 (faddrG 2) l0) pushW, .p (o1 load1G l0) pushW, .p (o1 nilckG r0) pushW, .p (o1 (faddrG 0) l0) pushW, .p (o1 load1G l0) pushW, .p (o2 (iaddrG 4) l0 r1) pushW, .p (o1 (faddrG 1) l0) pushW, .p (o1 load1G l0) pushW, .p (o2 (lookupG (.one .s) (.int .i64 (Int.ofNat 0)) true) l6 l0) pushW, .p (o1 (extG 0) l0) pushW, .p (o1 (extG 1) l1) pushW, .p (o1 mvG l1) w6, .p (o1 mvG l0) w7] [])
 (.seq
 (.seq
 (.reg [.p (o1 notG r7) w54])
 (.cond r54
 (.reg [.p (o1 mvG (ctK (.int .i64 (Int.negSucc 0)))) w6])
 .skip))
 (.reg [.p (o1 mvG r6) w1]))))))
 (.reg [.p (o2 (binG addB) r14 (ctK (.int .i64 (Int.ofNat 1)))) pushW, .p (o1 mvG l0) w14])))))))
 (.seq
 (.reg [.p (o1 mvG (ctK (.int .i64 (Int.ofNat 0)))) w4, .p (o1 mvG (ctK (.bool false))) w5])
 .ret))) }
theorem kf49_ok : (compFn Try.prog Try.f49 [[], [0, 1, 13, 14], [0, 1, 13, 14], [0, 1, 13, 14], [0, 1, 13, 14], [0, 1, 13, 14], [0, 6, 13, 14]]).bind (toKFn [8, 9, 10, 11, 12, 16, 17, 18, 19, 20, 21, 22, 23, 24, 25, 27, 28, 29, 30, 31, 32, 33, 34, 36, 37, 38, 39, 40, 41, 42, 43, 44, 45, 46, 47, 48, 49, 50, 51, 52, 53, 55, 56] 2) = some kf49 := by kernel_rfl
noncomputable def kf50 : KFn := { params := [w0, w1], res := [(.cn r4 4), (.s r5)], body :=
 (.seq
 (.reg [.p (allocO [(.int .i64 (Int.ofNat 0)), (.str 0 0), .snil, .snil]) w4, .p (o1 mvG (ctK (.bool false))) w5])
 (.seq
 (.seq
 (.reg [.p (o2 (binG (cmpB .lss ltI)) r1 (ctK (.int .i64 (Int.ofNat 0)))) pushW, .g l0 false false none (o1 mvG r1) pushW, .g l1 false false none (o1 mvG r0) pushW, .g l2 false false none (o1 nilckG l0) pushW, .g l3 false false none (o1 (faddrG 0) l0) pushW, .g l4 false false none (o1 load1G l0) pushW, .g l5 false false none (o1 lenLG l0) pushW, .g l6 false false none (o2 (binG (cmpB .geq geI)) l5 l0) pushW, .p (o3 pickG l7 (ctK (.bool true)) l0) w17])
 (.cond r17
 (.seq
 (.reg [.p (buildO [(.int .i64 (Int.ofNat 0)), (.str 0 0), .snil, .snil] []) pushW, .p (o2 (storeG 4) r4 l0) noW, .p (o1 mvG (ctK (.bool false))) w5])
 .ret)
 .skip))
 (.seq
 (.reg [.p (o1 nilckG r0) pushW, .p (o1 (faddrG 0) l0) pushW, .p (o1 load1G l0) pushW, .p (o2 (iaddrG 4) l0 r1) pushW, .p (o1 (loadnG 4) l0) pushW, .p (allocO [(.int .i64 (Int.ofNat 0)), (.str 0 0), .snil, .snil]) w6, .p (o2 (storeG 4) r6 l0) noW])
 (.seq
 (.drw [.p (o1 (faddrG 2) r6) pushW, .p (o1 load1G l0) pushW, .m (callO 39 [l0]) pushW none, .p (o1 (faddrG 3) r6) pushW, .p (o1 load1G l0) pushW, .m (callO 40 [l0]) pushW (some []), .p (o1 (faddrG 2) r6) pushW, .p (o2 (storeG 1) l0 l4) noW, .p (o1 (faddrG 3) r6) pushW, .p (o2 (storeG 1) l0 l2) noW] [])
 (.seq
 (.reg [.p (o1 (loadnG 4) r6) pushW, .p (o2 (storeG 4) r4 l0) noW, .p (o1 mvG (ctK (.bool true))) w5])
 .ret))))) }
theorem kf50_ok : (compFn Try.prog Try.f50 [[0, 1, 4]]).bind (toKFn [7, 8, 9, 10, 11, 12, 13, 14, 15, 16, 18, 19, 20, 21, 22, 23, 24, 25, 26, 27, 28, 29, 30, 31, 32, 33, 34] 2) = some kf50 := by kernel_rfl
noncomputable def kf51 : KFn := { params := [w0, w1, w2, w3], res := [(.s r8)], body :=
 (.seq
 (.reg [.p (o1 boxG r1) w5, .p (o1 boxG r2) w6, .p (o1 mvG (ctK (.bool false))) w8])
 (.seq
 (.seq
 (.reg [.p (o1 (faddrG 2) r6) pushW, .p (o1 load1G l0) w15, .p (o1 lenLG r15) w16, .p (o1 mvG (ctK (.int .i64 (Int.ofNat 0)))) w17])
 (.block 0
 (.loop
 (.seq
 (.reg [.p (o2 (binG (cmpB .lss ltI)) r17 r16) w18])
 (.seq
 (.cond r18
 .skip
 (.exit 0))
 (.seq
 (.block 1
 (.seq
 (.reg [.p (o2 (iaddrG 1) r15 r17) pushW, .p (o1 load1G l0) pushW, .p (o1 mvG r17) w9, .p (o1 mvG l0) w10])
 (.seq
 (.reg [.p (o1 (faddrG 2) r5) pushW, .p (o1 load1G l0) pushW, .p (callO 58 [l0, r10]) pushW, .p (o1 mvG l0) w11])
 (.seq
 (.seq
 (.reg [.p (o2 (binG (cmpB .lss ltI)) r11 (ctK (.int .i64 (Int.ofNat 0)))) pushW, .g l0 false false none (o1 mvG r11) pushW, .g l1 false false none (o1 (faddrG 3) r5) pushW, .g l2 false false none (o1 load1G l0) pushW, .g l3 false false none (o1 lenLG l0) pushW, .g l4 false false none (o2 (binG (cmpB .geq geI)) l3 l0) pushW, .p (o3 pickG l5 (ctK (.bool true)) l0) pushW, .g l0 false false none (o1 mvG r9) pushW, .g l1 false false none (o1 (faddrG 3) r6) pushW, .g l2 false false none (o1 load1G l0) pushW, .g l3 false false none (o1 lenLG l0) pushW, .g l4 false false none (o2 (binG (cmpB .geq geI)) l3 l0) pushW, .p (o3 pickG l5 (ctK (.bool true)) l0) w41])
 (.cond r41
 (.seq
 (.reg [.p (o1 mvG (ctK (.bool false))) w8])
 .ret)
 .skip))
 (.seq
 (.drw [.p (o1 (faddrG 3) r5) pushW, .p (o1 load1G l0) pushW, .p (o2 (iaddrG 1) l0 r11) pushW, .p (o1 load1G l0) pushW, .p (o1 (faddrG 3) r6) pushW, .p (o1 load1G l0) pushW, .p (o2 (iaddrG 1) l0 r9) pushW, .p (o1 load1G l0) pushW, .p (o1 mvG l4) w12, .p (o1 mvG l0) w13] [])
 (.seq
 (.seq
 (.reg [.p (o1 notG r3) w53])
 (.cond r53
 (.reg [.p (o1 mvG r13) pushW, .p (o1 mvG r12) pushW, .p (o1 mvG l1) w12, .p (o1 mvG l0) w13])
 .skip))
 (.seq
 (.reg [.p (callO 23 [r0, r12, r13]) pushW, .p (o1 notG l0) w60])
 (.cond r60
 (.seq
 (.reg [.p (o1 mvG (ctK (.bool false))) w8])
 .ret)
 .skip))))))))
 (.reg [.p (o2 (binG addB) r17 (ctK (.int .i64 (Int.ofNat 1)))) pushW, .p (o1 mvG l0) w17])))))))
 (.seq
 (.reg [.p (o1 mvG (ctK (.bool true))) w8])
 .ret))) }
theorem kf51_ok : (compFn Try.prog Try.f51 [[], [0, 3, 5, 6, 15, 16, 17], [0, 3, 5, 6, 15, 16, 17], [0, 3, 5, 6, 15, 16, 17], [0, 3, 5, 6, 9, 11, 15, 16, 17], [0, 3, 5, 6, 12, 13, 15, 16, 17]]).bind (toKFn [14, 19, 20, 21, 22, 23, 24, 25, 26, 27, 28, 29, 30, 31, 32, 33, 34, 35, 36, 37, 38, 39, 40, 42, 43, 44, 45, 46, 47, 48, 49, 50, 51, 52, 54, 55, 56, 57, 58, 59, 61] 4) = some kf51 := by kernel_rfl
noncomputable def kf58 : KFn := { params := [w0, w1], res := [(.s r4)], body :=
 (.seq
 (.reg [.p (o1 mvG (ctK (.int .i64 (Int.ofNat 0)))) w4])
 (.seq
 (.seq
 (.reg [.p (o1 lenLG r0) w7, .p (o1 mvG (ctK (.int .i64 (Int.ofNat 0)))) w8])
 (.block 0
 (.loop
 (.seq
 (.reg [.p (o2 (binG (cmpB .lss ltI)) r8 r7) w9])
 (.seq
 (.cond r9
 .skip
 (.exit 0))
 (.seq
 (.block 1
 (.seq
 (.reg [.p (o1 mvG r8) w5])
 (.seq
 (.reg [.p (o2 (iaddrG 1) r0 r5) pushW, .p (o1 load1G l0) pushW, .p (o2 (eqG eqSV false) r1 l0) w16])
 (.cond r16
 (.seq
 (.reg [.p (o1 mvG r5) w4])
 .ret)
 .skip))))
 (.reg [.p (o2 (binG addB) r8 (ctK (.int .i64 (Int.ofNat 1)))) pushW, .p (o1 mvG l0) w8])))))))
 (.seq
 (.reg [.p (o1 mvG (ctK (.int .i64 (Int.negSucc 0)))) w4])
 .ret))) }
theorem kf58_ok : (compFn Try.prog Try.f58 [[], [0, 1, 7, 8], [0, 1, 7, 8], [0, 1, 7, 8]]).bind (toKFn [6, 10, 11, 12, 13, 14, 15, 17, 18] 2) = some kf58 := by kernel_rfl
noncomputable def kf52 : KFn := { params := [w0, w1, w2], res := [(.s r6)], body :=
 (.seq
 (.reg [.p (o1 boxG r1) w4, .p (o1 boxG r2) w5, .p (o1 mvG (ctK (.bool false))) w6])
 (.seq
 (.seq
 (.reg [.p (o1 (faddrG 3) r4) pushW, .p (o1 load1G l0) pushW, .p (o1 lenLG l0) w10, .p (o1 mvG (ctK (.int .i64 (Int.ofNat 0)))) w11])
 (.block 0
 (.loop
 (.seq
 (.reg [.p (o2 (binG (cmpB .lss ltI)) r11 r10) w12])
 (.seq
 (.cond r12
 .skip
 (.exit 0))
 (.seq
 (.block 1
 (.seq
 (.reg [.p (o1 mvG r11) w7])
 (.seq
 (.drw [.p (o1 (faddrG 3) r5) pushW, .p (o1 load1G l0) pushW, .p (o1 lenLG l0) pushW, .p (o2 (binG (cmpB .geq geI)) r7 l0) pushW, .g l0 false false none (o1 mvG r0) pushW, .g l1 false false none (o1 (faddrG 3) r4) pushW, .g l2 false false none (o1 load1G l0) pushW, .g l3 false false none (o1 mvG r7) pushW, .g l4 false false none (o2 (iaddrG 1) l1 l0) pushW, .g l5 false false none (o1 load1G l0) pushW, .g l6 false false none (o1 (faddrG 3) r5) pushW, .g l7 false false none (o1 load1G l0) pushW, .g l8 false false none (o1 mvG r7) pushW, .g l9 false false none (o2 (iaddrG 1) l1 l0) pushW, .g l10 false false none (o1 load1G l0) pushW, .g l11 false true (some []) (callO 23 [l10, l5, l0]) pushW, .g l12 false false none (o1 notG l0) pushW, .p (o3 pickG l13 (ctK (.bool true)) l0) w33] [])
 (.cond r33
 (.seq
 (.reg [.p (o1 mvG (ctK (.bool false))) w6])
 .ret)
 .skip))))
 (.reg [.p (o2 (binG addB) r11 (ctK (.int .i64 (Int.ofNat 1)))) pushW, .p (o1 mvG l0) w11])))))))
 (.seq
 (.reg [.p (o1 mvG (ctK (.bool true))) w6])
 .ret))) }
theorem kf52_ok : (compFn Try.prog Try.f52 [[], [0, 4, 5, 10, 11], [0, 4, 5, 10, 11], [0, 4, 5, 10, 11]]).bind (toKFn [8, 9, 13, 14, 15, 16, 17, 18, 19, 20, 21, 22, 23, 24, 25, 26, 27, 28, 29, 30, 31, 32, 34] 3) = some kf52 := by kernel_rfl
theorem mixed : Try.prog.follows .mixedOrders = true := by kernel_rfl
noncomputable def tabA : BT :=
  (.node 38 (.node 23 (.node 15 (.node 12 (.node 10 (.leaf 10 (compE 100000 Try.prog Try.f10 [[3, 4]] kf10))
  (.leaf 12 (compE 100000 Try.prog Try.f12 [[1], [1, 5], [1, 5, 30, 31, 32], [1, 5, 30, 31, 32], [1, 5, 30, 31, 32], [1, 5, 7, 8, 30, 31, 32], [1, 5, 10], [5], [5, 69, 70, 71], [5, 69, 70, 71], [5, 69, 70, 71], [5, 13, 14, 69, 70, 71], [5, 13, 14, 69, 70, 71, 86, 87, 88], [5, 13, 14, 69, 70, 71, 86, 87, 88], [5, 13, 14, 69, 70, 71, 86, 87, 88], [5, 13, 14, 17, 69, 70, 71, 86, 87, 88]] kf12)))
  (.node 13 (.leaf 13 (compE 100000 Try.prog Try.f13 [] kf13))
  (.node 14 (.leaf 14 (compE 100000 Try.prog Try.f14 [[0, 1, 2]] kf14))
  (.leaf 15 (compE 100000 Try.prog Try.f15 [] kf15)))))
  (.node 20 (.node 16 (.leaf 16 (compE 100000 Try.prog Try.f16 [] kf16))
  (.leaf 20 (compE 100000 Try.prog Try.f20 [[1], [1], [1, 4], [1, 4, 33, 34, 35], [1, 4, 33, 34, 35], [1, 4, 33, 34, 35], [1, 4], [1, 4], [1, 4], [1, 4, 62, 63, 64], [1, 4, 62, 63, 64], [1, 4, 62, 63, 64], []] kf20)))
  (.node 21 (.leaf 21 (compE 100000 Try.prog Try.f21 [[0]] kf21))
  (.node 22 (.leaf 22 (compE 100000 Try.prog Try.f22 [[0, 2, 4], [0, 8], [0, 2, 8, 42, 43, 44], [0, 2, 8, 42, 43, 44], [0, 2, 8, 42, 43, 44], [0, 2, 8, 11, 42, 43, 44]] kf22))
  (.leaf 23 (compE 100000 Try.prog Try.f23 [[0, 1, 2, 7]] kf23))))))
  (.node 32 (.node 29 (.node 24 (.leaf 24 (compE 100000 Try.prog Try.f24 [[0, 3, 6], [0, 3, 6]] kf24))
  (.leaf 29 (compE 100000 Try.prog Try.f29 [[], [0, 5, 6, 7], [0, 5, 6, 7], [0, 5, 6, 7]] kf29)))
  (.node 30 (.leaf 30 (compE 100000 Try.prog Try.f30 [[3], [3, 8, 9, 10], [3, 8, 9, 10], [3, 8, 9, 10]] kf30))
  (.node 31 (.leaf 31 (compE 100000 Try.prog Try.f31 [[0, 2, 4], [0, 2, 4], [], [0, 2, 98, 99, 100], [0, 2, 98, 99, 100], [0, 2, 98, 99, 100]] kf31))
  (.leaf 32 (compE 100000 Try.prog Try.f32 [[], [0, 1, 8, 9, 10], [0, 1, 8, 9, 10], [0, 1, 8, 9, 10], [0, 1, 6, 8, 9, 10]] kf32)))))
  (.node 35 (.node 33 (.leaf 33 (compE 100000 Try.prog Try.f33 [[2, 3, 5], [2, 3, 5, 16, 17, 18], [2, 3, 5, 16, 17, 18], [2, 3, 5, 16, 17, 18], [2, 3], [3, 8], [2, 3, 8, 38, 39], [2, 3, 8, 38, 39], [2, 3, 8, 38, 39], [2, 3, 8, 38, 39, 42, 43, 44], [2, 3, 8, 38, 39, 42, 43, 44], [2, 3, 8, 38, 39, 42, 43, 44]] kf33))
  (.node 34 (.leaf 34 (compE 100000 Try.prog Try.f34 [] kf34))
  (.leaf 35 (compE 100000 Try.prog Try.f35 [[1, 3], [1, 3, 9, 10, 11], [1, 3, 9, 10, 11], [1, 3, 9, 10, 11], [3], [3, 27, 28, 29], [3, 27, 28, 29], [3, 27, 28, 29]] kf35))))
  (.node 36 (.leaf 36 (compE 100000 Try.prog Try.f36 [[0, 3], [0, 3, 5], [0, 3, 5, 23], [0, 3, 5, 23]] kf36))
  (.node 37 (.leaf 37 (compE 100000 Try.prog Try.f37 [[0, 1, 2], [0, 9, 11]] kf37))
  (.leaf 38 (compE 100000 Try.prog Try.f38 [] kf38)))))))
  (.node 49 (.node 43 (.node 40 (.node 39 (.leaf 39 (compE 100000 Try.prog Try.f39 [[0]] kf39))
  (.leaf 40 (compE 100000 Try.prog Try.f40 [[0]] kf40)))
  (.node 41 (.leaf 41 (compE 100000 Try.prog Try.f41 [] kf41))
  (.node 42 (.leaf 42 containsE)
  (.leaf 43 (compE 100000 Try.prog Try.f43 [[], [1, 4, 5], [1, 9]] kf43)))))
  (.node 46 (.node 44 (.leaf 44 (compE 100000 Try.prog Try.f44 [[1], [1], [1, 10, 11, 12], [1, 10, 11, 12], [1, 10, 11, 12], []] kf44))
  (.node 45 (.leaf 45 (compE 100000 Try.prog Try.f45 [] kf45))
  (.leaf 46 (compE 100000 Try.prog Try.f46 [[], [0, 8, 9, 10], [0, 8, 9, 10], [0, 8, 9, 10]] kf46))))
  (.node 47 (.leaf 47 (compE 100000 Try.prog Try.f47 [[3, 4, 5], []] kf47))
  (.node 48 (.leaf 48 (compE 100000 Try.prog Try.f48 [[], [0, 1, 7, 8], [0, 1, 7, 8], [0, 1, 7, 8]] kf48))
  (.leaf 49 (compE 100000 Try.prog Try.f49 [[], [0, 1, 13, 14], [0, 1, 13, 14], [0, 1, 13, 14], [0, 1, 13, 14], [0, 1, 13, 14], [0, 6, 13, 14]] kf49))))))
  (.node 54 (.node 51 (.node 50 (.leaf 50 (compE 100000 Try.prog Try.f50 [[0, 1, 4]] kf50))
  (.leaf 51 (compE 100000 Try.prog Try.f51 [[], [0, 3, 5, 6, 15, 16, 17], [0, 3, 5, 6, 15, 16, 17], [0, 3, 5, 6, 15, 16, 17], [0, 3, 5, 6, 9, 11, 15, 16, 17], [0, 3, 5, 6, 12, 13, 15, 16, 17]] kf51)))
  (.node 52 (.leaf 52 (compE 100000 Try.prog Try.f52 [[], [0, 4, 5, 10, 11], [0, 4, 5, 10, 11], [0, 4, 5, 10, 11]] kf52))
  (.node 53 (.leaf 53 (compE 100000 Try.prog Try.f53 [] kf53))
  (.leaf 54 (compE 100000 Try.prog Try.f54 [] kf54)))))
  (.node 58 (.node 56 (.leaf 56 (compE 100000 Try.prog Try.f56 [] kf56))
  (.node 57 (.leaf 57 (compE 100000 Try.prog Try.f57 [] kf57))
  (.leaf 58 (compE 100000 Try.prog Try.f58 [[], [0, 1, 7, 8], [0, 1, 7, 8], [0, 1, 7, 8]] kf58))))
  (.node 59 (.leaf 59 (compE 100000 Try.prog Try.f59 [[0], [0, 1, 7], [0, 1, 7, 8]] kf59))
  (.node 60 (.leaf 60 (compE 100000 Try.prog Try.f60 [] kf60))
  (.leaf 61 (compE 100000 Try.prog Try.f61 [] kf61))))))))
theorem tabA_K : tabA.all fun _ e => BodyKOK e.k e.b := ⟨⟨⟨⟨⟨compE_K kf10_ok, compE_K kf12_ok⟩, ⟨compE_K kf13_ok, ⟨compE_K kf14_ok, compE_K kf15_ok⟩⟩⟩, ⟨⟨compE_K kf16_ok, compE_K kf20_ok⟩, ⟨compE_K kf21_ok, ⟨compE_K kf22_ok, compE_K kf23_ok⟩⟩⟩⟩, ⟨⟨⟨compE_K kf24_ok, compE_K kf29_ok⟩, ⟨compE_K kf30_ok, ⟨compE_K kf31_ok, compE_K kf32_ok⟩⟩⟩, ⟨⟨compE_K kf33_ok, ⟨compE_K kf34_ok, compE_K kf35_ok⟩⟩, ⟨compE_K kf36_ok, ⟨compE_K kf37_ok, compE_K kf38_ok⟩⟩⟩⟩⟩, ⟨⟨⟨⟨compE_K kf39_ok, compE_K kf40_ok⟩, ⟨compE_K kf41_ok, ⟨containsE_K, compE_K kf43_ok⟩⟩⟩, ⟨⟨compE_K kf44_ok, ⟨compE_K kf45_ok, compE_K kf46_ok⟩⟩, ⟨compE_K kf47_ok, ⟨compE_K kf48_ok, compE_K kf49_ok⟩⟩⟩⟩, ⟨⟨⟨compE_K kf50_ok, compE_K kf51_ok⟩, ⟨compE_K kf52_ok, ⟨compE_K kf53_ok, compE_K kf54_ok⟩⟩⟩, ⟨⟨compE_K kf56_ok, ⟨compE_K kf57_ok, compE_K kf58_ok⟩⟩, ⟨compE_K kf59_ok, ⟨compE_K kf60_ok, compE_K kf61_ok⟩⟩⟩⟩⟩⟩
theorem tabA_B {ρ : Nat → Value} {W : World} (hρ : ∀ i, (ρ i).oneCell' = true) (hm : hasM 0 W) : tabA.all fun i e => BodyOK Try.prog ρ ⟨W.heap.size, W⟩ i e.b :=
  ⟨⟨⟨⟨⟨compE_B kf10_ok Try.func10 (by decide) hρ mixed, compE_B kf12_ok Try.func12 (by decide) hρ mixed⟩, ⟨compE_B kf13_ok Try.func13 (by decide) hρ mixed, ⟨compE_B kf14_ok Try.func14 (by decide) hρ mixed, compE_B kf15_ok Try.func15 (by decide) hρ mixed⟩⟩⟩, ⟨⟨compE_B kf16_ok Try.func16 (by decide) hρ mixed, compE_B kf20_ok Try.func20 (by decide) hρ mixed⟩, ⟨compE_B kf21_ok Try.func21 (by decide) hρ mixed, ⟨compE_B kf22_ok Try.func22 (by decide) hρ mixed, compE_B kf23_ok Try.func23 (by decide) hρ mixed⟩⟩⟩⟩, ⟨⟨⟨compE_B kf24_ok Try.func24 (by decide) hρ mixed, compE_B kf29_ok Try.func29 (by decide) hρ mixed⟩, ⟨compE_B kf30_ok Try.func30 (by decide) hρ mixed, ⟨compE_B kf31_ok Try.func31 (by decide) hρ mixed, compE_B kf32_ok Try.func32 (by decide) hρ mixed⟩⟩⟩, ⟨⟨compE_B kf33_ok Try.func33 (by decide) hρ mixed, ⟨compE_B kf34_ok Try.func34 (by decide) hρ mixed, compE_B kf35_ok Try.func35 (by decide) hρ mixed⟩⟩, ⟨compE_B kf36_ok Try.func36 (by decide) hρ mixed, ⟨compE_B kf37_ok Try.func37 (by decide) hρ mixed, compE_B kf38_ok Try.func38 (by decide) hρ mixed⟩⟩⟩⟩⟩, ⟨⟨⟨⟨compE_B kf39_ok Try.func39 (by decide) hρ mixed, compE_B kf40_ok Try.func40 (by decide) hρ mixed⟩, ⟨compE_B kf41_ok Try.func41 (by decide) hρ mixed, ⟨containsE_B Try.func42 (by kernel_rfl) (by decide) hm fun s sub m w hs hm => Try.strings_Contains s sub m w hs hm, compE_B kf43_ok Try.func43 (by decide) hρ mixed⟩⟩⟩, ⟨⟨compE_B kf44_ok Try.func44 (by decide) hρ mixed, ⟨compE_B kf45_ok Try.func45 (by decide) hρ mixed, compE_B kf46_ok Try.func46 (by decide) hρ mixed⟩⟩, ⟨compE_B kf47_ok Try.func47 (by decide) hρ mixed, ⟨compE_B kf48_ok Try.func48 (by decide) hρ mixed, compE_B kf49_ok Try.func49 (by decide) hρ mixed⟩⟩⟩⟩, ⟨⟨⟨compE_B kf50_ok Try.func50 (by decide) hρ mixed, compE_B kf51_ok Try.func51 (by decide) hρ mixed⟩, ⟨compE_B kf52_ok Try.func52 (by decide) hρ mixed, ⟨compE_B kf53_ok Try.func53 (by decide) hρ mixed, compE_B kf54_ok Try.func54 (by decide) hρ mixed⟩⟩⟩, ⟨⟨compE_B kf56_ok Try.func56 (by decide) hρ mixed, ⟨compE_B kf57_ok Try.func57 (by decide) hρ mixed, compE_B kf58_ok Try.func58 (by decide) hρ mixed⟩⟩, ⟨compE_B kf59_ok Try.func59 (by decide) hρ mixed, ⟨compE_B kf60_ok Try.func60 (by decide) hρ mixed, compE_B kf61_ok Try.func61 (by decide) hρ mixed⟩⟩⟩⟩⟩⟩
theorem known_check : check tabA 1000 10 [] = true := by kernel_rfl
theorem known_calls (w : World) (hm : hasM 0 w) : Calls Try.prog 10 #[] w fun e w' => e = .returned (.bool true) ∧ Below w.heap.size w w' :=
  check_call (ρ := fun _ => .bool false) tabA_K (tabA_B (fun _ => rfl) hm) known_check (xs := []) rfl
end Go.Proofs.Ytjblgoefcobkgaa.kn
