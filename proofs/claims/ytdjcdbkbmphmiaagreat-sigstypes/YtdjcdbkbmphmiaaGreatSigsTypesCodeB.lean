/- The code of the law and of all that it calls, for the evaluator; what stands in for the library's. No condition. -/
import Derived.Test.YtdjcdbkbmphmiaaGreatRows
import Derived.Test.YtdjcdbkbmphmiaaGreatShelf
import Derived.WalkKit
import Derived.Test.YtdjcdbkbmphmiaaGreatSigsTypesCodeA
import Derived.Test.YtdjcdbkbmphmiaaGreatEvc7
import Derived.Test.YtdjcdbkbmphmiaaGreatPlace
namespace Go.Proofs.YtdjcdbkbmphmiaaGreat
open Eva Go.RowKit
set_option linter.unusedVariables false
noncomputable def kf159 : KFn := { params := [w0, w1, w2], res := [(.s r6), (.s r7)], body :=
 (.seq
 (.reg [.p (o1 mvG (ctK (.bool false))) w6, .p (o1 mvG (ctK (.int .i64 (Int.ofNat 0)))) w7])
 (.seq
 (.seq
 (.reg [.p (o2 (binG (cmpB .lss ltI)) r1 (ctK (.int .i64 (Int.ofNat 0)))) pushW, .g l0 false false none (o1 mvG r1) pushW, .g l1 false false none (o1 mvG r0) pushW, .g l2 false false none (callO 26 [l0]) pushW, .g l3 false false none (o2 (binG (cmpB .geq geI)) l2 l0) pushW, .p (o3 pickG l4 (ctK (.bool true)) l0) pushW, .g l0 false false none (o1 mvG r2) pushW, .g l1 false false none (o2 (binG (cmpB .lss ltI)) l0 (ctK (.int .i64 (Int.ofNat 0)))) pushW, .p (o3 pickG l2 (ctK (.bool true)) l0) pushW, .g l0 false false none (o1 mvG r2) pushW, .g l1 false false none (o1 mvG r0) pushW, .g l2 false false none (callO 26 [l0]) pushW, .g l3 false false none (o2 (binG (cmpB .geq geI)) l2 l0) pushW, .p (o3 pickG l4 (ctK (.bool true)) l0) w27])
 (.cond r27
 (.seq
 (.reg [.p (o1 mvG (ctK (.bool false))) w6, .p (o1 mvG (ctK (.int .i64 (Int.ofNat 0)))) w7])
 .ret)
 .skip))
 (.seq
 (.reg [.p mkmapO pushW, .p (buildO [.pnil, .mnil] [(0, 1, r0), (1, 1, l0)]) pushW, .p (o1 boxG l0) pushW, .p (o1 mvG l0) w8])
 (.seq
 (.reg [.p (callO 177 [r8, r1, r2]) pushW, .p (o1 mvG l0) w9])
 (.seq
 (.reg [.p (o1 nilckG r8) pushW, .p (o1 (faddrG 1) l0) pushW, .p (o1 load1G l0) pushW, .p (o1 lenMG l0) pushW, .p (o1 mvG r9) w6, .p (o1 mvG l0) w7])
 .ret))))) }
theorem kf159_ok : (compFn Tryz.prog Tryz.f159 [[0, 1, 2]]).bind (toKFn [10, 11, 12, 13, 14, 15, 16, 17, 18, 19, 20, 21, 22, 23, 24, 25, 26, 28, 29, 30, 31, 32, 33, 34, 35, 36, 37, 38, 39, 40, 41] 3) = some kf159 := by kernel_rfl
noncomputable def kf26 : KFn := { params := [w0], res := [(.s r2)], body :=
 (.seq
 (.reg [.p (o1 mvG (ctK (.int .i64 (Int.ofNat 0)))) w2])
 (.seq
 (.reg [.p (o1 nilckG r0) pushW, .p (o1 (faddrG 0) l0) pushW, .p (o1 load1G l0) pushW, .p (o1 lenLG l0) pushW, .p (o1 mvG l0) w2])
 .ret)) }
theorem kf26_ok : (compFn Tryz.prog Tryz.f26 []).bind (toKFn [3, 4, 5, 6, 7] 1) = some kf26 := by kernel_rfl
noncomputable def kf177 : KFn := { params := [w0, w1, w2], res := [(.s r6)], body :=
 (.seq
 (.reg [.p (o1 mvG (ctK (.bool false))) w6])
 (.seq
 (.reg [.p (buildO [(.int .i64 (Int.ofNat 0)), (.int .i64 (Int.ofNat 0))] [(0, 1, r1), (1, 1, r2)]) pushW, .p (allocO [(.int .i64 (Int.ofNat 0)), (.int .i64 (Int.ofNat 0))]) w7, .p (o2 (storeG 2) r7 l0) noW])
 (.seq
 (.seq
 (.drw [.p (o2 (eqG eqIV false) r1 r2) pushW, .g l0 false false none (o1 mvG r0) pushW, .g l1 false false none (o1 nilckG l0) pushW, .g l2 false false none (o1 (faddrG 1) l0) pushW, .g l3 false false none (o1 load1G l0) pushW, .g l4 false false none (o1 (loadnG 2) r7) pushW, .g l5 false false none (o2 (lookupG (.many [.i, .i]) (.int .i64 (Int.ofNat 0)) false) l1 l0) pushW, .g l6 false false none (o2 (binG (cmpB .gtr gtI)) l0 (ctK (.int .i64 (Int.ofNat 0)))) pushW, .p (o3 pickG l7 (ctK (.bool true)) l0) w22] [])
 (.cond r22
 (.seq
 (.reg [.p (o1 mvG (ctK (.bool true))) w6])
 .ret)
 .skip))
 (.seq
 (.drw [.p (o1 nilckG r0) pushW, .p (o1 (faddrG 1) l0) pushW, .p (o1 load1G l0) pushW, .p (o1 (loadnG 2) r7) pushW, .p (o2 (lookupG (.many [.i, .i]) (.int .i64 (Int.ofNat 0)) false) l1 l0) pushW, .p (o2 (binG addB) l0 (ctK (.int .i64 (Int.ofNat 1)))) pushW, .p (o2 (mentG (.many [.i, .i]) (.int .i64 (Int.ofNat 0))) l3 l2) pushW, .p (o1 (extG 1) l0) pushW, .p (o3 estsG l5 l0 l2) noW] [])
 (.seq
 (.reg [.p (callO 189 [r0, r1, r2]) pushW, .p (o1 mvG l0) w6])
 .ret))))) }
theorem kf177_ok : (compFn Tryz.prog Tryz.f177 [[0, 1, 2, 7]]).bind (toKFn [8, 9, 10, 11, 12, 13, 14, 15, 16, 17, 18, 19, 20, 21, 23, 24, 25, 26, 27, 28, 29, 30, 31, 32, 33, 34, 35] 3) = some kf177 := by kernel_rfl
noncomputable def kf189 : KFn := { params := [w0, w1, w2], res := [(.s r6)], body :=
 (.seq
 (.reg [.p (o1 mvG (ctK (.bool false))) w6])
 (.seq
 (.reg [.p (o1 nilckG r0) pushW, .p (o1 (faddrG 0) l0) pushW, .p (o1 load1G l0) pushW, .p (o1 mvG r1) pushW, .p (callO 130 [l1, l0]) pushW, .p (o1 (extG 0) l0) pushW, .p (o1 (extG 1) l1) pushW, .p (o1 mvG l1) w1, .p (o1 mvG l0) w7])
 (.seq
 (.reg [.p (o1 nilckG r0) pushW, .p (o1 (faddrG 0) l0) pushW, .p (o1 load1G l0) pushW, .p (o1 mvG r2) pushW, .p (callO 130 [l1, l0]) pushW, .p (o1 (extG 0) l0) pushW, .p (o1 (extG 1) l1) pushW, .p (o1 mvG l1) w2, .p (o1 mvG l0) w8])
 (.seq
 (.seq
 (.reg [.p (o1 notG r7) pushW, .g l0 false false none (o1 mvG r8) pushW, .g l1 false false none (o1 notG l0) pushW, .p (o3 pickG l2 (ctK (.bool true)) l0) w36])
 (.cond r36
 (.seq
 (.reg [.p (o1 mvG (ctK (.bool false))) w6])
 .ret)
 .skip))
 (.seq
 (.reg [.p (o1 nilckG r0) pushW, .p (o1 (faddrG 0) l0) pushW, .p (o1 load1G l0) pushW, .p (callO 131 [l0, r1]) pushW, .p (o1 (extG 0) l0) pushW, .p (o1 (extG 1) l1) pushW, .p (allocO [(.int .i64 (Int.ofNat 0)), (.str 0 0), .snil, .snil]) w9, .p (o2 (storeG 4) r9 l1) noW])
 (.seq
 (.reg [.p (o1 nilckG r0) pushW, .p (o1 (faddrG 0) l0) pushW, .p (o1 load1G l0) pushW, .p (callO 131 [l0, r2]) pushW, .p (o1 (extG 0) l0) pushW, .p (o1 (extG 1) l1) pushW, .p (allocO [(.int .i64 (Int.ofNat 0)), (.str 0 0), .snil, .snil]) w11, .p (o2 (storeG 4) r11 l1) noW])
 (.seq
 (.block 0
 (.seq
 (.reg [.p (o1 (faddrG 0) r11) pushW, .p (o1 load1G l0) pushW, .p (o2 (eqG eqIV false) l0 (ctK (.int .i64 (Int.ofNat 6)))) pushW, .g l0 true false none (o1 (faddrG 0) r9) pushW, .g l1 true false none (o1 load1G l0) pushW, .g l2 true false none (o2 (eqG eqIV true) l0 (ctK (.int .i64 (Int.ofNat 6)))) pushW, .p (o3 pickG l3 l0 (ctK (.bool false))) pushW, .g l0 true false none (o1 (faddrG 3) r11) pushW, .g l1 true false none (o1 load1G l0) pushW, .g l2 true false none (o1 lenLG l0) pushW, .g l3 true false none (o2 (eqG eqIV false) l0 (ctK (.int .i64 (Int.ofNat 1)))) pushW, .p (o3 pickG l4 l0 (ctK (.bool false))) pushW, .p (o1 mvG l0) w55])
 (.cond r55
 (.seq
 (.reg [.p (o1 (faddrG 3) r11) pushW, .p (o1 load1G l0) pushW, .p (o2 (iaddrG 1) l0 (ctK (.int .i64 (Int.ofNat 0)))) pushW, .p (o1 load1G l0) pushW, .p (callO 177 [r0, r1, l0]) pushW, .p (o1 mvG l0) w6])
 .ret)
 (.seq
 (.reg [.p (o1 (faddrG 0) r9) pushW, .p (o1 load1G l0) pushW, .p (o1 (faddrG 0) r11) pushW, .p (o1 load1G l0) pushW, .p (o2 (eqG eqIV true) l2 l0) pushW, .p (o1 mvG l0) w77])
 (.cond r77
 (.seq
 (.reg [.p (o1 mvG (ctK (.bool false))) w6])
 .ret)
 (.seq
 (.reg [.p (o1 (faddrG 0) r11) pushW, .p (o1 load1G l0) pushW, .p (o2 (eqG eqIV false) l0 (ctK (.int .i64 (Int.ofNat 7)))) pushW, .p (o1 mvG l0) w83])
 (.cond r83
 (.seq
 (.reg [.p (o1 (loadnG 4) r9) pushW, .p (o1 (loadnG 4) r11) pushW, .p (callO 192 [r0, l1, l0, (ctK (.bool true))]) pushW, .p (o1 mvG l0) w6])
 .ret)
 (.seq
 (.reg [.p (o1 (faddrG 0) r11) pushW, .p (o1 load1G l0) pushW, .p (o2 (eqG eqIV false) l0 (ctK (.int .i64 (Int.ofNat 8)))) pushW, .p (o1 mvG l0) w91])
 (.cond r91
 (.seq
 (.reg [.p (o1 (loadnG 4) r11) pushW, .p (o1 (loadnG 4) r9) pushW, .p (callO 192 [r0, l1, l0, (ctK (.bool false))]) pushW, .p (o1 mvG l0) w6])
 .ret)
 .skip)))))))))
 (.seq
 (.reg [.p (o1 (loadnG 4) r9) pushW, .p (o1 (loadnG 4) r11) pushW, .p (callO 193 [r0, l1, l0]) pushW, .p (o1 mvG l0) w6])
 .ret)))))))) }
theorem kf189_ok : (compFn Tryz.prog Tryz.f189 [[0, 1, 2], [0, 9, 11]]).bind (toKFn [10, 12, 13, 14, 15, 16, 17, 18, 19, 20, 21, 22, 23, 24, 25, 26, 27, 28, 29, 30, 31, 32, 33, 34, 35, 37, 38, 39, 40, 41, 42, 43, 44, 45, 46, 47, 48, 49, 50, 51, 52, 53, 54, 56, 57, 58, 59, 60, 61, 62, 63, 64, 65, 66, 67, 68, 69, 70, 71, 72, 73, 74, 75, 76, 78, 79, 80, 81, 82, 84, 85, 86, 87, 88, 89, 90, 92, 93, 94, 95, 96, 97, 98, 99, 100, 101, 102] 3) = some kf189 := by kernel_rfl
noncomputable def kf130 : KFn := { params := [w0, w1], res := [(.s r4), (.s r5)], body :=
 (.seq
 (.reg [.p (o1 mvG (ctK (.int .i64 (Int.ofNat 0)))) w4, .p (o1 mvG (ctK (.bool false))) w5])
 (.seq
 (.seq
 (.reg [.p (o1 nilckG r0) pushW, .p (o1 (faddrG 0) l0) pushW, .p (o1 load1G l0) pushW, .p (o1 lenLG l0) pushW, .p (o2 (binG addB) l0 (ctK (.int .i64 (Int.ofNat 1)))) w13, .p (o1 mvG (ctK (.int .i64 (Int.ofNat 0)))) w14])
 (.block 0
 (.loop
 (.seq
 (.reg [.p (o2 (binG (cmpB .lss ltI)) r14 r13) w15])
 (.seq
 (.cond r15
 .skip
 (.exit 0))
 (.seq
 (.block 1
 (.seq
 (.seq
 (.reg [.p (o2 (binG (cmpB .lss ltI)) r1 (ctK (.int .i64 (Int.ofNat 0)))) pushW, .g l0 false false none (o1 mvG r1) pushW, .g l1 false false none (o1 mvG r0) pushW, .g l2 false false none (o1 nilckG l0) pushW, .g l3 false false none (o1 (faddrG 0) l0) pushW, .g l4 false false none (o1 load1G l0) pushW, .g l5 false false none (o1 lenLG l0) pushW, .g l6 false false none (o2 (binG (cmpB .geq geI)) l5 l0) pushW, .p (o3 pickG l7 (ctK (.bool true)) l0) w26])
 (.cond r26
 (.seq
 (.reg [.p (o1 mvG (ctK (.int .i64 (Int.ofNat 0)))) w4, .p (o1 mvG (ctK (.bool false))) w5])
 .ret)
 .skip))
 (.seq
 (.seq
 (.reg [.p (o1 nilckG r0) pushW, .p (o1 (faddrG 0) l0) pushW, .p (o1 load1G l0) pushW, .p (o2 (iaddrG 4) l0 r1) pushW, .p (o1 (faddrG 0) l0) pushW, .p (o1 load1G l0) pushW, .p (o2 (eqG eqIV true) l0 (ctK (.int .i64 (Int.ofNat 9)))) w35])
 (.cond r35
 (.seq
 (.reg [.p (o1 mvG r1) w4, .p (o1 mvG (ctK (.bool true))) w5])
 .ret)
 .skip))
 (.seq
 (.drw [.p (o1 nilckG r0) pushW, .p (o1 (faddrG 2) l0) pushW, .p (o1 load1G l0) pushW, .p (o1 nilckG r0) pushW, .p (o1 (faddrG 0) l0) pushW, .p (o1 load1G l0) pushW, .p (o2 (iaddrG 4) l0 r1) pushW, .p (o1 (faddrG 1) l0) pushW, .p (o1 load1G l0) pushW, .p (o2 (lookupG (.one .s) (.int .i64 (Int.ofNat 0)) true) l6 l0) pushW, .p (o1 (extG 0) l0) pushW, .p (o1 (extG 1) l1) pushW, .p (o1 mvG l1) w6, .p (o1 mvG l0) w7] [])
 (.seq
 (.seq
 (.reg [.p (o1 notG r7) w54])
 (.cond r54
 (.reg [.p (o1 mvG (ctK (.int .i64 (Int.negSucc 0)))) w6])
 .skip))
 (.reg [.p (o1 mvG r6) w1]))))))
 (.reg [.p (o2 (binG addB) r14 (ctK (.int .i64 (Int.ofNat 1)))) pushW, .p (o1 mvG l0) w14])))))))
 (.seq
 (.reg [.p (o1 mvG (ctK (.int .i64 (Int.ofNat 0)))) w4, .p (o1 mvG (ctK (.bool false))) w5])
 .ret))) }
theorem kf130_ok : (compFn Tryz.prog Tryz.f130 [[], [0, 1, 13, 14], [0, 1, 13, 14], [0, 1, 13, 14], [0, 1, 13, 14], [0, 1, 13, 14], [0, 6, 13, 14]]).bind (toKFn [8, 9, 10, 11, 12, 16, 17, 18, 19, 20, 21, 22, 23, 24, 25, 27, 28, 29, 30, 31, 32, 33, 34, 36, 37, 38, 39, 40, 41, 42, 43, 44, 45, 46, 47, 48, 49, 50, 51, 52, 53, 55, 56] 2) = some kf130 := by kernel_rfl
noncomputable def kf131 : KFn := { params := [w0, w1], res := [(.cn r4 4), (.s r5)], body :=
 (.seq
 (.reg [.p (allocO [(.int .i64 (Int.ofNat 0)), (.str 0 0), .snil, .snil]) w4, .p (o1 mvG (ctK (.bool false))) w5])
 (.seq
 (.seq
 (.reg [.p (o2 (binG (cmpB .lss ltI)) r1 (ctK (.int .i64 (Int.ofNat 0)))) pushW, .g l0 false false none (o1 mvG r1) pushW, .g l1 false false none (o1 mvG r0) pushW, .g l2 false false none (o1 nilckG l0) pushW, .g l3 false false none (o1 (faddrG 0) l0) pushW, .g l4 false false none (o1 load1G l0) pushW, .g l5 false false none (o1 lenLG l0) pushW, .g l6 false false none (o2 (binG (cmpB .geq geI)) l5 l0) pushW, .p (o3 pickG l7 (ctK (.bool true)) l0) w17])
 (.cond r17
 (.seq
 (.reg [.p (buildO [(.int .i64 (Int.ofNat 0)), (.str 0 0), .snil, .snil] []) pushW, .p (o2 (storeG 4) r4 l0) noW, .p (o1 mvG (ctK (.bool false))) w5])
 .ret)
 .skip))
 (.seq
 (.reg [.p (o1 nilckG r0) pushW, .p (o1 (faddrG 0) l0) pushW, .p (o1 load1G l0) pushW, .p (o2 (iaddrG 4) l0 r1) pushW, .p (o1 (loadnG 4) l0) pushW, .p (allocO [(.int .i64 (Int.ofNat 0)), (.str 0 0), .snil, .snil]) w6, .p (o2 (storeG 4) r6 l0) noW])
 (.seq
 (.drw [.p (o1 (faddrG 2) r6) pushW, .p (o1 load1G l0) pushW, .m (callO 68 [l0]) pushW none, .p (o1 (faddrG 3) r6) pushW, .p (o1 load1G l0) pushW, .m (callO 126 [l0]) pushW (some []), .p (o1 (faddrG 2) r6) pushW, .p (o2 (storeG 1) l0 l4) noW, .p (o1 (faddrG 3) r6) pushW, .p (o2 (storeG 1) l0 l2) noW] [])
 (.seq
 (.reg [.p (o1 (loadnG 4) r6) pushW, .p (o2 (storeG 4) r4 l0) noW, .p (o1 mvG (ctK (.bool true))) w5])
 .ret))))) }
theorem kf131_ok : (compFn Tryz.prog Tryz.f131 [[0, 1, 4]]).bind (toKFn [7, 8, 9, 10, 11, 12, 13, 14, 15, 16, 18, 19, 20, 21, 22, 23, 24, 25, 26, 27, 28, 29, 30, 31, 32, 33, 34] 2) = some kf131 := by kernel_rfl
noncomputable def kf192 : KFn := { params := [w0, w1, w2, w3], res := [(.s r8)], body :=
 (.seq
 (.reg [.p (o1 boxG r1) w5, .p (o1 boxG r2) w6, .p (o1 mvG (ctK (.bool false))) w8])
 (.seq
 (.seq
 (.reg [.p (o1 (faddrG 2) r6) pushW, .p (o1 load1G l0) w15, .p (o1 lenLG r15) w16, .p (o1 mvG (ctK (.int .i64 (Int.ofNat 0)))) w17])
 (.block 0
 (.loop
 (.seq
 (.reg [.p (o2 (binG (cmpB .lss ltI)) r17 r16) w18])
 (.seq
 (.cond r18
 .skip
 (.exit 0))
 (.seq
 (.block 1
 (.seq
 (.reg [.p (o2 (iaddrG 1) r15 r17) pushW, .p (o1 load1G l0) pushW, .p (o1 mvG r17) w9, .p (o1 mvG l0) w10])
 (.seq
 (.reg [.p (o1 (faddrG 2) r5) pushW, .p (o1 load1G l0) pushW, .p (callO 140 [l0, r10]) pushW, .p (o1 mvG l0) w11])
 (.seq
 (.seq
 (.reg [.p (o2 (binG (cmpB .lss ltI)) r11 (ctK (.int .i64 (Int.ofNat 0)))) pushW, .g l0 false false none (o1 mvG r11) pushW, .g l1 false false none (o1 (faddrG 3) r5) pushW, .g l2 false false none (o1 load1G l0) pushW, .g l3 false false none (o1 lenLG l0) pushW, .g l4 false false none (o2 (binG (cmpB .geq geI)) l3 l0) pushW, .p (o3 pickG l5 (ctK (.bool true)) l0) pushW, .g l0 false false none (o1 mvG r9) pushW, .g l1 false false none (o1 (faddrG 3) r6) pushW, .g l2 false false none (o1 load1G l0) pushW, .g l3 false false none (o1 lenLG l0) pushW, .g l4 false false none (o2 (binG (cmpB .geq geI)) l3 l0) pushW, .p (o3 pickG l5 (ctK (.bool true)) l0) w41])
 (.cond r41
 (.seq
 (.reg [.p (o1 mvG (ctK (.bool false))) w8])
 .ret)
 .skip))
 (.seq
 (.drw [.p (o1 (faddrG 3) r5) pushW, .p (o1 load1G l0) pushW, .p (o2 (iaddrG 1) l0 r11) pushW, .p (o1 load1G l0) pushW, .p (o1 (faddrG 3) r6) pushW, .p (o1 load1G l0) pushW, .p (o2 (iaddrG 1) l0 r9) pushW, .p (o1 load1G l0) pushW, .p (o1 mvG l4) w12, .p (o1 mvG l0) w13] [])
 (.seq
 (.seq
 (.reg [.p (o1 notG r3) w53])
 (.cond r53
 (.reg [.p (o1 mvG r13) pushW, .p (o1 mvG r12) pushW, .p (o1 mvG l1) w12, .p (o1 mvG l0) w13])
 .skip))
 (.seq
 (.reg [.p (callO 177 [r0, r12, r13]) pushW, .p (o1 notG l0) w60])
 (.cond r60
 (.seq
 (.reg [.p (o1 mvG (ctK (.bool false))) w8])
 .ret)
 .skip))))))))
 (.reg [.p (o2 (binG addB) r17 (ctK (.int .i64 (Int.ofNat 1)))) pushW, .p (o1 mvG l0) w17])))))))
 (.seq
 (.reg [.p (o1 mvG (ctK (.bool true))) w8])
 .ret))) }
theorem kf192_ok : (compFn Tryz.prog Tryz.f192 [[], [0, 3, 5, 6, 15, 16, 17], [0, 3, 5, 6, 15, 16, 17], [0, 3, 5, 6, 15, 16, 17], [0, 3, 5, 6, 9, 11, 15, 16, 17], [0, 3, 5, 6, 12, 13, 15, 16, 17]]).bind (toKFn [14, 19, 20, 21, 22, 23, 24, 25, 26, 27, 28, 29, 30, 31, 32, 33, 34, 35, 36, 37, 38, 39, 40, 42, 43, 44, 45, 46, 47, 48, 49, 50, 51, 52, 54, 55, 56, 57, 58, 59, 61] 4) = some kf192 := by kernel_rfl
noncomputable def kf140 : KFn := { params := [w0, w1], res := [(.s r4)], body :=
 (.seq
 (.reg [.p (o1 mvG (ctK (.int .i64 (Int.ofNat 0)))) w4])
 (.seq
 (.seq
 (.reg [.p (o1 lenLG r0) w7, .p (o1 mvG (ctK (.int .i64 (Int.ofNat 0)))) w8])
 (.block 0
 (.loop
 (.seq
 (.reg [.p (o2 (binG (cmpB .lss ltI)) r8 r7) w9])
 (.seq
 (.cond r9
 .skip
 (.exit 0))
 (.seq
 (.block 1
 (.seq
 (.reg [.p (o1 mvG r8) w5])
 (.seq
 (.reg [.p (o2 (iaddrG 1) r0 r5) pushW, .p (o1 load1G l0) pushW, .p (o2 (eqG eqSV false) r1 l0) w16])
 (.cond r16
 (.seq
 (.reg [.p (o1 mvG r5) w4])
 .ret)
 .skip))))
 (.reg [.p (o2 (binG addB) r8 (ctK (.int .i64 (Int.ofNat 1)))) pushW, .p (o1 mvG l0) w8])))))))
 (.seq
 (.reg [.p (o1 mvG (ctK (.int .i64 (Int.negSucc 0)))) w4])
 .ret))) }
theorem kf140_ok : (compFn Tryz.prog Tryz.f140 [[], [0, 1, 7, 8], [0, 1, 7, 8], [0, 1, 7, 8]]).bind (toKFn [6, 10, 11, 12, 13, 14, 15, 17, 18] 2) = some kf140 := by kernel_rfl
noncomputable def kf193 : KFn := { params := [w0, w1, w2], res := [(.s r6)], body :=
 (.seq
 (.reg [.p (o1 boxG r1) w4, .p (o1 boxG r2) w5, .p (o1 mvG (ctK (.bool false))) w6])
 (.seq
 (.seq
 (.reg [.p (o1 (faddrG 3) r4) pushW, .p (o1 load1G l0) pushW, .p (o1 lenLG l0) w10, .p (o1 mvG (ctK (.int .i64 (Int.ofNat 0)))) w11])
 (.block 0
 (.loop
 (.seq
 (.reg [.p (o2 (binG (cmpB .lss ltI)) r11 r10) w12])
 (.seq
 (.cond r12
 .skip
 (.exit 0))
 (.seq
 (.block 1
 (.seq
 (.reg [.p (o1 mvG r11) w7])
 (.seq
 (.drw [.p (o1 (faddrG 3) r5) pushW, .p (o1 load1G l0) pushW, .p (o1 lenLG l0) pushW, .p (o2 (binG (cmpB .geq geI)) r7 l0) pushW, .g l0 false false none (o1 mvG r0) pushW, .g l1 false false none (o1 (faddrG 3) r4) pushW, .g l2 false false none (o1 load1G l0) pushW, .g l3 false false none (o1 mvG r7) pushW, .g l4 false false none (o2 (iaddrG 1) l1 l0) pushW, .g l5 false false none (o1 load1G l0) pushW, .g l6 false false none (o1 (faddrG 3) r5) pushW, .g l7 false false none (o1 load1G l0) pushW, .g l8 false false none (o1 mvG r7) pushW, .g l9 false false none (o2 (iaddrG 1) l1 l0) pushW, .g l10 false false none (o1 load1G l0) pushW, .g l11 false true (some []) (callO 177 [l10, l5, l0]) pushW, .g l12 false false none (o1 notG l0) pushW, .p (o3 pickG l13 (ctK (.bool true)) l0) w33] [])
 (.cond r33
 (.seq
 (.reg [.p (o1 mvG (ctK (.bool false))) w6])
 .ret)
 .skip))))
 (.reg [.p (o2 (binG addB) r11 (ctK (.int .i64 (Int.ofNat 1)))) pushW, .p (o1 mvG l0) w11])))))))
 (.seq
 (.reg [.p (o1 mvG (ctK (.bool true))) w6])
 .ret))) }
theorem kf193_ok : (compFn Tryz.prog Tryz.f193 [[], [0, 4, 5, 10, 11], [0, 4, 5, 10, 11], [0, 4, 5, 10, 11]]).bind (toKFn [8, 9, 13, 14, 15, 16, 17, 18, 19, 20, 21, 22, 23, 24, 25, 26, 27, 28, 29, 30, 31, 32, 34] 3) = some kf193 := by kernel_rfl
noncomputable def kf160 : KFn := { params := [w0, w1], res := [(.s r4), (.s r5)], body :=
 (.seq
 (.reg [.p (o1 boxG r0) w2, .p (o1 mvG (ctK (.int .i64 (Int.ofNat 0)))) w4, .p (o1 mvG (ctK (.int .i64 (Int.ofNat 0)))) w5])
 (.seq
 (.reg [.p (o1 (faddrG 1) r2) pushW, .p (o1 load1G l0) pushW, .p (o2 (iaddrG 4) l0 (ctK (.int .i64 (Int.ofNat 0)))) pushW, .p (o1 (faddrG 0) l0) pushW, .p (o1 load1G l0) pushW, .p (o1 mvG l0) w6])
 (.seq
 (.seq
 (.reg [.p (o1 mvG r1) w12])
 (.block 0
 (.seq
 (.reg [.p (o2 (eqG eqSV false) r12 (ctK (.str 3 7234924))) pushW, .p (o1 mvG l0) w13])
 (.cond r13
 (.seq
 (.reg [.p (o1 (loadnG 3) r2) pushW, .p (o2 (eqG eqIV false) r6 (ctK (.int .i64 (Int.ofNat 3)))) pushW, .g l0 false false none (o1 mvG r6) pushW, .g l1 false false none (o2 (eqG eqIV false) l0 (ctK (.int .i64 (Int.ofNat 4)))) pushW, .p (o3 pickG l2 (ctK (.bool true)) l0) pushW, .g l0 false false none (o1 mvG r6) pushW, .g l1 false false none (o2 (eqG eqIV false) l0 (ctK (.int .i64 (Int.ofNat 5)))) pushW, .p (o3 pickG l2 (ctK (.bool true)) l0) pushW, .p (callO 178 [l7, (ctK (.int .i64 (Int.ofNat 2))), l0]) pushW, .p (o1 (extG 0) l0) pushW, .p (o1 (extG 1) l1) pushW, .p (o1 mvG l1) w4, .p (o1 mvG l0) w5])
 .ret)
 (.seq
 (.reg [.p (o2 (eqG eqSV false) r12 (ctK (.str 3 7630702))) pushW, .p (o1 mvG l0) w29])
 (.cond r29
 (.seq
 (.drw [.p (o1 (loadnG 3) r2) pushW, .p (o1 (loadnG 3) r2) pushW, .p (bslO 1 1 [(.int .i64 (Int.ofNat 0))] [(0, 1, (ctK (.int .i64 (Int.ofNat 1))))]) pushW, .m (callO 179 [l1, l0]) pushW (some [2]), .m (callO 178 [l3, (ctK (.int .i64 (Int.ofNat 1))), l0]) pushW (some []), .p (o1 (extG 0) l0) pushW, .p (o1 (extG 1) l1) pushW, .p (o1 mvG l1) w4, .p (o1 mvG l0) w5] [])
 .ret)
 (.seq
 (.seq
 (.reg [.p (o2 (eqG eqSV false) r12 (ctK (.str 3 6581857))) pushW, .p (o1 mvG l0) w38])
 (.cond r38
 .skip
 (.reg [.p (o2 (eqG eqSV false) r12 (ctK (.str 2 29295))) pushW, .p (o1 mvG l0) w38])))
 (.cond r38
 (.seq
 (.drw [.p (o1 (loadnG 3) r2) pushW, .p (o1 (loadnG 3) r2) pushW, .p (bslO 1 2 [(.int .i64 (Int.ofNat 0)), (.int .i64 (Int.ofNat 0))] [(0, 1, (ctK (.int .i64 (Int.ofNat 1)))), (1, 1, (ctK (.int .i64 (Int.ofNat 1))))]) pushW, .m (callO 179 [l1, l0]) pushW (some [2]), .m (callO 178 [l3, (ctK (.int .i64 (Int.ofNat 1))), l0]) pushW (some []), .p (o1 (extG 0) l0) pushW, .p (o1 (extG 1) l1) pushW, .p (o1 mvG l1) w4, .p (o1 mvG l0) w5] [])
 .ret)
 (.seq
 (.reg [.p (o2 (eqG eqSV false) r12 (ctK (.str 2 29029))) pushW, .p (o1 mvG l0) w48])
 (.cond r48
 (.seq
 (.drw [.p (o1 (loadnG 3) r2) pushW, .p (o2 (binG (cmpB .geq geI)) r6 (ctK (.int .i64 (Int.ofNat 1)))) pushW, .g l0 true false none (o1 mvG r6) pushW, .g l1 true false none (o2 (binG (cmpB .leq leI)) l0 (ctK (.int .i64 (Int.ofNat 3)))) pushW, .p (o3 pickG l2 l0 (ctK (.bool false))) pushW, .g l0 true false none (o1 (loadnG 3) r2) pushW, .g l1 true false none (o1 mvG r6) pushW, .g l2 true false none (o1 mvG r6) pushW, .g l3 true false none (bslO 1 2 [(.int .i64 (Int.ofNat 0)), (.int .i64 (Int.ofNat 0))] [(0, 1, l1), (1, 1, l0)]) pushW, .g l4 true true (some [2]) (callO 179 [l3, l0]) pushW, .p (o3 pickG l5 l0 (ctK (.bool false))) pushW, .m (callO 178 [l10, (ctK (.int .i64 (Int.ofNat 1))), l0]) pushW (some []), .p (o1 (extG 0) l0) pushW, .p (o1 (extG 1) l1) pushW, .p (o1 mvG l1) w4, .p (o1 mvG l0) w5] [])
 .ret)
 (.seq
 (.reg [.p (o2 (eqG eqSV false) r12 (ctK (.str 2 29804))) pushW, .p (o1 mvG l0) w67])
 (.cond r67
 (.seq
 (.drw [.p (o1 (loadnG 3) r2) pushW, .p (o1 (loadnG 3) r2) pushW, .p (bslO 1 2 [(.int .i64 (Int.ofNat 0)), (.int .i64 (Int.ofNat 0))] [(0, 1, (ctK (.int .i64 (Int.ofNat 2)))), (1, 1, (ctK (.int .i64 (Int.ofNat 2))))]) pushW, .m (callO 179 [l1, l0]) pushW (some [2]), .m (callO 178 [l3, (ctK (.int .i64 (Int.ofNat 1))), l0]) pushW (some []), .p (o1 (extG 0) l0) pushW, .p (o1 (extG 1) l1) pushW, .p (o1 mvG l1) w4, .p (o1 mvG l0) w5] [])
 .ret)
 (.seq
 (.seq
 (.reg [.p (o2 (eqG eqSV false) r12 (ctK (.str 3 6579297))) pushW, .p (o1 mvG l0) w76])
 (.cond r76
 .skip
 (.seq
 (.reg [.p (o2 (eqG eqSV false) r12 (ctK (.str 3 6452595))) pushW, .p (o1 mvG l0) w76])
 (.cond r76
 .skip
 (.seq
 (.reg [.p (o2 (eqG eqSV false) r12 (ctK (.str 3 7107949))) pushW, .p (o1 mvG l0) w76])
 (.cond r76
 .skip
 (.seq
 (.reg [.p (o2 (eqG eqSV false) r12 (ctK (.str 3 7104627))) pushW, .p (o1 mvG l0) w76])
 (.cond r76
 .skip
 (.reg [.p (o2 (eqG eqSV false) r12 (ctK (.str 3 7497843))) pushW, .p (o1 mvG l0) w76])))))))))
 (.cond r76
 (.seq
 (.drw [.p (o1 (loadnG 3) r2) pushW, .p (o1 (loadnG 3) r2) pushW, .p (bslO 1 2 [(.int .i64 (Int.ofNat 0)), (.int .i64 (Int.ofNat 0))] [(0, 1, (ctK (.int .i64 (Int.ofNat 2)))), (1, 1, (ctK (.int .i64 (Int.ofNat 2))))]) pushW, .m (callO 179 [l1, l0]) pushW (some [2]), .m (callO 178 [l3, (ctK (.int .i64 (Int.ofNat 2))), l0]) pushW (some []), .p (o1 (extG 0) l0) pushW, .p (o1 (extG 1) l1) pushW, .p (o1 mvG l1) w4, .p (o1 mvG l0) w5] [])
 .ret)
 (.seq
 (.reg [.p (o2 (eqG eqSV false) r12 (ctK (.str 3 7627107))) pushW, .p (o1 mvG l0) w89])
 (.cond r89
 (.seq
 (.drw [.p (o1 (loadnG 3) r2) pushW, .p (o1 (loadnG 3) r2) pushW, .p (bslO 1 2 [(.int .i64 (Int.ofNat 0)), (.int .i64 (Int.ofNat 0))] [(0, 1, (ctK (.int .i64 (Int.ofNat 3)))), (1, 1, (ctK (.int .i64 (Int.ofNat 3))))]) pushW, .m (callO 179 [l1, l0]) pushW (some [2]), .m (callO 178 [l3, (ctK (.int .i64 (Int.ofNat 3))), l0]) pushW (some []), .p (o1 (extG 0) l0) pushW, .p (o1 (extG 1) l1) pushW, .p (o1 mvG l1) w4, .p (o1 mvG l0) w5] [])
 .ret)
 (.seq
 (.reg [.p (o2 (eqG eqSV false) r12 (ctK (.str 4 1954047348))) pushW, .p (o1 mvG l0) w98])
 (.cond r98
 (.seq
 (.reg [.p (o1 (loadnG 3) r2) pushW, .p (o2 (eqG eqIV false) r6 (ctK (.int .i64 (Int.ofNat 2)))) pushW, .g l0 false false none (o1 mvG r6) pushW, .g l1 false false none (o2 (eqG eqIV false) l0 (ctK (.int .i64 (Int.ofNat 1)))) pushW, .p (o3 pickG l2 (ctK (.bool true)) l0) pushW, .p (callO 178 [l4, (ctK (.int .i64 (Int.ofNat 3))), l0]) pushW, .p (o1 (extG 0) l0) pushW, .p (o1 (extG 1) l1) pushW, .p (o1 mvG l1) w4, .p (o1 mvG l0) w5])
 .ret)
 (.seq
 (.reg [.p (o2 (eqG eqSV false) r12 (ctK (.str 2 29793))) pushW, .p (o1 mvG l0) w110])
 (.cond r110
 (.seq
 (.drw [.p (o1 (loadnG 3) r2) pushW, .p (o1 (loadnG 3) r2) pushW, .p (bslO 1 2 [(.int .i64 (Int.ofNat 0)), (.int .i64 (Int.ofNat 0))] [(0, 1, (ctK (.int .i64 (Int.ofNat 4)))), (1, 1, (ctK (.int .i64 (Int.ofNat 2))))]) pushW, .m (callO 179 [l1, l0]) pushW (some [2]), .m (callO 180 [l3, l0]) pushW (some []), .p (o1 (extG 0) l0) pushW, .p (o1 (extG 1) l1) pushW, .p (o1 mvG l1) w4, .p (o1 mvG l0) w5] [])
 .ret)
 (.seq
 (.reg [.p (o2 (eqG eqSV false) r12 (ctK (.str 3 7628135))) pushW, .p (o1 mvG l0) w119])
 (.cond r119
 (.seq
 (.reg [.p (o1 (loadnG 3) r2) pushW, .p (callO 181 [l0]) pushW, .p (o1 (extG 0) l0) pushW, .p (o1 (extG 1) l1) pushW, .p (o1 mvG l1) w4, .p (o1 mvG l0) w5])
 .ret)
 (.seq
 (.reg [.p (o2 (eqG eqSV false) r12 (ctK (.str 3 7561576))) pushW, .p (o1 mvG l0) w125])
 (.cond r125
 (.seq
 (.drw [.p (o1 (loadnG 3) r2) pushW, .p (o1 (loadnG 3) r2) pushW, .p (bslO 1 1 [(.int .i64 (Int.ofNat 0))] [(0, 1, (ctK (.int .i64 (Int.ofNat 6))))]) pushW, .m (callO 179 [l1, l0]) pushW (some [2]), .m (callO 178 [l3, (ctK (.int .i64 (Int.ofNat 1))), l0]) pushW (some []), .p (o1 (extG 0) l0) pushW, .p (o1 (extG 1) l1) pushW, .p (o1 mvG l1) w4, .p (o1 mvG l0) w5] [])
 .ret)
 (.seq
 (.reg [.p (o2 (eqG eqSV false) r12 (ctK (.str 6 111546414232175))) pushW, .p (o1 mvG l0) w134])
 (.cond r134
 (.seq
 (.drw [.p (o1 (loadnG 3) r2) pushW, .p (o1 (loadnG 3) r2) pushW, .p (bslO 1 1 [(.int .i64 (Int.ofNat 0))] [(0, 1, (ctK (.int .i64 (Int.ofNat 6))))]) pushW, .m (callO 179 [l1, l0]) pushW (some [2]), .g l0 true false none (o1 (faddrG 1) r2) pushW, .g l1 true false none (o1 load1G l0) pushW, .g l2 true false none (o2 (iaddrG 4) l0 (ctK (.int .i64 (Int.ofNat 0)))) pushW, .g l3 true false none (o1 (faddrG 3) l0) pushW, .g l4 true false none (o1 load1G l0) pushW, .g l5 true false none (o1 lenLG l0) pushW, .g l6 true false none (o2 (eqG eqIV false) l0 (ctK (.int .i64 (Int.ofNat 1)))) pushW, .p (o3 pickG l7 l0 (ctK (.bool false))) pushW, .g l0 true false none (o1 (faddrG 2) r2) pushW, .g l1 true false none (o1 load1G l0) pushW, .g l2 true false none (o2 (iaddrG 1) l0 (ctK (.int .i64 (Int.ofNat 1)))) pushW, .g l3 true false none (o1 load1G l0) pushW, .g l4 true false none (o1 (faddrG 1) r2) pushW, .g l5 true false none (o1 load1G l0) pushW, .g l6 true false none (o2 (iaddrG 4) l0 (ctK (.int .i64 (Int.ofNat 0)))) pushW, .g l7 true false none (o1 (faddrG 3) l0) pushW, .g l8 true false none (o1 load1G l0) pushW, .g l9 true false none (o2 (iaddrG 1) l0 (ctK (.int .i64 (Int.ofNat 0)))) pushW, .g l10 true false none (o1 load1G l0) pushW, .g l11 true false none (o2 (eqG eqIV false) l7 l0) pushW, .p (o3 pickG l12 l0 (ctK (.bool false))) pushW, .m (callO 180 [l24, l0]) pushW (some []), .p (o1 (extG 0) l0) pushW, .p (o1 (extG 1) l1) pushW, .p (o1 mvG l1) w4, .p (o1 mvG l0) w5] [])
 .ret)
 .skip))))))))))))))))))))))))))
 (.seq
 (.drw [.p (o1 (loadnG 3) r2) pushW, .p (o1 (loadnG 3) r2) pushW, .p (bslO 1 1 [(.int .i64 (Int.ofNat 0))] [(0, 1, (ctK (.int .i64 (Int.ofNat 2))))]) pushW, .m (callO 179 [l1, l0]) pushW (some [2]), .m (callO 178 [l3, (ctK (.int .i64 (Int.ofNat 2))), l0]) pushW (some []), .p (o1 (extG 0) l0) pushW, .p (o1 (extG 1) l1) pushW, .p (o1 mvG l1) w4, .p (o1 mvG l0) w5] [])
 .ret)))) }
theorem kf160_ok : (compFn Tryz.prog Tryz.f160 [[2], [2, 6, 12, 38], [2, 6, 12, 76]]).bind (toKFn [7, 8, 9, 10, 11, 14, 15, 16, 17, 18, 19, 20, 21, 22, 23, 24, 25, 26, 27, 28, 30, 31, 32, 33, 34, 35, 36, 37, 39, 40, 41, 42, 43, 44, 45, 46, 47, 49, 50, 51, 52, 53, 54, 55, 56, 57, 58, 59, 60, 61, 62, 63, 64, 65, 66, 68, 69, 70, 71, 72, 73, 74, 75, 77, 78, 79, 80, 81, 82, 83, 84, 85, 86, 87, 88, 90, 91, 92, 93, 94, 95, 96, 97, 99, 100, 101, 102, 103, 104, 105, 106, 107, 108, 109, 111, 112, 113, 114, 115, 116, 117, 118, 120, 121, 122, 123, 124, 126, 127, 128, 129, 130, 131, 132, 133, 135, 136, 137, 138, 139, 140, 141, 142, 143, 144, 145, 146, 147, 148, 149, 150, 151, 152, 153, 154, 155, 156, 157, 158, 159, 160, 161, 162, 163, 164, 165, 166, 167, 168, 169, 170, 171, 172] 2) = some kf160 := by kernel_rfl
noncomputable def kf178 : KFn := { params := [w0, w1, w2], res := [(.s r6), (.s r7)], body :=
 (.seq
 (.reg [.p (o1 boxG r0) w3, .p (o1 mvG (ctK (.int .i64 (Int.ofNat 0)))) w6, .p (o1 mvG (ctK (.int .i64 (Int.ofNat 0)))) w7])
 (.seq
 (.seq
 (.reg [.p (o1 notG r2) w9])
 (.cond r9
 (.seq
 (.reg [.p (o1 mvG (ctK (.int .i64 (Int.ofNat 0)))) w6, .p (o1 mvG (ctK (.int .i64 (Int.ofNat 17)))) w7])
 .ret)
 .skip))
 (.seq
 (.reg [.p (o1 (faddrG 0) r3) pushW, .p (o1 load1G l0) pushW, .p (callO 128 [l0, r1]) pushW, .p (o1 (extG 0) l0) pushW, .p (o1 (extG 1) l1) pushW, .p (o1 mvG l1) w6, .p (o1 mvG l0) w7])
 .ret))) }
theorem kf178_ok : (compFn Tryz.prog Tryz.f178 [[1, 3]]).bind (toKFn [8, 10, 11, 12, 13, 14, 15] 3) = some kf178 := by kernel_rfl
noncomputable def kf179 : KFn := { params := [w0, w1], res := [(.s r4)], body :=
 (.seq
 (.reg [.p (o1 boxG r0) w2, .p (o1 mvG (ctK (.bool false))) w4])
 (.seq
 (.seq
 (.reg [.p (o1 mvG r1) w7, .p (o1 lenLG r7) w8, .p (o1 mvG (ctK (.int .i64 (Int.ofNat 0)))) w9])
 (.block 0
 (.loop
 (.seq
 (.reg [.p (o2 (binG (cmpB .lss ltI)) r9 r8) w10])
 (.seq
 (.cond r10
 .skip
 (.exit 0))
 (.seq
 (.block 1
 (.seq
 (.reg [.p (o2 (iaddrG 1) r7 r9) pushW, .p (o1 load1G l0) pushW, .p (o1 mvG r9) w5, .p (o1 mvG l0) w6])
 (.seq
 (.reg [.p (o1 (faddrG 1) r2) pushW, .p (o1 load1G l0) pushW, .p (o2 (iaddrG 4) l0 r5) pushW, .p (o1 (faddrG 0) l0) pushW, .p (o1 load1G l0) pushW, .p (o2 (eqG eqIV true) l0 r6) w21])
 (.cond r21
 (.seq
 (.reg [.p (o1 mvG (ctK (.bool false))) w4])
 .ret)
 .skip))))
 (.reg [.p (o2 (binG addB) r9 (ctK (.int .i64 (Int.ofNat 1)))) pushW, .p (o1 mvG l0) w9])))))))
 (.seq
 (.reg [.p (o1 mvG (ctK (.bool true))) w4])
 .ret))) }
theorem kf179_ok : (compFn Tryz.prog Tryz.f179 [[], [2, 7, 8, 9], [2, 7, 8, 9], [2, 7, 8, 9]]).bind (toKFn [11, 12, 13, 14, 15, 16, 17, 18, 19, 20, 22] 2) = some kf179 := by kernel_rfl
noncomputable def kf180 : KFn := { params := [w0, w1], res := [(.s r4), (.s r5)], body :=
 (.seq
 (.reg [.p (o1 boxG r0) w2, .p (o1 mvG (ctK (.int .i64 (Int.ofNat 0)))) w4, .p (o1 mvG (ctK (.int .i64 (Int.ofNat 0)))) w5])
 (.seq
 (.seq
 (.reg [.p (o1 notG r1) pushW, .g l0 false false none (o1 (faddrG 1) r2) pushW, .g l1 false false none (o1 load1G l0) pushW, .g l2 false false none (o2 (iaddrG 4) l0 (ctK (.int .i64 (Int.ofNat 0)))) pushW, .g l3 false false none (o1 (faddrG 3) l0) pushW, .g l4 false false none (o1 load1G l0) pushW, .g l5 false false none (o1 lenLG l0) pushW, .g l6 false false none (o2 (eqG eqIV false) l0 (ctK (.int .i64 (Int.ofNat 0)))) pushW, .p (o3 pickG l7 (ctK (.bool true)) l0) w16])
 (.cond r16
 (.seq
 (.reg [.p (o1 mvG (ctK (.int .i64 (Int.ofNat 0)))) w4, .p (o1 mvG (ctK (.int .i64 (Int.ofNat 17)))) w5])
 .ret)
 .skip))
 (.seq
 (.reg [.p (o1 (faddrG 1) r2) pushW, .p (o1 load1G l0) pushW, .p (o2 (iaddrG 4) l0 (ctK (.int .i64 (Int.ofNat 0)))) pushW, .p (o1 (faddrG 3) l0) pushW, .p (o1 load1G l0) pushW, .p (o2 (iaddrG 1) l0 (ctK (.int .i64 (Int.ofNat 0)))) pushW, .p (o1 load1G l0) pushW, .p (o1 mvG l0) w4, .p (o1 mvG (ctK (.int .i64 (Int.ofNat 0)))) w5])
 .ret))) }
theorem kf180_ok : (compFn Tryz.prog Tryz.f180 [[2]]).bind (toKFn [6, 7, 8, 9, 10, 11, 12, 13, 14, 15, 17, 18, 19, 20, 21, 22, 23] 2) = some kf180 := by kernel_rfl
noncomputable def kf181 : KFn := { params := [w0], res := [(.s r2), (.s r3)], body :=
 (.seq
 (.reg [.p (o1 boxG r0) w1, .p (o1 mvG (ctK (.int .i64 (Int.ofNat 0)))) w2, .p (o1 mvG (ctK (.int .i64 (Int.ofNat 0)))) w3])
 (.seq
 (.drw [.p (o1 (loadnG 3) r1) pushW, .p (o1 (loadnG 3) r1) pushW, .p (bslO 1 2 [(.int .i64 (Int.ofNat 0)), (.int .i64 (Int.ofNat 0))] [(0, 1, (ctK (.int .i64 (Int.ofNat 5)))), (1, 1, (ctK (.int .i64 (Int.ofNat 3))))]) pushW, .m (callO 179 [l1, l0]) pushW (some [1]), .m (callO 180 [l3, l0]) pushW (some []), .p (o1 (extG 0) l0) pushW, .p (o1 (extG 1) l1) pushW, .p (o1 mvG l1) w4, .p (o1 mvG l0) w5] [])
 (.seq
 (.seq
 (.reg [.p (o2 (eqG eqIV true) r5 (ctK (.int .i64 (Int.ofNat 0)))) w19])
 (.cond r19
 (.seq
 (.reg [.p (o1 mvG (ctK (.int .i64 (Int.ofNat 0)))) w2, .p (o1 mvG r5) w3])
 .ret)
 .skip))
 (.seq
 (.reg [.p (o1 (faddrG 0) r1) pushW, .p (o1 load1G l0) pushW, .p (callO 130 [l0, r4]) pushW, .p (o1 (extG 0) l0) pushW, .p (o1 (extG 1) l1) pushW, .p (o1 mvG l1) w6])
 (.seq
 (.seq
 (.reg [.p (o1 (faddrG 0) r1) pushW, .p (o1 load1G l0) pushW, .p (callO 131 [l0, r6]) pushW, .p (o1 (extG 0) l0) pushW, .p (o1 (extG 1) l1) pushW, .p (allocO [(.int .i64 (Int.ofNat 0)), (.str 0 0), .snil, .snil]) w8, .p (o2 (storeG 4) r8 l1) noW])
 (.seq
 (.reg [.p (o1 (faddrG 0) r8) pushW, .p (o1 load1G l0) pushW, .p (o2 (eqG eqIV false) l0 (ctK (.int .i64 (Int.ofNat 6)))) w37])
 (.cond r37
 (.seq
 (.reg [.p (o1 mvG (ctK (.int .i64 (Int.ofNat 0)))) w2, .p (o1 mvG (ctK (.int .i64 (Int.ofNat 17)))) w3])
 .ret)
 .skip)))
 (.seq
 (.reg [.p (o1 (faddrG 0) r1) pushW, .p (o1 load1G l0) pushW, .p (callO 190 [l0, r4]) pushW, .p (o1 (extG 0) l0) pushW, .p (o1 (extG 1) l1) pushW, .p (o1 mvG l1) w2, .p (o1 mvG l0) w3])
 .ret)))))) }
theorem kf181_ok : (compFn Tryz.prog Tryz.f181 [[1, 4], [1, 4]]).bind (toKFn [7, 9, 10, 11, 12, 13, 14, 15, 16, 17, 18, 20, 21, 22, 23, 24, 25, 26, 27, 28, 29, 30, 31, 32, 33, 34, 35, 36, 38, 39, 40, 41, 42, 43] 1) = some kf181 := by kernel_rfl
noncomputable def kf190 : KFn := { params := [w0, w1], res := [(.s r4), (.s r5)], body :=
 (.seq
 (.reg [.p (o1 mvG (ctK (.int .i64 (Int.ofNat 0)))) w4, .p (o1 mvG (ctK (.int .i64 (Int.ofNat 0)))) w5])
 (.seq
 (.reg [.p (bslO 1 1 [(.int .i64 (Int.ofNat 0))] [(0, 1, r1)]) pushW, .p (buildO [(.int .i64 (Int.ofNat 0)), (.str 0 0), .snil, .snil] [(0, 1, (ctK (.int .i64 (Int.ofNat 6)))), (3, 1, l0)]) pushW, .p (callO 97 [r0, l0]) pushW, .p (o1 (extG 0) l0) pushW, .p (o1 (extG 1) l1) pushW, .p (o1 mvG l1) w4, .p (o1 mvG l0) w5])
 .ret)) }
theorem kf190_ok : (compFn Tryz.prog Tryz.f190 []).bind (toKFn [6, 7, 8, 9, 10, 11, 12] 2) = some kf190 := by kernel_rfl
noncomputable def kf129 : KFn := { params := [w0, w1, w2], res := [(.s r6), (.s r7)], body :=
 (.seq
 (.reg [.p (o1 boxG r0) w3, .p (o1 boxG r2) w5, .p (o1 mvG (ctK (.int .i64 (Int.ofNat 0)))) w6, .p (o1 mvG (ctK (.int .i64 (Int.ofNat 0)))) w7])
 (.seq
 (.reg [.p (o1 (loadnG 3) r3) pushW, .p (o1 (faddrG 1) r5) pushW, .p (o1 load1G l0) pushW, .p (callO 161 [l2, l0]) pushW, .p (o1 (extG 0) l0) pushW, .p (o1 (extG 1) l1) pushW, .p (o1 mvG l1) w8, .p (o1 mvG l0) w9])
 (.seq
 (.seq
 (.reg [.p (o1 notG r9) w27])
 (.cond r27
 (.seq
 (.reg [.p (o1 mvG (ctK (.int .i64 (Int.ofNat 0)))) w6, .p (o1 mvG (ctK (.int .i64 (Int.ofNat 15)))) w7])
 .ret)
 .skip))
 (.seq
 (.reg [.p (o1 (loadnG 3) r3) pushW, .p (o1 (faddrG 2) r5) pushW, .p (o1 load1G l0) pushW, .p (callO 162 [l2, r8, l0]) pushW, .p (o1 (extG 0) l0) pushW, .p (o1 (extG 1) l1) pushW, .p (o1 mvG l1) w10, .p (o1 mvG l0) w11])
 (.seq
 (.seq
 (.reg [.p (o1 (faddrG 2) r5) pushW, .p (o1 load1G l0) pushW, .p (cutLO 1 l0 (some r11) none none) w39, .p (o1 lenLG r39) w40, .p (o1 mvG (ctK (.int .i64 (Int.ofNat 0)))) w41])
 (.block 0
 (.loop
 (.seq
 (.reg [.p (o2 (binG (cmpB .lss ltI)) r41 r40) w42])
 (.seq
 (.cond r42
 .skip
 (.exit 0))
 (.seq
 (.block 1
 (.seq
 (.reg [.p (o2 (iaddrG 1) r39 r41) pushW, .p (o1 load1G l0) pushW, .p (o1 mvG l0) w13])
 (.seq
 (.reg [.p (callO 130 [r1, r10]) pushW, .p (o1 (extG 0) l0) pushW, .p (o1 (extG 1) l1) pushW, .p (o1 mvG l1) w14])
 (.seq
 (.reg [.p (callO 131 [r1, r14]) pushW, .p (o1 (extG 0) l0) pushW, .p (o1 (extG 1) l1) pushW, .p (allocO [(.int .i64 (Int.ofNat 0)), (.str 0 0), .snil, .snil]) w16, .p (o2 (storeG 4) r16 l1) noW])
 (.seq
 (.reg [.p (o1 (faddrG 2) r16) pushW, .p (o1 load1G l0) pushW, .p (callO 140 [l0, r13]) pushW, .p (o1 mvG l0) w18])
 (.seq
 (.seq
 (.reg [.p (o1 (faddrG 0) r16) pushW, .p (o1 load1G l0) pushW, .p (o2 (eqG eqIV true) l0 (ctK (.int .i64 (Int.ofNat 7)))) pushW, .g l0 false false none (o1 mvG r18) pushW, .g l1 false false none (o2 (binG (cmpB .lss ltI)) l0 (ctK (.int .i64 (Int.ofNat 0)))) pushW, .p (o3 pickG l2 (ctK (.bool true)) l0) pushW, .g l0 false false none (o1 mvG r18) pushW, .g l1 false false none (o1 (faddrG 3) r16) pushW, .g l2 false false none (o1 load1G l0) pushW, .g l3 false false none (o1 lenLG l0) pushW, .g l4 false false none (o2 (binG (cmpB .geq geI)) l3 l0) pushW, .p (o3 pickG l5 (ctK (.bool true)) l0) w74])
 (.cond r74
 (.seq
 (.reg [.p (o1 mvG (ctK (.int .i64 (Int.ofNat 0)))) w6, .p (o1 mvG (ctK (.int .i64 (Int.ofNat 16)))) w7])
 .ret)
 .skip))
 (.reg [.p (o1 (faddrG 3) r16) pushW, .p (o1 load1G l0) pushW, .p (o2 (iaddrG 1) l0 r18) pushW, .p (o1 load1G l0) pushW, .p (o1 mvG l0) w10])))))))
 (.reg [.p (o2 (binG addB) r41 (ctK (.int .i64 (Int.ofNat 1)))) pushW, .p (o1 mvG l0) w41])))))))
 (.seq
 (.reg [.p (o1 mvG r10) w6, .p (o1 mvG (ctK (.int .i64 (Int.ofNat 0)))) w7])
 .ret)))))) }
theorem kf129_ok : (compFn Tryz.prog Tryz.f129 [[1, 3, 5, 8], [10], [1, 10, 39, 40, 41], [1, 10, 39, 40, 41], [1, 10, 39, 40, 41], [1, 16, 18, 39, 40, 41]]).bind (toKFn [15, 17, 19, 20, 21, 22, 23, 24, 25, 26, 28, 29, 30, 31, 32, 33, 34, 35, 36, 37, 38, 43, 44, 45, 46, 47, 48, 49, 50, 51, 52, 53, 54, 55, 56, 57, 58, 59, 60, 61, 62, 63, 64, 65, 66, 67, 68, 69, 70, 71, 72, 73, 75, 76, 77, 78, 79, 80, 81] 3) = some kf129 := by kernel_rfl
noncomputable def kf162 : KFn := { params := [w0, w1, w2], res := [(.s r6), (.s r7)], body :=
 (.seq
 (.reg [.p (o1 boxG r0) w3, .p (o1 mvG (ctK (.int .i64 (Int.ofNat 0)))) w6, .p (o1 mvG (ctK (.int .i64 (Int.ofNat 0)))) w7])
 (.seq
 (.reg [.p (o1 (faddrG 0) r3) pushW, .p (o1 load1G l0) pushW, .p (o1 mvG l0) w8, .p (o1 mvG (ctK (.int .i64 (Int.ofNat 0)))) w9])
 (.seq
 (.seq
 (.reg [.p (o2 (eqG eqIV true) r1 (ctK (.int .i64 (Int.negSucc 0)))) w15])
 (.cond r15
 (.reg [.p (o1 (faddrG 1) r3) pushW, .p (o1 load1G l0) pushW, .p (o2 (iaddrG 2) l0 r1) pushW, .p (o1 (faddrG 1) l0) pushW, .p (o1 load1G l0) pushW, .p (o1 mvG l0) w8])
 .skip))
 (.seq
 (.seq
 (.reg [.p (o1 (faddrG 2) r3) pushW, .p (o1 load1G l0) w23, .p (o1 lenLG r23) w24, .p (o1 mvG (ctK (.int .i64 (Int.ofNat 0)))) w25])
 (.block 0
 (.loop
 (.seq
 (.reg [.p (o2 (binG (cmpB .lss ltI)) r25 r24) w26])
 (.seq
 (.cond r26
 .skip
 (.exit 0))
 (.seq
 (.block 1
 (.seq
 (.reg [.p (o2 (iaddrG 3) r23 r25) pushW, .p (o1 (loadnG 3) l0) pushW, .p (allocO [(.int .i64 (Int.ofNat 0)), .snil, (.int .i64 (Int.ofNat 0))]) w11, .p (o2 (storeG 3) r11 l0) noW])
 (.seq
 (.drw [.p (o1 (faddrG 0) r11) pushW, .p (o1 load1G l0) pushW, .p (o2 (eqG eqIV false) l0 r1) pushW, .g l0 true false none (o1 (faddrG 1) r11) pushW, .g l1 true false none (o1 load1G l0) pushW, .g l2 true false none (o1 lenLG l0) pushW, .g l3 true false none (o1 mvG r9) pushW, .g l4 true false none (o2 (binG (cmpB .geq geI)) l1 l0) pushW, .p (o3 pickG l5 l0 (ctK (.bool false))) pushW, .g l0 true false none (o1 (faddrG 1) r11) pushW, .g l1 true false none (o1 load1G l0) pushW, .g l2 true false none (o1 lenLG l0) pushW, .g l3 true false none (o1 mvG r2) pushW, .g l4 true false none (o1 lenLG l0) pushW, .g l5 true false none (o2 (binG (cmpB .leq leI)) l2 l0) pushW, .p (o3 pickG l6 l0 (ctK (.bool false))) pushW, .g l0 true false none (o1 (faddrG 1) r11) pushW, .g l1 true false none (o1 load1G l0) pushW, .g l2 true false none (o1 mvG r2) pushW, .g l3 true false none (o1 (faddrG 1) r11) pushW, .g l4 true false none (o1 load1G l0) pushW, .g l5 true false none (o1 lenLG l0) pushW, .g l6 true false none (cutLO 1 l3 none (some l0) none) pushW, .g l7 true true (some []) (callO 182 [l5, l0]) pushW, .p (o3 pickG l8 l0 (ctK (.bool false))) w57] [])
 (.cond r57
 (.drw [.p (o1 (faddrG 2) r11) pushW, .p (o1 load1G l0) pushW, .p (o1 (faddrG 1) r11) pushW, .p (o1 load1G l0) pushW, .p (o1 lenLG l0) pushW, .p (o1 mvG l3) w8, .p (o1 mvG l0) w9] [])
 .skip))))
 (.reg [.p (o2 (binG addB) r25 (ctK (.int .i64 (Int.ofNat 1)))) pushW, .p (o1 mvG l0) w25])))))))
 (.seq
 (.reg [.p (o1 mvG r8) w6, .p (o1 mvG r9) w7])
 .ret))))) }
theorem kf162_ok : (compFn Tryz.prog Tryz.f162 [[1, 2, 3, 8, 9], [8, 9], [1, 2, 8, 9, 23, 24, 25], [1, 2, 8, 9, 23, 24, 25], [1, 2, 8, 9, 23, 24, 25]]).bind (toKFn [12, 13, 14, 16, 17, 18, 19, 20, 21, 22, 27, 28, 29, 30, 31, 32, 33, 34, 35, 36, 37, 38, 39, 40, 41, 42, 43, 44, 45, 46, 47, 48, 49, 50, 51, 52, 53, 54, 55, 56, 58, 59, 60, 61, 62, 63, 64, 65] 3) = some kf162 := by kernel_rfl
noncomputable def kf182 : KFn := { params := [w0, w1], res := [(.s r4)], body :=
 (.seq
 (.reg [.p (o1 mvG (ctK (.bool false))) w4])
 (.seq
 (.seq
 (.reg [.p (o1 lenLG r0) pushW, .p (o1 lenLG r1) pushW, .p (o2 (eqG eqIV true) l1 l0) w10])
 (.cond r10
 (.seq
 (.reg [.p (o1 mvG (ctK (.bool false))) w4])
 .ret)
 .skip))
 (.seq
 (.seq
 (.reg [.p (o1 lenLG r0) w12, .p (o1 mvG (ctK (.int .i64 (Int.ofNat 0)))) w13])
 (.block 0
 (.loop
 (.seq
 (.reg [.p (o2 (binG (cmpB .lss ltI)) r13 r12) w14])
 (.seq
 (.cond r14
 .skip
 (.exit 0))
 (.seq
 (.block 1
 (.seq
 (.reg [.p (o1 mvG r13) w5])
 (.seq
 (.drw [.p (o2 (iaddrG 1) r0 r5) pushW, .p (o1 load1G l0) pushW, .p (o2 (iaddrG 1) r1 r5) pushW, .p (o1 load1G l0) pushW, .p (o2 (eqG eqSV true) l2 l0) w24] [])
 (.cond r24
 (.seq
 (.reg [.p (o1 mvG (ctK (.bool false))) w4])
 .ret)
 .skip))))
 (.reg [.p (o2 (binG addB) r13 (ctK (.int .i64 (Int.ofNat 1)))) pushW, .p (o1 mvG l0) w13])))))))
 (.seq
 (.reg [.p (o1 mvG (ctK (.bool true))) w4])
 .ret)))) }
theorem kf182_ok : (compFn Tryz.prog Tryz.f182 [[0, 1], [], [0, 1, 12, 13], [0, 1, 12, 13], [0, 1, 12, 13]]).bind (toKFn [6, 7, 8, 9, 11, 15, 16, 17, 18, 19, 20, 21, 22, 23, 25] 2) = some kf182 := by kernel_rfl
noncomputable def kf73 : KFn := { params := [w0, w1, w2, w3], res := [(.s r8)], body :=
 (.seq
 (.reg [.p (o1 boxG r1) w5, .p (o1 boxG r2) w6, .p (o1 mvG (ctK (.int .i64 (Int.ofNat 0)))) w8])
 (.seq
 (.reg [.p (callO 102 [r0, r3]) pushW, .p (allocO [(.int .i64 (Int.ofNat 0)), (.str 0 0), .snil, .snil]) w9, .p (o2 (storeG 4) r9 l0) noW])
 (.seq
 (.seq
 (.reg [.p (o1 (faddrG 0) r6) pushW, .p (o1 load1G l0) w14])
 (.block 0
 (.seq
 (.reg [.p (o2 (eqG eqIV false) r14 (ctK (.int .i64 (Int.ofNat 2)))) pushW, .p (o1 mvG l0) w15])
 (.cond r15
 (.seq
 (.reg [.p (o1 (faddrG 0) r9) pushW, .p (o1 load1G l0) pushW, .p (o2 (binG (cmpB .lss ltI)) l0 (ctK (.int .i64 (Int.ofNat 1)))) pushW, .g l0 false false none (o1 (faddrG 0) r9) pushW, .g l1 false false none (o1 load1G l0) pushW, .g l2 false false none (o2 (binG (cmpB .gtr gtI)) l0 (ctK (.int .i64 (Int.ofNat 3)))) pushW, .p (o3 pickG l3 (ctK (.bool true)) l0) w24])
 (.cond r24
 (.seq
 (.reg [.p (o1 mvG (ctK (.int .i64 (Int.ofNat 17)))) w8])
 .ret)
 .skip))
 (.seq
 (.reg [.p (o2 (eqG eqIV false) r14 (ctK (.int .i64 (Int.ofNat 4)))) pushW, .p (o1 mvG l0) w25])
 (.cond r25
 (.seq
 (.reg [.p (o1 (loadnG 3) r5) pushW, .p (o1 (faddrG 3) r6) pushW, .p (o1 load1G l0) pushW, .p (callO 103 [r0, l2, l0, r3]) pushW, .p (o1 mvG l0) w8])
 .ret)
 (.seq
 (.reg [.p (o2 (eqG eqIV false) r14 (ctK (.int .i64 (Int.ofNat 5)))) pushW, .p (o1 mvG l0) w33])
 (.cond r33
 (.seq
 (.reg [.p (o1 (loadnG 3) r5) pushW, .p (o1 (loadnG 9) r6) pushW, .p (callO 104 [r0, l1, l0, r3]) pushW, .p (o1 mvG l0) w8])
 .ret)
 (.seq
 (.reg [.p (o2 (eqG eqIV false) r14 (ctK (.int .i64 (Int.ofNat 6)))) pushW, .p (o1 mvG l0) w40])
 (.cond r40
 (.seq
 (.seq
 (.reg [.p (o1 (faddrG 0) r9) pushW, .p (o1 load1G l0) pushW, .p (o2 (eqG eqIV false) l0 (ctK (.int .i64 (Int.ofNat 6)))) pushW, .g l0 true false none (o1 (faddrG 3) r9) pushW, .g l1 true false none (o1 load1G l0) pushW, .g l2 true false none (o1 lenLG l0) pushW, .g l3 true false none (o2 (eqG eqIV false) l0 (ctK (.int .i64 (Int.ofNat 1)))) pushW, .p (o3 pickG l4 l0 (ctK (.bool false))) w50])
 (.cond r50
 (.reg [.p (o1 (faddrG 3) r9) pushW, .p (o1 load1G l0) pushW, .p (o2 (iaddrG 1) l0 (ctK (.int .i64 (Int.ofNat 0)))) pushW, .p (o1 load1G l0) pushW, .p (o1 mvG l0) w3])
 .skip))
 (.seq
 (.drw [.p (o1 (loadnG 3) r5) pushW, .m (callO 106 [l0, r3]) pushW none, .p (o1 (faddrG 5) r6) pushW, .p (o1 load1G l0) pushW, .p (o1 (loadnG 3) r5) pushW, .p (o1 (faddrG 6) r6) pushW, .p (o1 load1G l0) pushW, .m (callO 105 [r0, l5, l3, l2, l0]) pushW (some []), .p (o1 mvG l0) w8] [])
 .ret))
 (.seq
 (.reg [.p (o2 (eqG eqIV false) r14 (ctK (.int .i64 (Int.ofNat 7)))) pushW, .p (o1 mvG l0) w65])
 (.cond r65
 (.seq
 (.seq
 (.reg [.p (o1 (faddrG 0) r9) pushW, .p (o1 load1G l0) pushW, .p (o2 (eqG eqIV true) l0 (ctK (.int .i64 (Int.ofNat 4)))) pushW, .g l0 true false none (o1 (faddrG 0) r9) pushW, .g l1 true false none (o1 load1G l0) pushW, .g l2 true false none (o2 (eqG eqIV true) l0 (ctK (.int .i64 (Int.ofNat 5)))) pushW, .p (o3 pickG l3 l0 (ctK (.bool false))) pushW, .g l0 false false none (o1 (faddrG 3) r9) pushW, .g l1 false false none (o1 load1G l0) pushW, .g l2 false false none (o1 lenLG l0) pushW, .g l3 false false none (o2 (eqG eqIV true) l0 (ctK (.int .i64 (Int.ofNat 1)))) pushW, .p (o3 pickG l4 (ctK (.bool true)) l0) w80])
 (.cond r80
 (.seq
 (.reg [.p (o1 mvG (ctK (.int .i64 (Int.ofNat 17)))) w8])
 .ret)
 .skip))
 (.seq
 (.drw [.p (o1 (loadnG 3) r5) pushW, .p (o1 (faddrG 3) r9) pushW, .p (o1 load1G l0) pushW, .p (o2 (iaddrG 1) l0 (ctK (.int .i64 (Int.ofNat 0)))) pushW, .p (o1 load1G l0) pushW, .m (callO 106 [l4, l0]) pushW none, .p (o1 (faddrG 5) r6) pushW, .p (o1 load1G l0) pushW, .p (o1 (loadnG 3) r5) pushW, .p (o1 (faddrG 6) r6) pushW, .p (o1 load1G l0) pushW, .m (callO 105 [r0, l5, l3, l2, l0]) pushW (some []), .p (o1 mvG l0) w8] [])
 .ret))
 (.seq
 (.reg [.p (o2 (eqG eqIV false) r14 (ctK (.int .i64 (Int.ofNat 8)))) pushW, .p (o1 mvG l0) w94])
 (.cond r94
 (.seq
 (.reg [.p (o1 (loadnG 3) r5) pushW, .p (o1 (loadnG 9) r6) pushW, .p (callO 107 [r0, l1, l0, r3]) pushW, .p (o1 mvG l0) w8])
 .ret)
 (.seq
 (.reg [.p (o2 (eqG eqIV false) r14 (ctK (.int .i64 (Int.ofNat 9)))) pushW, .p (o1 mvG l0) w101])
 (.cond r101
 (.seq
 (.reg [.p (o1 (loadnG 3) r5) pushW, .p (o1 (loadnG 9) r6) pushW, .p (callO 108 [r0, l1, l0, r3]) pushW, .p (o1 mvG l0) w8])
 .ret)
 .skip))))))))))))))))
 (.seq
 (.reg [.p (o1 mvG (ctK (.int .i64 (Int.ofNat 0)))) w8])
 .ret)))) }
theorem kf73_ok : (compFn Tryz.prog Tryz.f73 [[], [0, 3, 5, 6], [0, 5, 6, 9]]).bind (toKFn [10, 11, 12, 13, 16, 17, 18, 19, 20, 21, 22, 23, 26, 27, 28, 29, 30, 31, 32, 34, 35, 36, 37, 38, 39, 41, 42, 43, 44, 45, 46, 47, 48, 49, 51, 52, 53, 54, 55, 56, 57, 58, 59, 60, 61, 62, 63, 64, 66, 67, 68, 69, 70, 71, 72, 73, 74, 75, 76, 77, 78, 79, 81, 82, 83, 84, 85, 86, 87, 88, 89, 90, 91, 92, 93, 95, 96, 97, 98, 99, 100, 102, 103, 104, 105, 106, 107] 4) = some kf73 := by kernel_rfl
noncomputable def kf102 : KFn := { params := [w0, w1], res := [(.cn r4 4)], body :=
 (.seq
 (.reg [.p (allocO [(.int .i64 (Int.ofNat 0)), (.str 0 0), .snil, .snil]) w4])
 (.seq
 (.reg [.p (o1 nilckG r0) pushW, .p (o1 (faddrG 0) l0) pushW, .p (o1 load1G l0) pushW, .p (callO 130 [l0, r1]) pushW, .p (o1 (extG 0) l0) pushW, .p (o1 (extG 1) l1) pushW, .p (o1 mvG l1) w5, .p (o1 mvG l0) w6])
 (.seq
 (.seq
 (.reg [.p (o1 notG r6) w19])
 (.cond r19
 (.seq
 (.reg [.p (buildO [(.int .i64 (Int.ofNat 0)), (.str 0 0), .snil, .snil] []) pushW, .p (o2 (storeG 4) r4 l0) noW])
 .ret)
 .skip))
 (.seq
 (.reg [.p (o1 nilckG r0) pushW, .p (o1 (faddrG 0) l0) pushW, .p (o1 load1G l0) pushW, .p (callO 131 [l0, r5]) pushW, .p (o1 (extG 0) l0) pushW, .p (o1 (extG 1) l1) pushW, .p (allocO [(.int .i64 (Int.ofNat 0)), (.str 0 0), .snil, .snil]) w7, .p (o2 (storeG 4) r7 l1) noW])
 (.seq
 (.reg [.p (o1 (loadnG 4) r7) pushW, .p (o2 (storeG 4) r4 l0) noW])
 .ret))))) }
theorem kf102_ok : (compFn Tryz.prog Tryz.f102 [[0, 4, 5]]).bind (toKFn [8, 9, 10, 11, 12, 13, 14, 15, 16, 17, 18, 20, 21, 22, 23, 24, 25, 26, 27, 28, 29, 30] 2) = some kf102 := by kernel_rfl
noncomputable def kf104 : KFn := { params := [w0, w1, w2, w3], res := [(.s r8)], body :=
 (.seq
 (.reg [.p (o1 boxG r1) w5, .p (o1 boxG r2) w6, .p (o1 mvG (ctK (.int .i64 (Int.ofNat 0)))) w8])
 (.seq
 (.reg [.p (callO 102 [r0, r3]) pushW, .p (allocO [(.int .i64 (Int.ofNat 0)), (.str 0 0), .snil, .snil]) w9, .p (o2 (storeG 4) r9 l0) noW])
 (.seq
 (.reg [.p (o1 (loadnG 3) r5) pushW, .p (allocO [(.int .i64 (Int.ofNat 0)), .snil, .snil]) w10, .p (o2 (storeG 3) r10 l0) noW])
 (.seq
 (.seq
 (.reg [.p (o1 (faddrG 0) r9) pushW, .p (o1 load1G l0) w19])
 (.block 0
 (.seq
 (.block 2
 (.seq
 (.block 1
 (.seq
 (.seq
 (.seq
 (.reg [.p (o2 (eqG eqIV false) r19 (ctK (.int .i64 (Int.ofNat 6)))) pushW, .p (o1 mvG l0) w20])
 (.cond r20
 (.exit 1)
 .skip))
 (.seq
 (.reg [.p (o2 (eqG eqIV false) r19 (ctK (.int .i64 (Int.ofNat 1)))) pushW, .p (o1 mvG l0) w22])
 (.cond r22
 (.exit 2)
 .skip)))
 (.exit 0)))
 (.seq
 (.reg [.p (o1 (loadnG 3) r5) pushW, .p (o1 (faddrG 4) r6) pushW, .p (o1 load1G l0) pushW, .p (callO 135 [l2, l0]) pushW, .p (o1 (extG 0) l0) pushW, .p (o1 (extG 1) l1) pushW, .p (o1 (extG 2) l2) pushW, .p (o1 mvG l2) w11, .p (o1 mvG l1) w12, .p (o1 mvG l0) w13])
 (.seq
 (.reg [.g r13 true false none (o1 (faddrG 3) r9) pushW, .g r13 true false none (o1 load1G l0) pushW, .g r13 true false none (o1 lenLG l0) pushW, .g r13 true false none (o2 (eqG eqIV false) l0 (ctK (.int .i64 (Int.ofNat 1)))) pushW, .p (o3 pickG r13 l0 (ctK (.bool false))) w38])
 (.cond r38
 (.drw [.p (o1 (loadnG 3) r5) pushW, .p (o1 (faddrG 3) r9) pushW, .p (o1 load1G l0) pushW, .p (o2 (iaddrG 1) l0 (ctK (.int .i64 (Int.ofNat 0)))) pushW, .p (o1 load1G l0) pushW, .p (buildO [(.int .i64 (Int.ofNat 0)), .snil, (.int .i64 (Int.ofNat 0))] [(0, 1, r11), (1, 1, r12), (2, 1, l0)]) pushW, .m (callO 136 [l5, l0]) pushW (some []), .p (o2 (storeG 3) r10 l0) noW] [])
 .skip)))))
 (.seq
 (.seq
 (.reg [.p (o1 (loadnG 3) r10) pushW, .p (o1 (faddrG 5) r6) pushW, .p (o1 load1G l0) pushW, .p (o1 (loadnG 3) r5) pushW, .p (o1 (faddrG 6) r6) pushW, .p (o1 load1G l0) pushW, .p (callO 105 [r0, l5, l3, l2, l0]) pushW, .p (o1 mvG l0) w8])
 .ret)
 (.exit 0)))))
 (.seq
 (.reg [.p (o1 mvG (ctK (.int .i64 (Int.ofNat 17)))) w8])
 .ret))))) }
theorem kf104_ok : (compFn Tryz.prog Tryz.f104 [[], [0, 5, 6, 10], [0, 5, 6, 9, 10], [], [0, 5, 6, 10, 19]]).bind (toKFn [14, 15, 16, 17, 18, 21, 23, 24, 25, 26, 27, 28, 29, 30, 31, 32, 33, 34, 35, 36, 37, 39, 40, 41, 42, 43, 44, 45, 46, 47, 48, 49, 50, 51, 52, 53, 54, 55] 4) = some kf104 := by kernel_rfl
noncomputable def kf135 : KFn := { params := [w0, w1], res := [(.s r4), (.s r5), (.s r6)], body :=
 (.seq
 (.reg [.p (o1 boxG r0) w2, .p (o1 mvG (ctK (.int .i64 (Int.ofNat 0)))) w4, .p (o1 mvG (ctK .snil)) w5, .p (o1 mvG (ctK (.bool false))) w6])
 (.seq
 (.seq
 (.reg [.p (o1 lenLG r1) pushW, .p (o2 (eqG eqIV true) l0 (ctK (.int .i64 (Int.ofNat 1)))) pushW, .g l0 false false none (o1 mvG r1) pushW, .g l1 false false none (o2 (iaddrG 1) l0 (ctK (.int .i64 (Int.ofNat 0)))) pushW, .g l2 false false none (o1 (faddrG 0) l0) pushW, .g l3 false false none (o1 load1G l0) pushW, .g l4 false false none (o1 lenLG l0) pushW, .g l5 false false none (o2 (eqG eqIV true) l0 (ctK (.int .i64 (Int.ofNat 1)))) pushW, .p (o3 pickG l6 (ctK (.bool true)) l0) pushW, .g l0 false false none (o1 mvG r1) pushW, .g l1 false false none (o2 (iaddrG 1) l0 (ctK (.int .i64 (Int.ofNat 0)))) pushW, .g l2 false false none (o1 (faddrG 0) l0) pushW, .g l3 false false none (o1 load1G l0) pushW, .g l4 false false none (o2 (iaddrG 7) l0 (ctK (.int .i64 (Int.ofNat 0)))) pushW, .g l5 false false none (o1 (faddrG 0) l0) pushW, .g l6 false false none (o1 load1G l0) pushW, .g l7 false false none (o2 (eqG eqIV true) l0 (ctK (.int .i64 (Int.ofNat 1)))) pushW, .p (o3 pickG l8 (ctK (.bool true)) l0) w29])
 (.cond r29
 (.seq
 (.reg [.p (o1 mvG (ctK (.int .i64 (Int.ofNat 0)))) w4, .p (o1 mvG (ctK .snil)) w5, .p (o1 mvG (ctK (.bool false))) w6])
 .ret)
 .skip))
 (.seq
 (.reg [.p (o2 (iaddrG 1) r1 (ctK (.int .i64 (Int.ofNat 0)))) pushW, .p (o1 (faddrG 0) l0) pushW, .p (o1 load1G l0) pushW, .p (o2 (iaddrG 7) l0 (ctK (.int .i64 (Int.ofNat 0)))) pushW, .p (o1 (loadnG 7) l0) pushW, .p (allocO [(.int .i64 (Int.ofNat 0)), (.str 0 0), .snil, (.str 0 0), (.int .i64 (Int.ofNat 0)), (.bool false), .snil]) w7, .p (o2 (storeG 7) r7 l0) noW])
 (.seq
 (.reg [.p (o1 (loadnG 3) r2) pushW, .p (o1 (faddrG 1) r7) pushW, .p (o1 load1G l0) pushW, .p (callO 161 [l2, l0]) pushW, .p (o1 (extG 0) l0) pushW, .p (o1 (extG 1) l1) pushW, .p (o1 mvG l1) w4, .p (o1 mvG l0) w8])
 (.seq
 (.seq
 (.reg [.p (o1 notG r8) w44])
 (.cond r44
 (.seq
 (.reg [.p (o1 mvG (ctK (.int .i64 (Int.ofNat 0)))) w4, .p (o1 mvG (ctK .snil)) w5, .p (o1 mvG (ctK (.bool false))) w6])
 .ret)
 .skip))
 (.seq
 (.reg [.p (o1 mvG r4) pushW, .p (o1 (faddrG 2) r7) pushW, .p (o1 load1G l0) pushW, .p (callO 68 [l0]) pushW, .p (o1 mvG l3) w4, .p (o1 mvG l0) w5, .p (o1 mvG (ctK (.bool true))) w6])
 .ret)))))) }
theorem kf135_ok : (compFn Tryz.prog Tryz.f135 [[1, 2], [4, 7]]).bind (toKFn [9, 10, 11, 12, 13, 14, 15, 16, 17, 18, 19, 20, 21, 22, 23, 24, 25, 26, 27, 28, 30, 31, 32, 33, 34, 35, 36, 37, 38, 39, 40, 41, 42, 43, 45, 46, 47, 48] 2) = some kf135 := by kernel_rfl
noncomputable def kf136 : KFn := { params := [w0, w1], res := [(.cn r4 3)], body :=
 (.seq
 (.reg [.p (o1 boxG r0) w2, .p (o1 boxG r1) w3, .p (allocO [(.int .i64 (Int.ofNat 0)), .snil, .snil]) w4])
 (.seq
 (.reg [.p (o1 (faddrG 2) r2) pushW, .p (o1 load1G l0) pushW, .p (o1 lenLG l0) pushW, .p (o2 (binG addB) l0 (ctK (.int .i64 (Int.ofNat 1)))) pushW, .p (o2 (mkslG 3 [(.int .i64 (Int.ofNat 0)), .snil, (.int .i64 (Int.ofNat 0))]) l0 l0) pushW, .p (o1 mvG l0) w5])
 (.seq
 (.drw [.p (o1 mvG r5) w12, .p (o1 (faddrG 2) r2) pushW, .p (o1 load1G l0) pushW, .p (o2 (copyG 3) r12 l0) pushW, .p (o1 (loadnG 3) r3) pushW, .p (o2 (iaddrG 3) r5 l1) pushW, .p (o2 (storeG 3) l0 l1) noW] [([r12], [r3])])
 (.seq
 (.reg [.p (o1 (faddrG 2) r2) pushW, .p (o2 (storeG 1) l0 r5) noW])
 (.seq
 (.reg [.p (o1 (loadnG 3) r2) pushW, .p (o2 (storeG 3) r4 l0) noW])
 .ret))))) }
theorem kf136_ok : (compFn Tryz.prog Tryz.f136 []).bind (toKFn [6, 7, 8, 9, 10, 11, 13, 14, 15, 16, 17, 18, 19, 20] 2) = some kf136 := by kernel_rfl
noncomputable def kf105 : KFn := { params := [w0, w1, w2, w3, w4], res := [(.s r10)], body :=
 (.seq
 (.reg [.p (o1 boxG r1) w6, .p (o1 boxG r3) w8, .p (o1 mvG (ctK (.int .i64 (Int.ofNat 0)))) w10])
 (.seq
 (.seq
 (.reg [.p (o1 (loadnG 3) r6) pushW, .p (callO 46 [r0, l0, r2]) pushW, .p (o1 mvG l0) w11])
 (.seq
 (.reg [.p (o2 (eqG eqIV true) r11 (ctK (.int .i64 (Int.ofNat 0)))) w17])
 (.cond r17
 (.seq
 (.reg [.p (o1 mvG r11) w10])
 .ret)
 .skip)))
 (.seq
 (.reg [.p (o1 (loadnG 3) r8) pushW, .p (callO 46 [r0, l0, r4]) pushW, .p (o1 mvG l0) w10])
 .ret))) }
theorem kf105_ok : (compFn Tryz.prog Tryz.f105 [[0, 4, 8]]).bind (toKFn [12, 13, 14, 15, 16, 18, 19, 20, 21, 22] 5) = some kf105 := by kernel_rfl
noncomputable def kf106 : KFn := { params := [w0, w1], res := [(.cn r4 3)], body :=
 (.seq
 (.reg [.p (o1 boxG r0) w2, .p (allocO [(.int .i64 (Int.ofNat 0)), .snil, .snil]) w4])
 (.seq
 (.reg [.p (o1 (faddrG 0) r2) pushW, .p (o2 (storeG 1) l0 r1) noW])
 (.seq
 (.reg [.p (o1 (faddrG 2) r2) pushW, .p (o1 load1G l0) pushW, .p (callO 138 [l0]) pushW, .p (callO 137 [l0, (ctK (.fn 139 [] []))]) pushW, .p (o1 (faddrG 2) r2) pushW, .p (o2 (storeG 1) l0 l1) noW])
 (.seq
 (.reg [.p (o1 (loadnG 3) r2) pushW, .p (o2 (storeG 3) r4 l0) noW])
 .ret)))) }
theorem kf106_ok : (compFn Tryz.prog Tryz.f106 []).bind (toKFn [5, 6, 7, 8, 9, 10, 11, 12] 2) = some kf106 := by kernel_rfl
noncomputable def kf138 : KFn := { params := [w0], res := [(.s r2)], body :=
 (.seq
 (.reg [.p (o1 mvG (ctK .snil)) w2])
 (.seq
 (.seq
 (.reg [.p (o2 (eqG (slowEq (.one .l)) false) r0 (ctK .snil)) w4])
 (.cond r4
 (.seq
 (.reg [.p (o1 mvG (ctK .snil)) w2])
 .ret)
 .skip))
 (.seq
 (.reg [.p (bslO 3 0 [] []) pushW, .p (o2 (appG 3) l0 r0) pushW, .p (o1 mvG l0) w2])
 .ret))) }
theorem kf138_ok : (compFn Tryz.prog Tryz.f138 [[0]]).bind (toKFn [3, 5, 6, 7] 1) = some kf138 := by kernel_rfl
noncomputable def kf137 : KFn := { params := [w0, w1], res := [(.s r4)], body :=
 (.seq
 (.reg [.p (o1 mvG (ctK .snil)) w4])
 (.seq
 (.reg [.p (callO 164 [r0, r1]) pushW, .p (o1 mvG l0) w5])
 (.seq
 (.seq
 (.reg [.p (o2 (eqG eqIV false) r5 (ctK (.int .i64 (Int.negSucc 0)))) w12])
 (.cond r12
 (.seq
 (.reg [.p (o1 mvG r0) w4])
 .ret)
 .skip))
 (.seq
 (.seq
 (.reg [.p (o2 (binG addB) r5 (ctK (.int .i64 (Int.ofNat 1)))) pushW, .p (o1 mvG l0) w6])
 (.block 0
 (.loop
 (.seq
 (.seq
 (.reg [.p (o1 lenLG r0) pushW, .p (o2 (binG (cmpB .lss ltI)) r6 l0) w19])
 (.cond r19
 .skip
 (.exit 0)))
 (.seq
 (.block 1
 (.seq
 (.reg [.p (o2 (iaddrG 3) r0 r6) pushW, .p (o1 (loadnG 3) l0) pushW, .p (allocO [(.int .i64 (Int.ofNat 0)), .snil, (.int .i64 (Int.ofNat 0))]) w7, .p (o2 (storeG 3) r7 l0) noW])
 (.seq
 (.reg [.p (o1 (loadnG 3) r7) pushW, .p (callvO r1 [l0]) pushW, .p (o1 notG l0) w29])
 (.cond r29
 (.seq
 (.reg [.p (o1 (loadnG 3) r7) pushW, .p (o2 (iaddrG 3) r0 r5) pushW, .p (o2 (storeG 3) l0 l1) noW])
 (.reg [.p (o1 mvG r5) pushW, .p (o2 (binG addB) l0 (ctK (.int .i64 (Int.ofNat 1)))) pushW, .p (o1 mvG l0) w5]))
 .skip))))
 (.reg [.p (o1 mvG r6) pushW, .p (o2 (binG addB) l0 (ctK (.int .i64 (Int.ofNat 1)))) pushW, .p (o1 mvG l0) w6]))))))
 (.seq
 (.reg [.p (cutLO 3 r0 (some r5) none none) pushW, .p (o1 (clearG 3 [(.int .i64 (Int.ofNat 0)), .snil, (.int .i64 (Int.ofNat 0))]) l0) noW])
 (.seq
 (.reg [.p (cutLO 3 r0 none (some r5) none) pushW, .p (o1 mvG l0) w4])
 .ret)))))) }
theorem kf137_ok : (compFn Tryz.prog Tryz.f137 [[0, 1, 5], [0, 5], [0, 1, 5, 6], [0, 1, 5, 6], [0, 1, 5, 6]]).bind (toKFn [8, 9, 10, 11, 13, 14, 15, 16, 17, 18, 20, 21, 22, 23, 24, 25, 26, 27, 28, 30, 31, 32, 33, 34, 35, 36, 37, 38, 39, 40, 41] 2) = some kf137 := by kernel_rfl
noncomputable def kf164 : KFn := { params := [w0, w1], res := [(.s r4)], body :=
 (.seq
 (.reg [.p (o1 mvG (ctK (.int .i64 (Int.ofNat 0)))) w4])
 (.seq
 (.seq
 (.reg [.p (o1 lenLG r0) w7, .p (o1 mvG (ctK (.int .i64 (Int.ofNat 0)))) w8])
 (.block 0
 (.loop
 (.seq
 (.reg [.p (o2 (binG (cmpB .lss ltI)) r8 r7) w9])
 (.seq
 (.cond r9
 .skip
 (.exit 0))
 (.seq
 (.block 1
 (.seq
 (.reg [.p (o1 mvG r8) w5])
 (.seq
 (.reg [.p (o2 (iaddrG 3) r0 r5) pushW, .p (o1 (loadnG 3) l0) pushW, .p (callvO r1 [l0]) w16])
 (.cond r16
 (.seq
 (.reg [.p (o1 mvG r5) w4])
 .ret)
 .skip))))
 (.reg [.p (o2 (binG addB) r8 (ctK (.int .i64 (Int.ofNat 1)))) pushW, .p (o1 mvG l0) w8])))))))
 (.seq
 (.reg [.p (o1 mvG (ctK (.int .i64 (Int.negSucc 0)))) w4])
 .ret))) }
theorem kf164_ok : (compFn Tryz.prog Tryz.f164 [[], [0, 1, 7, 8], [0, 1, 7, 8], [0, 1, 7, 8]]).bind (toKFn [6, 10, 11, 12, 13, 14, 15, 17, 18] 2) = some kf164 := by kernel_rfl
noncomputable def kf139 : KFn := { params := [w0], res := [(.s r2)], body :=
 (.seq
 (.reg [.p (o1 boxG r0) w1, .p (o1 mvG (ctK (.bool false))) w2])
 (.seq
 (.reg [.p (o1 (faddrG 0) r1) pushW, .p (o1 load1G l0) pushW, .p (o2 (eqG eqIV false) l0 (ctK (.int .i64 (Int.negSucc 0)))) pushW, .p (o1 mvG l0) w2])
 .ret)) }
theorem kf139_ok : (compFn Tryz.prog Tryz.f139 []).bind (toKFn [3, 4, 5] 1) = some kf139 := by kernel_rfl
noncomputable def kf107 : KFn := { params := [w0, w1, w2, w3], res := [(.s r8)], body :=
 (.seq
 (.reg [.p (o1 boxG r1) w5, .p (o1 boxG r2) w6, .p (o1 mvG (ctK (.int .i64 (Int.ofNat 0)))) w8])
 (.seq
 (.reg [.p (callO 102 [r0, r3]) pushW, .p (allocO [(.int .i64 (Int.ofNat 0)), (.str 0 0), .snil, .snil]) w9, .p (o2 (storeG 4) r9 l0) noW])
 (.seq
 (.seq
 (.reg [.p (o1 (faddrG 0) r9) pushW, .p (o1 load1G l0) pushW, .p (o2 (eqG eqIV true) l0 (ctK (.int .i64 (Int.ofNat 8)))) w20])
 (.cond r20
 (.seq
 (.reg [.p (o1 mvG (ctK (.int .i64 (Int.ofNat 17)))) w8])
 .ret)
 .skip))
 (.seq
 (.reg [.p (o1 (faddrG 2) r9) pushW, .p (o1 load1G l0) pushW, .p (o1 lenLG l0) pushW, .p (o2 (mkslG 1 [(.bool false)]) l0 l0) pushW, .p (o1 mvG l0) w10])
 (.seq
 (.seq
 (.reg [.p (o1 (faddrG 8) r6) pushW, .p (o1 load1G l0) w26, .p (o1 lenLG r26) w27, .p (o1 mvG (ctK (.int .i64 (Int.ofNat 0)))) w28])
 (.block 0
 (.loop
 (.seq
 (.reg [.p (o2 (binG (cmpB .lss ltI)) r28 r27) w29])
 (.seq
 (.cond r29
 .skip
 (.exit 0))
 (.seq
 (.block 1
 (.seq
 (.reg [.p (o2 (iaddrG 2) r26 r28) pushW, .p (o1 (loadnG 2) l0) pushW, .p (allocO [(.str 0 0), .snil]) w12, .p (o2 (storeG 2) r12 l0) noW])
 (.seq
 (.reg [.p (o1 (faddrG 2) r9) pushW, .p (o1 load1G l0) pushW, .p (o1 (faddrG 0) r12) pushW, .p (o1 load1G l0) pushW, .p (callO 140 [l2, l0]) pushW, .p (o1 mvG l0) w13])
 (.seq
 (.seq
 (.reg [.p (o2 (binG (cmpB .lss ltI)) r13 (ctK (.int .i64 (Int.ofNat 0)))) pushW, .g l0 false false none (o1 mvG r13) pushW, .g l1 false false none (o1 (faddrG 3) r9) pushW, .g l2 false false none (o1 load1G l0) pushW, .g l3 false false none (o1 lenLG l0) pushW, .g l4 false false none (o2 (binG (cmpB .geq geI)) l3 l0) pushW, .p (o3 pickG l5 (ctK (.bool true)) l0) pushW, .g l0 false false none (o1 mvG r10) pushW, .g l1 false false none (o1 mvG r13) pushW, .g l2 false false none (o2 (iaddrG 1) l1 l0) pushW, .g l3 false false none (o1 load1G l0) pushW, .p (o3 pickG l4 (ctK (.bool true)) l0) w51])
 (.cond r51
 (.seq
 (.reg [.p (o1 mvG (ctK (.int .i64 (Int.ofNat 19)))) w8])
 .ret)
 .skip))
 (.seq
 (.reg [.p (o2 (iaddrG 1) r10 r13) pushW, .p (o2 (storeG 1) l0 (ctK (.bool true))) noW])
 (.seq
 (.drw [.p (o1 (loadnG 3) r5) pushW, .p (o1 (faddrG 3) r9) pushW, .p (o1 load1G l0) pushW, .p (o2 (iaddrG 1) l0 r13) pushW, .p (o1 load1G l0) pushW, .m (callO 106 [l4, l0]) pushW none, .p (o1 (faddrG 1) r12) pushW, .p (o1 load1G l0) pushW, .m (callO 46 [r0, l2, l0]) pushW (some []), .p (o1 mvG l0) w14] [])
 (.seq
 (.reg [.p (o2 (eqG eqIV true) r14 (ctK (.int .i64 (Int.ofNat 0)))) w67])
 (.cond r67
 (.seq
 (.reg [.p (o1 mvG r14) w8])
 .ret)
 .skip))))))))
 (.reg [.p (o2 (binG addB) r28 (ctK (.int .i64 (Int.ofNat 1)))) pushW, .p (o1 mvG l0) w28])))))))
 (.seq
 (.seq
 (.reg [.p (callO 141 [r10, (ctK (.bool false))]) pushW, .g l0 true false none (o1 (faddrG 7) r6) pushW, .g l1 true false none (o1 load1G l0) pushW, .g l2 true false none (o1 notG l0) pushW, .p (o3 pickG l3 l0 (ctK (.bool false))) w76])
 (.cond r76
 (.seq
 (.reg [.p (o1 mvG (ctK (.int .i64 (Int.ofNat 19)))) w8])
 .ret)
 .skip))
 (.seq
 (.reg [.p (o1 (loadnG 3) r5) pushW, .p (o1 (faddrG 6) r6) pushW, .p (o1 load1G l0) pushW, .p (callO 46 [r0, l2, l0]) pushW, .p (o1 mvG l0) w8])
 .ret))))))) }
theorem kf107_ok : (compFn Tryz.prog Tryz.f107 [[0, 5, 6, 9], [0, 5, 6, 10], [0, 5, 6, 9, 10, 26, 27, 28], [0, 5, 6, 9, 10, 26, 27, 28], [0, 5, 6, 9, 10, 26, 27, 28], [0, 5, 6, 9, 10, 12, 13, 26, 27, 28], [0, 5, 6]]).bind (toKFn [15, 16, 17, 18, 19, 21, 22, 23, 24, 25, 30, 31, 32, 33, 34, 35, 36, 37, 38, 39, 40, 41, 42, 43, 44, 45, 46, 47, 48, 49, 50, 52, 53, 54, 55, 56, 57, 58, 59, 60, 61, 62, 63, 64, 65, 66, 68, 69, 70, 71, 72, 73, 74, 75, 77, 78, 79, 80, 81] 4) = some kf107 := by kernel_rfl
noncomputable def kf141 : KFn := { params := [w0, w1], res := [(.s r4)], body :=
 (.seq
 (.reg [.p (o1 mvG (ctK (.bool false))) w4])
 (.seq
 (.reg [.p (callO 165 [r0, r1]) pushW, .p (o2 (binG (cmpB .geq geI)) l0 (ctK (.int .i64 (Int.ofNat 0)))) pushW, .p (o1 mvG l0) w4])
 .ret)) }
theorem kf141_ok : (compFn Tryz.prog Tryz.f141 []).bind (toKFn [5, 6, 7, 8] 2) = some kf141 := by kernel_rfl
noncomputable def kf165 : KFn := { params := [w0, w1], res := [(.s r4)], body :=
 (.seq
 (.reg [.p (o1 mvG (ctK (.int .i64 (Int.ofNat 0)))) w4])
 (.seq
 (.seq
 (.reg [.p (o1 lenLG r0) w7, .p (o1 mvG (ctK (.int .i64 (Int.ofNat 0)))) w8])
 (.block 0
 (.loop
 (.seq
 (.reg [.p (o2 (binG (cmpB .lss ltI)) r8 r7) w9])
 (.seq
 (.cond r9
 .skip
 (.exit 0))
 (.seq
 (.block 1
 (.seq
 (.reg [.p (o1 mvG r8) w5])
 (.seq
 (.reg [.p (o2 (iaddrG 1) r0 r5) pushW, .p (o1 load1G l0) pushW, .p (o2 (eqG (slowEq (.one .b)) false) r1 l0) w16])
 (.cond r16
 (.seq
 (.reg [.p (o1 mvG r5) w4])
 .ret)
 .skip))))
 (.reg [.p (o2 (binG addB) r8 (ctK (.int .i64 (Int.ofNat 1)))) pushW, .p (o1 mvG l0) w8])))))))
 (.seq
 (.reg [.p (o1 mvG (ctK (.int .i64 (Int.negSucc 0)))) w4])
 .ret))) }
theorem kf165_ok : (compFn Tryz.prog Tryz.f165 [[], [0, 1, 7, 8], [0, 1, 7, 8], [0, 1, 7, 8]]).bind (toKFn [6, 10, 11, 12, 13, 14, 15, 17, 18] 2) = some kf165 := by kernel_rfl
noncomputable def kf108 : KFn := { params := [w0, w1, w2, w3], res := [(.s r8)], body :=
 (.seq
 (.reg [.p (o1 boxG r1) w5, .p (o1 boxG r2) w6, .p (o1 mvG (ctK (.int .i64 (Int.ofNat 0)))) w8])
 (.seq
 (.seq
 (.reg [.p (o1 (faddrG 4) r6) pushW, .p (o1 load1G l0) pushW, .p (o1 lenLG l0) pushW, .p (o2 (eqG eqIV false) l0 (ctK (.int .i64 (Int.ofNat 0)))) w12])
 (.cond r12
 (.reg [.p (o1 (faddrG 0) r5) pushW, .p (o1 load1G l0) pushW, .p (o1 mvG l0) w3])
 .skip))
 (.seq
 (.seq
 (.drw [.p (o1 nilckG r0) pushW, .p (o1 (faddrG 1) l0) pushW, .p (o1 load1G l0) pushW, .p (o1 (faddrG 3) r6) pushW, .p (o1 load1G l0) pushW, .m (callO 142 [l2, l0]) pushW (some []), .p (o1 notG l0) w22] [])
 (.cond r22
 (.seq
 (.reg [.p (o1 mvG (ctK (.int .i64 (Int.ofNat 15)))) w8])
 .ret)
 .skip))
 (.seq
 (.drw [.p (o1 nilckG r0) pushW, .p (o1 (faddrG 2) l0) pushW, .p (o1 load1G l0) pushW, .p (o1 (faddrG 3) r6) pushW, .p (o1 load1G l0) pushW, .p (buildO [(.str 0 0), (.int .i64 (Int.ofNat 0))] [(0, 1, l0), (1, 1, r3)]) pushW, .p (bslO 2 1 [(.str 0 0), (.int .i64 (Int.ofNat 0))] [(0, 2, l0)]) pushW, .p (o2 (appG 2) l4 l0) pushW, .p (o1 nilckG r0) pushW, .p (o1 (faddrG 2) l0) pushW, .p (o2 (storeG 1) l0 l2) noW] [])
 (.seq
 (.reg [.p (o1 mvG (ctK (.int .i64 (Int.ofNat 0)))) w8])
 .ret))))) }
theorem kf108_ok : (compFn Tryz.prog Tryz.f108 [[0, 3, 6], [0, 3, 6]]).bind (toKFn [9, 10, 11, 13, 14, 15, 16, 17, 18, 19, 20, 21, 23, 24, 25, 26, 27, 28, 29, 30, 31, 32, 33, 34, 35] 4) = some kf108 := by kernel_rfl
noncomputable def kf142 : KFn := { params := [w0, w1], res := [(.s r4)], body :=
 (.seq
 (.reg [.p (o1 mvG (ctK (.bool false))) w4])
 (.seq
 (.reg [.p (callO 140 [r0, r1]) pushW, .p (o2 (binG (cmpB .geq geI)) l0 (ctK (.int .i64 (Int.ofNat 0)))) pushW, .p (o1 mvG l0) w4])
 .ret)) }
theorem kf142_ok : (compFn Tryz.prog Tryz.f142 []).bind (toKFn [5, 6, 7, 8] 2) = some kf142 := by kernel_rfl
noncomputable def kf74 : KFn := { params := [w0, w1, w2], res := [(.cn r6 3)], body :=
 (.seq
 (.reg [.p (o1 boxG r0) w3, .p (allocO [(.int .i64 (Int.ofNat 0)), .snil, .snil]) w6])
 (.seq
 (.reg [.p (o1 (faddrG 1) r3) pushW, .p (o1 load1G l0) pushW, .p (o1 lenLG l0) pushW, .p (o2 (binG addB) l0 (ctK (.int .i64 (Int.ofNat 1)))) pushW, .p (o2 (mkslG 2 [(.str 0 0), (.int .i64 (Int.ofNat 0))]) l0 l0) pushW, .p (o1 mvG l0) w7])
 (.seq
 (.reg [.p (o1 (faddrG 1) r3) pushW, .p (o1 load1G l0) pushW, .p (o2 (copyG 2) r7 l0) pushW, .p (buildO [(.str 0 0), (.int .i64 (Int.ofNat 0))] [(0, 1, r1), (1, 1, r2)]) pushW, .p (o2 (iaddrG 2) r7 l1) pushW, .p (o2 (storeG 2) l0 l1) noW])
 (.seq
 (.reg [.p (o1 (faddrG 1) r3) pushW, .p (o2 (storeG 1) l0 r7) noW])
 (.seq
 (.reg [.p (o1 (loadnG 3) r3) pushW, .p (o2 (storeG 3) r6 l0) noW])
 .ret))))) }
theorem kf74_ok : (compFn Tryz.prog Tryz.f74 []).bind (toKFn [8, 9, 10, 11, 12, 13, 14, 15, 16, 17, 18, 19, 20, 21, 22, 23, 24] 3) = some kf74 := by kernel_rfl
noncomputable def kf13 : KFn := { params := [w0], res := [(.s r2)], body :=
 (.seq
 (.reg [.p (o1 mvG (ctK .snil)) w2])
 (.seq
 (.reg [.p (o1 nilckG r0) pushW, .p (o1 (faddrG 8) l0) pushW, .p (o1 load1G l0) pushW, .p (callO 27 [l0]) pushW, .p (o1 mvG l0) w2])
 .ret)) }
theorem kf13_ok : (compFn Tryz.prog Tryz.f13 []).bind (toKFn [3, 4, 5, 6, 7] 1) = some kf13 := by kernel_rfl
noncomputable def kf27 : KFn := { params := [w0], res := [(.s r2)], body :=
 (.seq
 (.reg [.p (o1 mvG (ctK .snil)) w2])
 (.seq
 (.seq
 (.reg [.p (o2 (eqG (slowEq (.one .l)) false) r0 (ctK .snil)) w4])
 (.cond r4
 (.seq
 (.reg [.p (o1 mvG (ctK .snil)) w2])
 .ret)
 .skip))
 (.seq
 (.reg [.p (bslO 2 0 [] []) pushW, .p (o2 (appG 2) l0 r0) pushW, .p (o1 mvG l0) w2])
 .ret))) }
theorem kf27_ok : (compFn Tryz.prog Tryz.f27 [[0]]).bind (toKFn [3, 5, 6, 7] 1) = some kf27 := by kernel_rfl
noncomputable def kf12 : KFn := { params := [w0], res := [(.s r2)], body :=
 (.seq
 (.reg [.p (o1 mvG (ctK (.int .i64 (Int.ofNat 0)))) w2])
 (.seq
 (.reg [.p (o1 nilckG r0) pushW, .p (o1 (faddrG 8) l0) pushW, .p (o1 load1G l0) pushW, .p (o1 lenLG l0) pushW, .p (o1 mvG l0) w2])
 .ret)) }
theorem kf12_ok : (compFn Tryz.prog Tryz.f12 []).bind (toKFn [3, 4, 5, 6, 7] 1) = some kf12 := by kernel_rfl
noncomputable def kf10 : KFn := { params := [w0, w1], res := [(.s r4), (.cn r5 3)], body :=
 (.seq
 (.reg [.p (o1 boxG r0) w2, .p (o1 mvG (ctK .pnil)) w4, .p (allocO [(.int .i64 (Int.ofNat 0)), (.str 0 0), (.int .i64 (Int.ofNat 0))]) w5])
 (.seq
 (.reg [.p (o1 (loadnG 6) r2) pushW, .p (callO 22 [l0]) pushW, .p (o1 (extG 0) l0) pushW, .p (o1 (extG 1) l1) pushW, .p (o1 mvG l1) w6, .p (o1 mvG l0) w7])
 (.seq
 (.seq
 (.reg [.p (o2 (eqG eqIV true) r7 (ctK (.int .i64 (Int.ofNat 0)))) w25])
 (.cond r25
 (.seq
 (.reg [.p (buildO [(.int .i64 (Int.ofNat 0)), (.str 0 0), (.int .i64 (Int.ofNat 0))] [(0, 1, r7)]) pushW, .p (o1 mvG (ctK .pnil)) w4, .p (o2 (storeG 3) r5 l0) noW])
 .ret)
 .skip))
 (.seq
 (.reg [.p (o1 mvG (ctK .snil)) w8])
 (.seq
 (.seq
 (.reg [.p (o1 mvG (ctK (.int .i64 (Int.ofNat 1)))) w9])
 (.block 0
 (.loop
 (.seq
 (.seq
 (.reg [.p (o1 lenLG r1) pushW, .p (o2 (binG (cmpB .lss ltI)) r9 l0) w31])
 (.cond r31
 .skip
 (.exit 0)))
 (.seq
 (.block 1
 (.reg [.p (o1 mvG r8) pushW, .p (o2 (iaddrG 2) r1 r9) pushW, .p (o1 (faddrG 0) l0) pushW, .p (o1 load1G l0) pushW, .p (bslO 1 1 [(.str 0 0)] [(0, 1, l0)]) pushW, .p (o2 (appG 1) l4 l0) pushW, .p (o1 mvG l0) w8]))
 (.reg [.p (o1 mvG r9) pushW, .p (o2 (binG addB) l0 (ctK (.int .i64 (Int.ofNat 1)))) pushW, .p (o1 mvG l0) w9]))))))
 (.seq
 (.reg [.p (o1 nilckG r6) pushW, .p (o1 (faddrG 9) l0) pushW, .p (o1 load1G l0) pushW, .p (buildO [(.str 0 0), (.int .i64 (Int.ofNat 0))] [(1, 1, l0)]) pushW, .p (bslO 2 1 [(.str 0 0), (.int .i64 (Int.ofNat 0))] [(0, 2, l0)]) pushW, .p (buildO [.pnil, .snil, .snil] [(0, 1, r6), (1, 1, l0), (2, 1, r1)]) pushW, .p (o1 boxG l0) pushW, .p (o1 mvG l0) w10])
 (.seq
 (.seq
 (.reg [.p (o1 mvG (ctK (.int .i64 (Int.ofNat 0)))) w11])
 (.block 2
 (.loop
 (.seq
 (.seq
 (.reg [.p (o1 nilckG r10) pushW, .p (o1 (faddrG 1) l0) pushW, .p (o1 load1G l0) pushW, .p (o1 lenLG l0) pushW, .p (o2 (binG (cmpB .lss ltI)) r11 l0) w58])
 (.cond r58
 .skip
 (.exit 2)))
 (.seq
 (.block 3
 (.seq
 (.reg [.p (o1 nilckG r10) pushW, .p (o1 (faddrG 1) l0) pushW, .p (o1 load1G l0) pushW, .p (o2 (iaddrG 2) l0 r11) pushW, .p (o1 (loadnG 2) l0) pushW, .p (allocO [(.str 0 0), (.int .i64 (Int.ofNat 0))]) w12, .p (o2 (storeG 2) r12 l0) noW])
 (.seq
 (.drw [.p (o1 (faddrG 1) r12) w71, .p (o1 load1G r71) pushW, .p (o1 (faddrG 0) r12) pushW, .p (o1 load1G l0) pushW, .m (callO 24 [r1, l0]) pushW (some [71]), .m (callO 23 [r6, r8, l3, l0]) pushW (some []), .p (o1 (extG 0) l0) pushW, .p (o1 (extG 1) l1) pushW, .p (o1 (extG 2) l2) pushW, .p (o1 mvG l2) w13, .p (o1 mvG l1) w14, .p (o1 mvG l0) w15] [])
 (.seq
 (.seq
 (.reg [.p (o2 (eqG eqIV true) r15 (ctK (.int .i64 (Int.ofNat 0)))) w82])
 (.cond r82
 (.seq
 (.drw [.p (o1 (faddrG 0) r12) pushW, .p (o1 load1G l0) pushW, .p (buildO [(.int .i64 (Int.ofNat 0)), (.str 0 0), (.int .i64 (Int.ofNat 0))] [(0, 1, r15), (1, 1, l0), (2, 1, r14)]) pushW, .p (o1 mvG (ctK .pnil)) w4, .p (o2 (storeG 3) r5 l0) noW] [])
 .ret)
 .skip))
 (.seq
 (.reg [.p (o1 mvG (ctK (.int .i64 (Int.ofNat 0)))) w16])
 (.block 4
 (.loop
 (.seq
 (.seq
 (.reg [.p (o1 lenLG r13) pushW, .p (o2 (binG (cmpB .lss ltI)) r16 l0) w91])
 (.cond r91
 .skip
 (.exit 4)))
 (.seq
 (.block 5
 (.seq
 (.reg [.p (o1 mvG (ctK (.bool false))) w17])
 (.seq
 (.seq
 (.reg [.p (o1 mvG (ctK (.int .i64 (Int.ofNat 0)))) w18])
 (.block 6
 (.loop
 (.seq
 (.seq
 (.reg [.p (o1 nilckG r10) pushW, .p (o1 (faddrG 1) l0) pushW, .p (o1 load1G l0) pushW, .p (o1 lenLG l0) pushW, .p (o2 (binG (cmpB .lss ltI)) r18 l0) w100])
 (.cond r100
 .skip
 (.exit 6)))
 (.seq
 (.block 7
 (.drw [.p (o1 mvG r17) pushW, .g l0 false false none (o1 mvG r10) pushW, .g l1 false false none (o1 nilckG l0) pushW, .g l2 false false none (o1 (faddrG 1) l0) pushW, .g l3 false false none (o1 load1G l0) pushW, .g l4 false false none (o1 mvG r18) pushW, .g l5 false false none (o2 (iaddrG 2) l1 l0) pushW, .g l6 false false none (o1 (loadnG 2) l0) pushW, .g l7 false false none (o1 mvG r13) pushW, .g l8 false false none (o1 mvG r16) pushW, .g l9 false false none (o2 (iaddrG 2) l1 l0) pushW, .g l10 false false none (o1 (loadnG 2) l0) pushW, .g l11 false false none (o2 (eqG (slowEq (.many [.s, .i])) false) l4 l0) pushW, .p (o3 pickG l12 (ctK (.bool true)) l0) pushW, .p (o1 mvG l0) w17] []))
 (.reg [.p (o1 mvG r18) pushW, .p (o2 (binG addB) l0 (ctK (.int .i64 (Int.ofNat 1)))) pushW, .p (o1 mvG l0) w18]))))))
 (.seq
 (.reg [.p (o1 notG r17) w119])
 (.cond r119
 (.drw [.p (o1 nilckG r10) pushW, .p (o1 (faddrG 1) l0) pushW, .p (o1 load1G l0) pushW, .p (o2 (iaddrG 2) r13 r16) pushW, .p (o1 (loadnG 2) l0) pushW, .p (bslO 2 1 [(.str 0 0), (.int .i64 (Int.ofNat 0))] [(0, 2, l0)]) pushW, .p (o2 (appG 2) l3 l0) pushW, .p (o1 nilckG r10) pushW, .p (o1 (faddrG 1) l0) pushW, .p (o2 (storeG 1) l0 l2) noW] [])
 .skip)))))
 (.reg [.p (o1 mvG r16) pushW, .p (o2 (binG addB) l0 (ctK (.int .i64 (Int.ofNat 1)))) pushW, .p (o1 mvG l0) w16]))))))))))
 (.reg [.p (o1 mvG r11) pushW, .p (o2 (binG addB) l0 (ctK (.int .i64 (Int.ofNat 1)))) pushW, .p (o1 mvG l0) w11]))))))
 (.seq
 (.reg [.p (buildO [(.int .i64 (Int.ofNat 0)), (.str 0 0), (.int .i64 (Int.ofNat 0))] []) pushW, .p (o1 mvG r10) w4, .p (o2 (storeG 3) r5 l0) noW])
 .ret)))))))) }
theorem kf10_ok : (compFn Tryz.prog Tryz.f10 [[1, 5, 6], [1, 5, 6, 8], [1, 5, 6, 8, 9], [1, 5, 6, 8, 9], [1, 5, 6, 8, 9], [5, 10], [1, 5, 6, 8, 10, 11], [1, 5, 6, 8, 10, 11], [1, 5, 6, 8, 10, 11], [1, 5, 6, 8, 10, 11, 13], [1, 5, 6, 8, 10, 11, 13, 16], [1, 5, 6, 8, 10, 11, 13, 16], [1, 5, 6, 8, 10, 11, 13, 16], [1, 5, 6, 8, 10, 11, 13, 16, 17], [1, 5, 6, 8, 10, 11, 13, 16, 17, 18], [1, 5, 6, 8, 10, 11, 13, 16, 17, 18], [1, 5, 6, 8, 10, 11, 13, 16, 17, 18]]).bind (toKFn [19, 20, 21, 22, 23, 24, 26, 27, 28, 29, 30, 32, 33, 34, 35, 36, 37, 38, 39, 40, 41, 42, 43, 44, 45, 46, 47, 48, 49, 50, 51, 52, 53, 54, 55, 56, 57, 59, 60, 61, 62, 63, 64, 65, 66, 67, 68, 69, 70, 72, 73, 74, 75, 76, 77, 78, 79, 80, 81, 83, 84, 85, 86, 87, 88, 89, 90, 92, 93, 94, 95, 96, 97, 98, 99, 101, 102, 103, 104, 105, 106, 107, 108, 109, 110, 111, 112, 113, 114, 115, 116, 117, 118, 120, 121, 122, 123, 124, 125, 126, 127, 128, 129, 130, 131, 132, 133, 134] 2) = some kf10 := by kernel_rfl
noncomputable def kf22 : KFn := { params := [w0], res := [(.s r2), (.s r3)], body :=
 (.seq
 (.reg [.p (o1 boxG r0) w1, .p (o1 mvG (ctK .pnil)) w2, .p (o1 mvG (ctK (.int .i64 (Int.ofNat 0)))) w3])
 (.seq
 (.seq
 (.reg [.p (o1 (loadnG 6) r1) pushW, .p (callO 47 [l0]) pushW, .p (o2 (eqG eqIV true) l0 (ctK (.int .i64 (Int.ofNat 0)))) w15])
 (.cond r15
 (.seq
 (.reg [.p (o1 (loadnG 6) r1) pushW, .p (callO 47 [l0]) pushW, .p (o1 mvG (ctK .pnil)) w2, .p (o1 mvG l0) w3])
 .ret)
 .skip))
 (.seq
 (.reg [.p (o1 (loadnG 6) r1) pushW, .p (buildO [.snil, .snil, (.int .i64 (Int.ofNat 0)), (.str 0 0), .snil, .snil, .snil, .snil, .snil, (.int .i64 (Int.ofNat 0)), .snil] [(2, 6, l0)]) pushW, .p (o1 boxG l0) pushW, .p (o1 mvG l0) w4])
 (.seq
 (.seq
 (.reg [.p (o1 mvG (ctK (.int .i64 (Int.ofNat 0)))) w5])
 (.block 0
 (.loop
 (.seq
 (.seq
 (.reg [.p (o1 (faddrG 4) r1) pushW, .p (o1 load1G l0) pushW, .p (o1 lenLG l0) pushW, .p (o2 (binG (cmpB .lss ltI)) r5 l0) w25])
 (.cond r25
 .skip
 (.exit 0)))
 (.seq
 (.block 1
 (.seq
 (.reg [.p (o1 (faddrG 4) r1) pushW, .p (o1 load1G l0) pushW, .p (o2 (iaddrG 5) l0 r5) pushW, .p (o1 (faddrG 1) l0) pushW, .p (o1 (loadnG 4) l0) pushW, .p (callO 48 [r4, l0]) pushW, .p (o1 (extG 0) l0) pushW, .p (o1 (extG 1) l1) pushW, .p (o1 mvG l1) w6, .p (o1 mvG l0) w7])
 (.seq
 (.seq
 (.reg [.p (o2 (eqG eqIV true) r7 (ctK (.int .i64 (Int.ofNat 0)))) w40])
 (.cond r40
 (.seq
 (.reg [.p (o1 mvG (ctK .pnil)) w2, .p (o1 mvG r7) w3])
 .ret)
 .skip))
 (.reg [.p (o1 nilckG r4) pushW, .p (o1 (faddrG 8) l0) pushW, .p (o1 load1G l0) pushW, .p (bslO 1 1 [(.int .i64 (Int.ofNat 0))] [(0, 1, r6)]) pushW, .p (o2 (appG 1) l1 l0) pushW, .p (o1 nilckG r4) pushW, .p (o1 (faddrG 8) l0) pushW, .p (o2 (storeG 1) l0 l2) noW]))))
 (.reg [.p (o1 mvG r5) pushW, .p (o2 (binG addB) l0 (ctK (.int .i64 (Int.ofNat 1)))) pushW, .p (o1 mvG l0) w5]))))))
 (.seq
 (.reg [.p (o1 (faddrG 0) r1) pushW, .p (o1 (loadnG 4) l0) pushW, .p (callO 48 [r4, l0]) pushW, .p (o1 (extG 0) l0) pushW, .p (o1 (extG 1) l1) pushW, .p (o1 mvG l1) w8, .p (o1 mvG l0) w9])
 (.seq
 (.seq
 (.reg [.p (o2 (eqG eqIV true) r9 (ctK (.int .i64 (Int.ofNat 0)))) w60])
 (.cond r60
 (.seq
 (.reg [.p (o1 mvG (ctK .pnil)) w2, .p (o1 mvG r9) w3])
 .ret)
 .skip))
 (.seq
 (.reg [.p (o1 nilckG r4) pushW, .p (o1 (faddrG 9) l0) pushW, .p (o2 (storeG 1) l0 r8) noW])
 (.seq
 (.seq
 (.reg [.p (o1 mvG (ctK (.int .i64 (Int.ofNat 0)))) w10])
 (.block 2
 (.loop
 (.seq
 (.seq
 (.reg [.p (o1 (faddrG 5) r1) pushW, .p (o1 load1G l0) pushW, .p (o1 lenLG l0) pushW, .p (o2 (binG (cmpB .lss ltI)) r10 l0) w70])
 (.cond r70
 .skip
 (.exit 2)))
 (.seq
 (.block 3
 (.seq
 (.reg [.p (o1 (faddrG 5) r1) pushW, .p (o1 load1G l0) pushW, .p (o2 (iaddrG 6) l0 r10) pushW, .p (o1 (faddrG 0) l0) pushW, .p (o1 load1G l0) pushW, .p (buildO [(.str 0 0), .snil, (.int .i64 (Int.ofNat 0))] [(0, 1, l0)]) pushW, .p (allocO [(.str 0 0), .snil, (.int .i64 (Int.ofNat 0))]) w11, .p (o2 (storeG 3) r11 l0) noW])
 (.seq
 (.seq
 (.reg [.p (o1 mvG (ctK (.int .i64 (Int.ofNat 0)))) w12])
 (.block 4
 (.loop
 (.seq
 (.seq
 (.reg [.p (o1 (faddrG 5) r1) pushW, .p (o1 load1G l0) pushW, .p (o2 (iaddrG 6) l0 r10) pushW, .p (o1 (faddrG 1) l0) pushW, .p (o1 load1G l0) pushW, .p (o1 lenLG l0) pushW, .p (o2 (binG (cmpB .lss ltI)) r12 l0) w88])
 (.cond r88
 .skip
 (.exit 4)))
 (.seq
 (.block 5
 (.seq
 (.reg [.p (o1 (faddrG 5) r1) pushW, .p (o1 load1G l0) pushW, .p (o2 (iaddrG 6) l0 r10) pushW, .p (o1 (faddrG 1) l0) pushW, .p (o1 load1G l0) pushW, .p (o2 (iaddrG 4) l0 r12) pushW, .p (o1 (loadnG 4) l0) pushW, .p (callO 48 [r4, l0]) pushW, .p (o1 (extG 0) l0) pushW, .p (o1 (extG 1) l1) pushW, .p (o1 mvG l1) w8, .p (o1 mvG l0) w9])
 (.seq
 (.seq
 (.reg [.p (o2 (eqG eqIV true) r9 (ctK (.int .i64 (Int.ofNat 0)))) w106])
 (.cond r106
 (.seq
 (.reg [.p (o1 mvG (ctK .pnil)) w2, .p (o1 mvG r9) w3])
 .ret)
 .skip))
 (.reg [.p (o1 (faddrG 1) r11) pushW, .p (o1 load1G l0) pushW, .p (bslO 1 1 [(.int .i64 (Int.ofNat 0))] [(0, 1, r8)]) pushW, .p (o2 (appG 1) l1 l0) pushW, .p (o1 (faddrG 1) r11) pushW, .p (o2 (storeG 1) l0 l1) noW]))))
 (.reg [.p (o1 mvG r12) pushW, .p (o2 (binG addB) l0 (ctK (.int .i64 (Int.ofNat 1)))) pushW, .p (o1 mvG l0) w12]))))))
 (.seq
 (.reg [.p (o1 (faddrG 5) r1) pushW, .p (o1 load1G l0) pushW, .p (o2 (iaddrG 6) l0 r10) pushW, .p (o1 (faddrG 2) l0) pushW, .p (o1 (loadnG 4) l0) pushW, .p (callO 48 [r4, l0]) pushW, .p (o1 (extG 0) l0) pushW, .p (o1 (extG 1) l1) pushW, .p (o1 (faddrG 2) r11) pushW, .p (o2 (storeG 1) l0 l2) noW, .p (o1 mvG l1) w9])
 (.seq
 (.seq
 (.reg [.p (o2 (eqG eqIV true) r9 (ctK (.int .i64 (Int.ofNat 0)))) w127])
 (.cond r127
 (.seq
 (.reg [.p (o1 mvG (ctK .pnil)) w2, .p (o1 mvG r9) w3])
 .ret)
 .skip))
 (.drw [.p (o1 nilckG r4) pushW, .p (o1 (faddrG 10) l0) pushW, .p (o1 load1G l0) pushW, .p (o1 (loadnG 3) r11) pushW, .p (bslO 3 1 [(.str 0 0), .snil, (.int .i64 (Int.ofNat 0))] [(0, 3, l0)]) pushW, .p (o2 (appG 3) l2 l0) pushW, .p (o1 nilckG r4) pushW, .p (o1 (faddrG 10) l0) pushW, .p (o2 (storeG 1) l0 l2) noW] []))))))
 (.reg [.p (o1 mvG r10) pushW, .p (o2 (binG addB) l0 (ctK (.int .i64 (Int.ofNat 1)))) pushW, .p (o1 mvG l0) w10]))))))
 (.seq
 (.reg [.p (o1 mvG r4) w2, .p (o1 mvG (ctK (.int .i64 (Int.ofNat 0)))) w3])
 .ret))))))))) }
theorem kf22_ok : (compFn Tryz.prog Tryz.f22 [[1], [1, 4], [1, 4, 5], [1, 4, 5], [1, 4, 5], [1, 4, 5, 6], [1, 4, 8], [4], [1, 4, 10], [1, 4, 10], [1, 4, 10], [1, 4, 10, 11], [1, 4, 10, 11, 12], [1, 4, 10, 11, 12], [1, 4, 10, 11, 12], [1, 4, 8, 10, 11, 12], [1, 4, 10, 11]]).bind (toKFn [13, 14, 16, 17, 18, 19, 20, 21, 22, 23, 24, 26, 27, 28, 29, 30, 31, 32, 33, 34, 35, 36, 37, 38, 39, 41, 42, 43, 44, 45, 46, 47, 48, 49, 50, 51, 52, 53, 54, 55, 56, 57, 58, 59, 61, 62, 63, 64, 65, 66, 67, 68, 69, 71, 72, 73, 74, 75, 76, 77, 78, 79, 80, 81, 82, 83, 84, 85, 86, 87, 89, 90, 91, 92, 93, 94, 95, 96, 97, 98, 99, 100, 101, 102, 103, 104, 105, 107, 108, 109, 110, 111, 112, 113, 114, 115, 116, 117, 118, 119, 120, 121, 122, 123, 124, 125, 126, 128, 129, 130, 131, 132, 133, 134, 135, 136, 137, 138, 139] 1) = some kf22 := by kernel_rfl
noncomputable def kf47 : KFn := { params := [w0], res := [(.s r2)], body :=
 (.seq
 (.reg [.p (o1 boxG r0) w1, .p (o1 mvG (ctK (.int .i64 (Int.ofNat 0)))) w2])
 (.seq
 (.seq
 (.reg [.p (o1 (faddrG 4) r1) pushW, .p (o1 load1G l0) pushW, .p (o1 lenLG l0) pushW, .p (o2 (binG (cmpB .gtr gtI)) l0 (ctK (.int .i64 (Int.ofNat 12)))) pushW, .g l0 false false none (o1 (faddrG 5) r1) pushW, .g l1 false false none (o1 load1G l0) pushW, .g l2 false false none (o1 lenLG l0) pushW, .g l3 false false none (o2 (binG (cmpB .gtr gtI)) l0 (ctK (.int .i64 (Int.ofNat 12)))) pushW, .p (o3 pickG l4 (ctK (.bool true)) l0) w21])
 (.cond r21
 (.seq
 (.reg [.p (o1 mvG (ctK (.int .i64 (Int.ofNat 3)))) w2])
 .ret)
 .skip))
 (.seq
 (.seq
 (.reg [.p (o1 mvG (ctK (.int .i64 (Int.ofNat 0)))) w3])
 (.block 0
 (.loop
 (.seq
 (.seq
 (.reg [.p (o1 (faddrG 4) r1) pushW, .p (o1 load1G l0) pushW, .p (o1 lenLG l0) pushW, .p (o2 (binG (cmpB .lss ltI)) r3 l0) w26])
 (.cond r26
 .skip
 (.exit 0)))
 (.seq
 (.block 1
 (.seq
 (.seq
 (.reg [.p (o1 (faddrG 4) r1) pushW, .p (o1 load1G l0) pushW, .p (o2 (iaddrG 5) l0 r3) pushW, .p (o1 (faddrG 0) l0) pushW, .p (o1 load1G l0) pushW, .p (callO 58 [l0]) pushW, .p (o1 notG l0) pushW, .g l0 false false none (o1 (faddrG 4) r1) pushW, .g l1 false false none (o1 load1G l0) pushW, .g l2 false false none (o1 mvG r3) pushW, .g l3 false false none (o2 (iaddrG 5) l1 l0) pushW, .g l4 false false none (o1 (faddrG 0) l0) pushW, .g l5 false false none (o1 load1G l0) pushW, .g l6 false false none (callO 75 [l0]) pushW, .p (o3 pickG l7 (ctK (.bool true)) l0) w45])
 (.cond r45
 (.seq
 (.reg [.p (o1 mvG (ctK (.int .i64 (Int.ofNat 15)))) w2])
 .ret)
 .skip))
 (.seq
 (.drw [.p (o2 (binG (cmpB .gtr gtI)) r3 (ctK (.int .i64 (Int.ofNat 0)))) pushW, .g l0 true false none (o1 (faddrG 4) r1) pushW, .g l1 true false none (o1 load1G l0) pushW, .g l2 true false none (o1 mvG r3) pushW, .g l3 true false none (o2 (iaddrG 5) l1 l0) pushW, .g l4 true false none (o1 (faddrG 0) l0) pushW, .g l5 true false none (o1 load1G l0) pushW, .g l6 true false none (o1 (faddrG 4) r1) pushW, .g l7 true false none (o1 load1G l0) pushW, .g l8 true false none (o1 mvG r3) pushW, .g l9 true false none (o2 (binG subB) l0 (ctK (.int .i64 (Int.ofNat 1)))) pushW, .g l10 true false none (o2 (iaddrG 5) l2 l0) pushW, .g l11 true false none (o1 (faddrG 0) l0) pushW, .g l12 true false none (o1 load1G l0) pushW, .g l13 true false none (o2 (binG (cmpB .leq leI)) l7 l0) pushW, .p (o3 pickG l14 l0 (ctK (.bool false))) w63] [])
 (.cond r63
 (.seq
 (.reg [.p (o1 mvG (ctK (.int .i64 (Int.ofNat 6)))) w2])
 .ret)
 .skip))))
 (.reg [.p (o1 mvG r3) pushW, .p (o2 (binG addB) l0 (ctK (.int .i64 (Int.ofNat 1)))) pushW, .p (o1 mvG l0) w3]))))))
 (.seq
 (.reg [.p (o1 (loadnG 6) r1) pushW, .p (buildO [(.int .i64 (Int.ofNat 0)), (.str 0 0), .snil, .snil, .snil, .snil, (.int .i64 (Int.ofNat 0))] [(0, 6, l0)]) pushW, .p (o1 boxG l0) pushW, .p (o1 mvG l0) w4])
 (.seq
 (.reg [.p (o1 mvG (ctK (.int .i64 (Int.ofNat 0)))) w5])
 (.seq
 (.seq
 (.reg [.p (o1 mvG (ctK (.int .i64 (Int.ofNat 0)))) w6])
 (.block 2
 (.loop
 (.seq
 (.seq
 (.reg [.p (o1 (faddrG 4) r1) pushW, .p (o1 load1G l0) pushW, .p (o1 lenLG l0) pushW, .p (o2 (binG (cmpB .lss ltI)) r6 l0) pushW, .g l0 true false none (o1 mvG r5) pushW, .g l1 true false none (o2 (eqG eqIV false) l0 (ctK (.int .i64 (Int.ofNat 0)))) pushW, .p (o3 pickG l2 l0 (ctK (.bool false))) w75])
 (.cond r75
 .skip
 (.exit 2)))
 (.seq
 (.block 3
 (.reg [.p (o1 (faddrG 4) r1) pushW, .p (o1 load1G l0) pushW, .p (o2 (iaddrG 5) l0 r6) pushW, .p (o1 (faddrG 1) l0) pushW, .p (o1 (loadnG 4) l0) pushW, .p (callO 76 [r4, l0, (ctK (.int .i64 (Int.ofNat 1)))]) pushW, .p (o1 mvG l0) w5]))
 (.reg [.p (o1 mvG r6) pushW, .p (o2 (binG addB) l0 (ctK (.int .i64 (Int.ofNat 1)))) pushW, .p (o1 mvG l0) w6]))))))
 (.seq
 (.seq
 (.reg [.p (o2 (eqG eqIV false) r5 (ctK (.int .i64 (Int.ofNat 0)))) w87])
 (.cond r87
 (.reg [.p (o1 (faddrG 0) r1) pushW, .p (o1 (loadnG 4) l0) pushW, .p (callO 76 [r4, l0, (ctK (.int .i64 (Int.ofNat 1)))]) pushW, .p (o1 mvG l0) w5])
 .skip))
 (.seq
 (.seq
 (.reg [.p (o2 (eqG eqIV true) r5 (ctK (.int .i64 (Int.ofNat 0)))) w93])
 (.cond r93
 (.seq
 (.reg [.p (o1 mvG r5) w2])
 .ret)
 .skip))
 (.seq
 (.seq
 (.reg [.p (o1 mvG (ctK (.int .i64 (Int.ofNat 0)))) w7])
 (.block 4
 (.loop
 (.seq
 (.seq
 (.reg [.p (o1 (faddrG 5) r1) pushW, .p (o1 load1G l0) pushW, .p (o1 lenLG l0) pushW, .p (o2 (binG (cmpB .lss ltI)) r7 l0) w99])
 (.cond r99
 .skip
 (.exit 4)))
 (.seq
 (.block 5
 (.seq
 (.reg [.p (o1 (faddrG 5) r1) pushW, .p (o1 load1G l0) pushW, .p (o2 (iaddrG 6) l0 r7) pushW, .p (o1 (loadnG 6) l0) pushW, .p (allocO [(.str 0 0), .snil, (.int .i64 (Int.ofNat 0)), (.str 0 0), .snil, .snil]) w8, .p (o2 (storeG 6) r8 l0) noW])
 (.seq
 (.seq
 (.reg [.p (o1 (faddrG 0) r8) pushW, .p (o1 load1G l0) pushW, .p (callO 58 [l0]) pushW, .p (o1 notG l0) pushW, .g l0 false false none (o1 (faddrG 0) r8) pushW, .g l1 false false none (o1 load1G l0) pushW, .g l2 false false none (callO 77 [l0]) pushW, .p (o3 pickG l3 (ctK (.bool true)) l0) w115])
 (.cond r115
 (.seq
 (.reg [.p (o1 mvG (ctK (.int .i64 (Int.ofNat 15)))) w2])
 .ret)
 .skip))
 (.seq
 (.seq
 (.drw [.p (o2 (binG (cmpB .gtr gtI)) r7 (ctK (.int .i64 (Int.ofNat 0)))) pushW, .g l0 true false none (o1 (faddrG 0) r8) pushW, .g l1 true false none (o1 load1G l0) pushW, .g l2 true false none (o1 (faddrG 5) r1) pushW, .g l3 true false none (o1 load1G l0) pushW, .g l4 true false none (o1 mvG r7) pushW, .g l5 true false none (o2 (binG subB) l0 (ctK (.int .i64 (Int.ofNat 1)))) pushW, .g l6 true false none (o2 (iaddrG 6) l2 l0) pushW, .g l7 true false none (o1 (faddrG 0) l0) pushW, .g l8 true false none (o1 load1G l0) pushW, .g l9 true false none (o2 (binG (cmpB .leq leI)) l7 l0) pushW, .p (o3 pickG l10 l0 (ctK (.bool false))) w129] [])
 (.cond r129
 (.seq
 (.reg [.p (o1 mvG (ctK (.int .i64 (Int.ofNat 6)))) w2])
 .ret)
 .skip))
 (.seq
 (.seq
 (.reg [.p (o1 (faddrG 1) r8) pushW, .p (o1 load1G l0) pushW, .p (o1 lenLG l0) pushW, .p (o2 (binG (cmpB .gtr gtI)) l0 (ctK (.int .i64 (Int.ofNat 4)))) w133])
 (.cond r133
 (.seq
 (.reg [.p (o1 mvG (ctK (.int .i64 (Int.ofNat 18)))) w2])
 .ret)
 .skip))
 (.seq
 (.seq
 (.reg [.p (o1 mvG (ctK (.int .i64 (Int.ofNat 0)))) w9])
 (.block 6
 (.loop
 (.seq
 (.seq
 (.reg [.p (o1 (faddrG 1) r8) pushW, .p (o1 load1G l0) pushW, .p (o1 lenLG l0) pushW, .p (o2 (binG (cmpB .lss ltI)) r9 l0) pushW, .g l0 true false none (o1 mvG r5) pushW, .g l1 true false none (o2 (eqG eqIV false) l0 (ctK (.int .i64 (Int.ofNat 0)))) pushW, .p (o3 pickG l2 l0 (ctK (.bool false))) w142])
 (.cond r142
 .skip
 (.exit 6)))
 (.seq
 (.block 7
 (.reg [.p (o1 (faddrG 1) r8) pushW, .p (o1 load1G l0) pushW, .p (o2 (iaddrG 4) l0 r9) pushW, .p (o1 (loadnG 4) l0) pushW, .p (callO 76 [r4, l0, (ctK (.int .i64 (Int.ofNat 1)))]) pushW, .p (o1 mvG l0) w5]))
 (.reg [.p (o1 mvG r9) pushW, .p (o2 (binG addB) l0 (ctK (.int .i64 (Int.ofNat 1)))) pushW, .p (o1 mvG l0) w9]))))))
 (.seq
 (.seq
 (.reg [.p (o2 (eqG eqIV false) r5 (ctK (.int .i64 (Int.ofNat 0)))) w153])
 (.cond r153
 (.reg [.p (o1 (faddrG 2) r8) pushW, .p (o1 (loadnG 4) l0) pushW, .p (callO 76 [r4, l0, (ctK (.int .i64 (Int.ofNat 1)))]) pushW, .p (o1 mvG l0) w5])
 .skip))
 (.seq
 (.reg [.p (o2 (eqG eqIV true) r5 (ctK (.int .i64 (Int.ofNat 0)))) w159])
 (.cond r159
 (.seq
 (.reg [.p (o1 mvG r5) w2])
 .ret)
 .skip)))))))))
 (.reg [.p (o1 mvG r7) pushW, .p (o2 (binG addB) l0 (ctK (.int .i64 (Int.ofNat 1)))) pushW, .p (o1 mvG l0) w7]))))))
 (.seq
 (.seq
 (.drw [.p (o1 (loadnG 6) r1) pushW, .m (callO 78 [l0]) pushW none, .p (o1 lenLG l0) pushW, .p (o1 (faddrG 4) r1) pushW, .p (o1 load1G l0) pushW, .p (o1 lenLG l0) pushW, .p (o2 (eqG eqIV true) l3 l0) w167] [])
 (.cond r167
 (.seq
 (.reg [.p (o1 mvG (ctK (.int .i64 (Int.ofNat 14)))) w2])
 .ret)
 .skip))
 (.seq
 (.reg [.p (o1 (loadnG 6) r1) pushW, .p (callO 79 [l0]) pushW, .p (o1 mvG l0) w10])
 (.seq
 (.seq
 (.reg [.p (o1 mvG (ctK (.int .i64 (Int.ofNat 0)))) w11])
 (.block 8
 (.loop
 (.seq
 (.seq
 (.reg [.p (o1 lenLG r10) pushW, .p (o2 (binG (cmpB .lss ltI)) r11 l0) w173])
 (.cond r173
 .skip
 (.exit 8)))
 (.seq
 (.block 9
 (.seq
 (.drw [.p (o1 (loadnG 6) r1) pushW, .p (o2 (iaddrG 4) r10 r11) pushW, .p (o1 (loadnG 4) l0) pushW, .m (callO 80 [l2, l0]) w181 (some [])] [])
 (.cond r181
 (.seq
 (.reg [.p (o1 mvG (ctK (.int .i64 (Int.ofNat 17)))) w2])
 .ret)
 .skip)))
 (.reg [.p (o1 mvG r11) pushW, .p (o2 (binG addB) l0 (ctK (.int .i64 (Int.ofNat 1)))) pushW, .p (o1 mvG l0) w11]))))))
 (.seq
 (.reg [.p (o1 mvG (ctK (.int .i64 (Int.ofNat 0)))) w2])
 .ret))))))))))))) }
theorem kf47_ok : (compFn Tryz.prog Tryz.f47 [[1], [1], [1, 3], [1, 3], [1, 3], [1, 3], [1, 4, 5], [1, 4, 5, 6], [1, 4, 6], [1, 4, 5, 6], [1, 4, 5], [1, 4, 5], [1], [1, 4, 5, 7], [1, 4, 5, 7], [1, 4, 5, 7], [1, 4, 5, 7, 8], [1, 4, 5, 7, 8], [1, 4, 5, 7, 8], [1, 4, 5, 7, 8], [1, 4, 5, 7, 8, 9], [1, 4, 7, 8, 9], [1, 4, 5, 7, 8, 9], [1, 4, 5, 7], [1], [], [1, 10, 11], [1, 10, 11], [1, 10, 11]]).bind (toKFn [12, 13, 14, 15, 16, 17, 18, 19, 20, 22, 23, 24, 25, 27, 28, 29, 30, 31, 32, 33, 34, 35, 36, 37, 38, 39, 40, 41, 42, 43, 44, 46, 47, 48, 49, 50, 51, 52, 53, 54, 55, 56, 57, 58, 59, 60, 61, 62, 64, 65, 66, 67, 68, 69, 70, 71, 72, 73, 74, 76, 77, 78, 79, 80, 81, 82, 83, 84, 85, 86, 88, 89, 90, 91, 92, 94, 95, 96, 97, 98, 100, 101, 102, 103, 104, 105, 106, 107, 108, 109, 110, 111, 112, 113, 114, 116, 117, 118, 119, 120, 121, 122, 123, 124, 125, 126, 127, 128, 130, 131, 132, 134, 135, 136, 137, 138, 139, 140, 141, 143, 144, 145, 146, 147, 148, 149, 150, 151, 152, 154, 155, 156, 157, 158, 160, 161, 162, 163, 164, 165, 166, 168, 169, 170, 171, 172, 174, 175, 176, 177, 178, 179, 180] 1) = some kf47 := by kernel_rfl
noncomputable def kf75 : KFn := { params := [w0], res := [(.s r2)], body :=
 (.seq
 (.reg [.p (o1 mvG (ctK (.bool false))) w2])
 (.seq
 (.reg [.p (o2 (eqG eqSV false) r0 (ctK (.str 4 1819242306))) pushW, .g l0 false false none (o1 mvG r0) pushW, .g l1 false false none (o2 (eqG eqSV false) l0 (ctK (.str 3 7630409))) pushW, .p (o3 pickG l2 (ctK (.bool true)) l0) pushW, .g l0 false false none (o1 mvG r0) pushW, .g l1 false false none (o2 (eqG eqSV false) l0 (ctK (.str 4 1954047316))) pushW, .p (o3 pickG l2 (ctK (.bool true)) l0) pushW, .g l0 false false none (o1 mvG r0) pushW, .g l1 false false none (o2 (eqG eqSV false) l0 (ctK (.str 4 1953720652))) pushW, .p (o3 pickG l2 (ctK (.bool true)) l0) pushW, .g l0 false false none (o1 mvG r0) pushW, .g l1 false false none (o2 (eqG eqSV false) l0 (ctK (.str 3 7364941))) pushW, .p (o3 pickG l2 (ctK (.bool true)) l0) pushW, .g l0 false false none (o1 mvG r0) pushW, .g l1 false false none (o2 (eqG eqSV false) l0 (ctK (.str 3 7630927))) pushW, .p (o3 pickG l2 (ctK (.bool true)) l0) pushW, .g l0 false false none (o1 mvG r0) pushW, .g l1 false false none (o2 (eqG eqSV false) l0 (ctK (.str 5 474315583061))) pushW, .p (o3 pickG l2 (ctK (.bool true)) l0) pushW, .p (o1 mvG l0) w2])
 .ret)) }
theorem kf75_ok : (compFn Tryz.prog Tryz.f75 []).bind (toKFn [3, 4, 5, 6, 7, 8, 9, 10, 11, 12, 13, 14, 15, 16, 17, 18, 19, 20, 21, 22, 23, 24, 25, 26, 27, 28] 1) = some kf75 := by kernel_rfl
noncomputable def kf76 : KFn := { params := [w0, w1, w2], res := [(.s r6)], body :=
 (.seq
 (.reg [.p (o1 boxG r1) w4, .p (o1 mvG (ctK (.int .i64 (Int.ofNat 0)))) w6])
 (.seq
 (.reg [.p (o1 nilckG r0) pushW, .p (o1 (faddrG 6) l0) pushW, .p (o1 load1G l0) pushW, .p (o2 (binG addB) l0 (ctK (.int .i64 (Int.ofNat 1)))) pushW, .p (o1 nilckG r0) pushW, .p (o1 (faddrG 6) l0) pushW, .p (o2 (storeG 1) l0 l2) noW])
 (.seq
 (.seq
 (.reg [.p (o1 nilckG r0) pushW, .p (o1 (faddrG 6) l0) pushW, .p (o1 load1G l0) pushW, .p (o2 (binG (cmpB .gtr gtI)) l0 (ctK (.int .i64 (Int.ofNat 400)))) w20])
 (.cond r20
 (.seq
 (.reg [.p (o1 mvG (ctK (.int .i64 (Int.ofNat 3)))) w6])
 .ret)
 .skip))
 (.seq
 (.seq
 (.reg [.p (o2 (binG (cmpB .gtr gtI)) r2 (ctK (.int .i64 (Int.ofNat 12)))) w22])
 (.cond r22
 (.seq
 (.reg [.p (o1 mvG (ctK (.int .i64 (Int.ofNat 13)))) w6])
 .ret)
 .skip))
 (.seq
 (.drw [.p (o1 nilckG r0) pushW, .p (o1 (faddrG 0) l0) pushW, .p (o1 (loadnG 6) l0) pushW, .p (o1 (loadnG 4) r4) pushW, .m (callO 109 [l1, l0]) pushW (some []), .p (o1 mvG l0) w7] [])
 (.seq
 (.seq
 (.reg [.p (o1 mvG (ctK (.int .i64 (Int.ofNat 0)))) w8])
 (.block 0
 (.loop
 (.seq
 (.seq
 (.reg [.p (o1 (faddrG 3) r4) pushW, .p (o1 load1G l0) pushW, .p (o1 lenLG l0) pushW, .p (o2 (binG (cmpB .lss ltI)) r8 l0) pushW, .g l0 true false none (o1 mvG r7) pushW, .g l1 true false none (o2 (eqG eqIV false) l0 (ctK (.int .i64 (Int.ofNat 0)))) pushW, .p (o3 pickG l2 l0 (ctK (.bool false))) w37])
 (.cond r37
 .skip
 (.exit 0)))
 (.seq
 (.block 1
 (.reg [.p (o1 (faddrG 3) r4) pushW, .p (o1 load1G l0) pushW, .p (o2 (iaddrG 4) l0 r8) pushW, .p (o1 (loadnG 4) l0) pushW, .p (o2 (binG addB) r2 (ctK (.int .i64 (Int.ofNat 1)))) pushW, .p (callO 76 [r0, l1, l0]) pushW, .p (o1 mvG l0) w7]))
 (.reg [.p (o1 mvG r8) pushW, .p (o2 (binG addB) l0 (ctK (.int .i64 (Int.ofNat 1)))) pushW, .p (o1 mvG l0) w8]))))))
 (.seq
 (.reg [.p (o1 mvG r7) w6])
 .ret))))))) }
theorem kf76_ok : (compFn Tryz.prog Tryz.f76 [[0, 2, 4], [0, 2, 4], [7], [0, 2, 4, 7, 8], [0, 2, 4, 8], [0, 2, 4, 7, 8]]).bind (toKFn [9, 10, 11, 12, 13, 14, 15, 16, 17, 18, 19, 21, 23, 24, 25, 26, 27, 28, 29, 30, 31, 32, 33, 34, 35, 36, 38, 39, 40, 41, 42, 43, 44, 45, 46, 47, 48, 49] 3) = some kf76 := by kernel_rfl
noncomputable def kf109 : KFn := { params := [w0, w1], res := [(.s r4)], body :=
 (.seq
 (.reg [.p (o1 boxG r0) w2, .p (o1 boxG r1) w3, .p (o1 mvG (ctK (.int .i64 (Int.ofNat 0)))) w4])
 (.seq
 (.seq
 (.reg [.p (o1 (faddrG 0) r3) pushW, .p (o1 load1G l0) pushW, .p (o2 (binG (cmpB .lss ltI)) l0 (ctK (.int .i64 (Int.ofNat 1)))) pushW, .g l0 false false none (o1 (faddrG 0) r3) pushW, .g l1 false false none (o1 load1G l0) pushW, .g l2 false false none (o2 (binG (cmpB .gtr gtI)) l0 (ctK (.int .i64 (Int.ofNat 9)))) pushW, .p (o3 pickG l3 (ctK (.bool true)) l0) w17])
 (.cond r17
 (.seq
 (.reg [.p (o1 mvG (ctK (.int .i64 (Int.ofNat 1)))) w4])
 .ret)
 .skip))
 (.seq
 (.reg [.p (o1 mvG (ctK (.int .i64 (Int.ofNat 0)))) w5])
 (.seq
 (.seq
 (.reg [.p (o1 (faddrG 0) r3) pushW, .p (o1 load1G l0) w19])
 (.block 0
 (.seq
 (.seq
 (.reg [.p (o2 (eqG eqIV false) r19 (ctK (.int .i64 (Int.ofNat 4)))) pushW, .p (o1 mvG l0) w20])
 (.cond r20
 .skip
 (.seq
 (.reg [.p (o2 (eqG eqIV false) r19 (ctK (.int .i64 (Int.ofNat 5)))) pushW, .p (o1 mvG l0) w20])
 (.cond r20
 .skip
 (.reg [.p (o2 (eqG eqIV false) r19 (ctK (.int .i64 (Int.ofNat 6)))) pushW, .p (o1 mvG l0) w20])))))
 (.cond r20
 (.reg [.p (o1 mvG (ctK (.int .i64 (Int.ofNat 1)))) w5])
 (.seq
 (.seq
 (.reg [.p (o2 (eqG eqIV false) r19 (ctK (.int .i64 (Int.ofNat 7)))) pushW, .p (o1 mvG l0) w24])
 (.cond r24
 .skip
 (.reg [.p (o2 (eqG eqIV false) r19 (ctK (.int .i64 (Int.ofNat 8)))) pushW, .p (o1 mvG l0) w24])))
 (.cond r24
 (.reg [.p (o1 (faddrG 2) r3) pushW, .p (o1 load1G l0) pushW, .p (o1 lenLG l0) pushW, .p (o1 mvG l0) w5])
 .skip))))))
 (.seq
 (.reg [.p (o1 (faddrG 0) r3) pushW, .p (o1 load1G l0) pushW, .p (o2 (eqG eqIV false) l0 (ctK (.int .i64 (Int.ofNat 7)))) pushW, .g l0 false false none (o1 (faddrG 0) r3) pushW, .g l1 false false none (o1 load1G l0) pushW, .g l2 false false none (o2 (eqG eqIV false) l0 (ctK (.int .i64 (Int.ofNat 8)))) pushW, .p (o3 pickG l3 (ctK (.bool true)) l0) pushW, .p (o1 mvG l0) w6])
 (.seq
 (.seq
 (.reg [.p (o1 (faddrG 3) r3) pushW, .p (o1 load1G l0) pushW, .p (o1 lenLG l0) pushW, .p (o2 (eqG eqIV true) l0 r5) pushW, .g l0 false false none (o1 (faddrG 0) r3) pushW, .g l1 false false none (o1 load1G l0) pushW, .g l2 false false none (o2 (eqG eqIV true) l0 (ctK (.int .i64 (Int.ofNat 9)))) pushW, .g l3 false false none (o1 mvG l0) pushW, .g l0 true false none (o1 (faddrG 1) r3) pushW, .g l1 true false none (o1 load1G l0) pushW, .g l2 true false none (o2 (eqG eqSV true) l0 (ctK (.str 0 0))) pushW, .g l7 false false none (o3 pickG l3 l0 (ctK (.bool false))) pushW, .p (o3 pickG l8 (ctK (.bool true)) l0) pushW, .g l0 false false none (o1 mvG r6) pushW, .g l1 false false none (o1 notG l0) pushW, .g l2 false false none (o1 mvG l0) pushW, .g l0 true false none (o1 (faddrG 2) r3) pushW, .g l1 true false none (o1 load1G l0) pushW, .g l2 true false none (o1 lenLG l0) pushW, .g l3 true false none (o2 (eqG eqIV true) l0 (ctK (.int .i64 (Int.ofNat 0)))) pushW, .g l7 false false none (o3 pickG l4 l0 (ctK (.bool false))) pushW, .p (o3 pickG l8 (ctK (.bool true)) l0) w62])
 (.cond r62
 (.seq
 (.reg [.p (o1 mvG (ctK (.int .i64 (Int.ofNat 12)))) w4])
 .ret)
 .skip))
 (.seq
 (.seq
 (.reg [.p (o1 (faddrG 0) r3) pushW, .p (o1 load1G l0) pushW, .p (o2 (eqG eqIV false) l0 (ctK (.int .i64 (Int.ofNat 9)))) w65])
 (.cond r65
 (.seq
 (.reg [.p (o1 (loadnG 6) r2) pushW, .p (o1 (faddrG 1) r3) pushW, .p (o1 load1G l0) pushW, .p (callO 143 [l2, l0]) pushW, .p (o1 (extG 0) l0) pushW, .p (o1 (extG 1) l1) pushW, .p (allocO [(.int .i64 (Int.ofNat 0)), (.str 0 0), .snil, .snil]) pushW, .p (o2 (storeG 4) l0 l2) noW, .p (o1 mvG l1) w8])
 (.seq
 (.reg [.p (o1 notG r8) w74])
 (.cond r74
 (.seq
 (.reg [.p (o1 mvG (ctK (.int .i64 (Int.ofNat 15)))) w4])
 .ret)
 .skip)))
 .skip))
 (.seq
 (.seq
 (.reg [.p (o1 (faddrG 2) r3) pushW, .p (o1 load1G l0) pushW, .p (o1 lenLG l0) pushW, .p (o2 (binG (cmpB .gtr gtI)) l0 (ctK (.int .i64 (Int.ofNat 8)))) w78])
 (.cond r78
 (.seq
 (.reg [.p (o1 mvG (ctK (.int .i64 (Int.ofNat 3)))) w4])
 .ret)
 .skip))
 (.seq
 (.seq
 (.reg [.p (o1 mvG (ctK (.int .i64 (Int.ofNat 0)))) w9])
 (.block 1
 (.loop
 (.seq
 (.seq
 (.reg [.p (o1 (faddrG 2) r3) pushW, .p (o1 load1G l0) pushW, .p (o1 lenLG l0) pushW, .p (o2 (binG (cmpB .lss ltI)) r9 l0) w83])
 (.cond r83
 .skip
 (.exit 1)))
 (.seq
 (.block 2
 (.seq
 (.seq
 (.reg [.p (o1 (faddrG 2) r3) pushW, .p (o1 load1G l0) pushW, .p (o2 (iaddrG 1) l0 r9) pushW, .p (o1 load1G l0) pushW, .p (callO 58 [l0]) pushW, .p (o1 notG l0) w92])
 (.cond r92
 (.seq
 (.reg [.p (o1 mvG (ctK (.int .i64 (Int.ofNat 15)))) w4])
 .ret)
 .skip))
 (.seq
 (.drw [.p (o2 (binG (cmpB .gtr gtI)) r9 (ctK (.int .i64 (Int.ofNat 0)))) pushW, .g l0 true false none (o1 (faddrG 2) r3) pushW, .g l1 true false none (o1 load1G l0) pushW, .g l2 true false none (o1 mvG r9) pushW, .g l3 true false none (o2 (iaddrG 1) l1 l0) pushW, .g l4 true false none (o1 load1G l0) pushW, .g l5 true false none (o1 (faddrG 2) r3) pushW, .g l6 true false none (o1 load1G l0) pushW, .g l7 true false none (o1 mvG r9) pushW, .g l8 true false none (o2 (binG subB) l0 (ctK (.int .i64 (Int.ofNat 1)))) pushW, .g l9 true false none (o2 (iaddrG 1) l2 l0) pushW, .g l10 true false none (o1 load1G l0) pushW, .g l11 true false none (o2 (binG (cmpB .leq leI)) l6 l0) pushW, .p (o3 pickG l12 l0 (ctK (.bool false))) w108] [])
 (.cond r108
 (.seq
 (.reg [.p (o1 mvG (ctK (.int .i64 (Int.ofNat 6)))) w4])
 .ret)
 .skip))))
 (.reg [.p (o1 mvG r9) pushW, .p (o2 (binG addB) l0 (ctK (.int .i64 (Int.ofNat 1)))) pushW, .p (o1 mvG l0) w9]))))))
 (.seq
 (.seq
 (.reg [.p (o1 (faddrG 0) r3) pushW, .p (o1 load1G l0) pushW, .p (o2 (eqG eqIV false) l0 (ctK (.int .i64 (Int.ofNat 8)))) pushW, .g l0 true false none (o1 (faddrG 2) r3) pushW, .g l1 true false none (o1 load1G l0) pushW, .g l2 true false none (o1 lenLG l0) pushW, .g l3 true false none (o2 (eqG eqIV false) l0 (ctK (.int .i64 (Int.ofNat 0)))) pushW, .p (o3 pickG l4 l0 (ctK (.bool false))) w117])
 (.cond r117
 (.seq
 (.reg [.p (o1 mvG (ctK (.int .i64 (Int.ofNat 12)))) w4])
 .ret)
 .skip))
 (.seq
 (.reg [.p (o1 mvG (ctK (.int .i64 (Int.ofNat 0)))) w4])
 .ret))))))))))) }
theorem kf109_ok : (compFn Tryz.prog Tryz.f109 [[2, 3], [2, 3, 5], [2, 3, 5, 19, 20], [2, 3, 5, 24], [2, 3], [3], [3], [3], [3, 9], [3, 9], [3, 9], [3, 9], []]).bind (toKFn [7, 10, 11, 12, 13, 14, 15, 16, 18, 21, 22, 23, 25, 26, 27, 28, 29, 30, 31, 32, 33, 34, 35, 36, 37, 38, 39, 40, 41, 42, 43, 44, 45, 46, 47, 48, 49, 50, 51, 52, 53, 54, 55, 56, 57, 58, 59, 60, 61, 63, 64, 66, 67, 68, 69, 70, 71, 72, 73, 75, 76, 77, 79, 80, 81, 82, 84, 85, 86, 87, 88, 89, 90, 91, 93, 94, 95, 96, 97, 98, 99, 100, 101, 102, 103, 104, 105, 106, 107, 109, 110, 111, 112, 113, 114, 115, 116] 2) = some kf109 := by kernel_rfl
noncomputable def kf143 : KFn := { params := [w0, w1], res := [(.cn r4 4), (.s r5)], body :=
 (.seq
 (.reg [.p (o1 boxG r0) w2, .p (allocO [(.int .i64 (Int.ofNat 0)), (.str 0 0), .snil, .snil]) w4, .p (o1 mvG (ctK (.bool false))) w5])
 (.seq
 (.seq
 (.reg [.p (o1 mvG (ctK (.int .i64 (Int.ofNat 0)))) w6])
 (.block 0
 (.loop
 (.seq
 (.seq
 (.reg [.p (o1 (faddrG 4) r2) pushW, .p (o1 load1G l0) pushW, .p (o1 lenLG l0) pushW, .p (o2 (binG (cmpB .lss ltI)) r6 l0) w11])
 (.cond r11
 .skip
 (.exit 0)))
 (.seq
 (.block 1
 (.seq
 (.reg [.p (o1 (faddrG 4) r2) pushW, .p (o1 load1G l0) pushW, .p (o2 (iaddrG 5) l0 r6) pushW, .p (o1 (faddrG 0) l0) pushW, .p (o1 load1G l0) pushW, .p (o2 (eqG eqSV false) l0 r1) w21])
 (.cond r21
 (.seq
 (.reg [.p (o1 (faddrG 4) r2) pushW, .p (o1 load1G l0) pushW, .p (o2 (iaddrG 5) l0 r6) pushW, .p (o1 (faddrG 1) l0) pushW, .p (o1 (loadnG 4) l0) pushW, .p (o2 (storeG 4) r4 l0) noW, .p (o1 mvG (ctK (.bool true))) w5])
 .ret)
 .skip)))
 (.reg [.p (o1 mvG r6) pushW, .p (o2 (binG addB) l0 (ctK (.int .i64 (Int.ofNat 1)))) pushW, .p (o1 mvG l0) w6]))))))
 (.seq
 (.reg [.p (buildO [(.int .i64 (Int.ofNat 0)), (.str 0 0), .snil, .snil] []) pushW, .p (o2 (storeG 4) r4 l0) noW, .p (o1 mvG (ctK (.bool false))) w5])
 .ret))) }
theorem kf143_ok : (compFn Tryz.prog Tryz.f143 [[4], [1, 2, 4, 6], [1, 2, 4, 6], [1, 2, 4, 6]]).bind (toKFn [7, 8, 9, 10, 12, 13, 14, 15, 16, 17, 18, 19, 20, 22, 23, 24, 25, 26, 27, 28] 2) = some kf143 := by kernel_rfl
noncomputable def kf77 : KFn := { params := [w0], res := [(.s r2)], body :=
 (.seq
 (.reg [.p (o1 mvG (ctK (.bool false))) w2])
 (.seq
 (.seq
 (.reg [.p (o1 mvG r0) w3])
 (.block 0
 (.seq
 (.seq
 (.reg [.p (o2 (eqG eqSV false) r3 (ctK (.str 3 7234924))) pushW, .p (o1 mvG l0) w4])
 (.cond r4
 .skip
 (.seq
 (.reg [.p (o2 (eqG eqSV false) r3 (ctK (.str 3 7630702))) pushW, .p (o1 mvG l0) w4])
 (.cond r4
 .skip
 (.seq
 (.reg [.p (o2 (eqG eqSV false) r3 (ctK (.str 3 6581857))) pushW, .p (o1 mvG l0) w4])
 (.cond r4
 .skip
 (.seq
 (.reg [.p (o2 (eqG eqSV false) r3 (ctK (.str 2 29295))) pushW, .p (o1 mvG l0) w4])
 (.cond r4
 .skip
 (.seq
 (.reg [.p (o2 (eqG eqSV false) r3 (ctK (.str 2 29029))) pushW, .p (o1 mvG l0) w4])
 (.cond r4
 .skip
 (.seq
 (.reg [.p (o2 (eqG eqSV false) r3 (ctK (.str 2 29804))) pushW, .p (o1 mvG l0) w4])
 (.cond r4
 .skip
 (.seq
 (.reg [.p (o2 (eqG eqSV false) r3 (ctK (.str 3 6579297))) pushW, .p (o1 mvG l0) w4])
 (.cond r4
 .skip
 (.seq
 (.reg [.p (o2 (eqG eqSV false) r3 (ctK (.str 3 6452595))) pushW, .p (o1 mvG l0) w4])
 (.cond r4
 .skip
 (.seq
 (.reg [.p (o2 (eqG eqSV false) r3 (ctK (.str 3 7107949))) pushW, .p (o1 mvG l0) w4])
 (.cond r4
 .skip
 (.seq
 (.reg [.p (o2 (eqG eqSV false) r3 (ctK (.str 3 7104627))) pushW, .p (o1 mvG l0) w4])
 (.cond r4
 .skip
 (.seq
 (.reg [.p (o2 (eqG eqSV false) r3 (ctK (.str 3 7497843))) pushW, .p (o1 mvG l0) w4])
 (.cond r4
 .skip
 (.seq
 (.reg [.p (o2 (eqG eqSV false) r3 (ctK (.str 2 14441))) pushW, .p (o1 mvG l0) w4])
 (.cond r4
 .skip
 (.seq
 (.reg [.p (o2 (eqG eqSV false) r3 (ctK (.str 3 3551593))) pushW, .p (o1 mvG l0) w4])
 (.cond r4
 .skip
 (.seq
 (.reg [.p (o2 (eqG eqSV false) r3 (ctK (.str 3 3289961))) pushW, .p (o1 mvG l0) w4])
 (.cond r4
 .skip
 (.seq
 (.reg [.p (o2 (eqG eqSV false) r3 (ctK (.str 2 14453))) pushW, .p (o1 mvG l0) w4])
 (.cond r4
 .skip
 (.seq
 (.reg [.p (o2 (eqG eqSV false) r3 (ctK (.str 3 3551605))) pushW, .p (o1 mvG l0) w4])
 (.cond r4
 .skip
 (.seq
 (.reg [.p (o2 (eqG eqSV false) r3 (ctK (.str 3 3289973))) pushW, .p (o1 mvG l0) w4])
 (.cond r4
 .skip
 (.seq
 (.reg [.p (o2 (eqG eqSV false) r3 (ctK (.str 3 7627107))) pushW, .p (o1 mvG l0) w4])
 (.cond r4
 .skip
 (.seq
 (.reg [.p (o2 (eqG eqSV false) r3 (ctK (.str 4 1954047348))) pushW, .p (o1 mvG l0) w4])
 (.cond r4
 .skip
 (.seq
 (.reg [.p (o2 (eqG eqSV false) r3 (ctK (.str 2 29793))) pushW, .p (o1 mvG l0) w4])
 (.cond r4
 .skip
 (.seq
 (.reg [.p (o2 (eqG eqSV false) r3 (ctK (.str 3 7628135))) pushW, .p (o1 mvG l0) w4])
 (.cond r4
 .skip
 (.seq
 (.reg [.p (o2 (eqG eqSV false) r3 (ctK (.str 3 7561576))) pushW, .p (o1 mvG l0) w4])
 (.cond r4
 .skip
 (.reg [.p (o2 (eqG eqSV false) r3 (ctK (.str 6 111546414232175))) pushW, .p (o1 mvG l0) w4])))))))))))))))))))))))))))))))))))))))))))))
 (.cond r4
 (.seq
 (.reg [.p (o1 mvG (ctK (.bool true))) w2])
 .ret)
 .skip))))
 (.seq
 (.reg [.p (o1 mvG (ctK (.bool false))) w2])
 .ret))) }
theorem kf77_ok : (compFn Tryz.prog Tryz.f77 [[], [4]]).bind (toKFn [5, 6, 7, 8, 9, 10, 11, 12, 13, 14, 15, 16, 17, 18, 19, 20, 21, 22, 23, 24, 25, 26, 27] 1) = some kf77 := by kernel_rfl
noncomputable def kf78 : KFn := { params := [w0], res := [(.s r2)], body :=
 (.seq
 (.reg [.p (o1 boxG r0) w1, .p (o1 mvG (ctK .snil)) w2])
 (.seq
 (.reg [.p (o1 mvG (ctK .snil)) w3])
 (.seq
 (.seq
 (.reg [.p (o1 mvG (ctK (.int .i64 (Int.ofNat 0)))) w4])
 (.block 0
 (.loop
 (.seq
 (.seq
 (.reg [.p (o1 (faddrG 4) r1) pushW, .p (o1 load1G l0) pushW, .p (o1 lenLG l0) pushW, .p (o2 (binG (cmpB .leq leI)) r4 l0) w11])
 (.cond r11
 .skip
 (.exit 0)))
 (.seq
 (.block 1
 (.seq
 (.reg [.p (o1 mvG (ctK .snil)) w5])
 (.seq
 (.seq
 (.reg [.p (o1 mvG (ctK (.int .i64 (Int.ofNat 0)))) w6])
 (.block 2
 (.loop
 (.seq
 (.seq
 (.reg [.p (o1 (faddrG 4) r1) pushW, .p (o1 load1G l0) pushW, .p (o1 lenLG l0) pushW, .p (o2 (binG (cmpB .lss ltI)) r6 l0) w18])
 (.cond r18
 .skip
 (.exit 2)))
 (.seq
 (.block 3
 (.seq
 (.reg [.p (o1 (faddrG 4) r1) pushW, .p (o1 load1G l0) pushW, .p (o2 (iaddrG 5) l0 r6) pushW, .p (o1 (faddrG 1) l0) pushW, .p (o1 (loadnG 4) l0) pushW, .p (callO 110 [r3, l0]) w28])
 (.cond r28
 (.reg [.p (o1 mvG r5) pushW, .p (o1 (faddrG 4) r1) pushW, .p (o1 load1G l0) pushW, .p (o2 (iaddrG 5) l0 r6) pushW, .p (o1 (faddrG 0) l0) pushW, .p (o1 load1G l0) pushW, .p (bslO 1 1 [(.str 0 0)] [(0, 1, l0)]) pushW, .p (o2 (appG 1) l6 l0) pushW, .p (o1 mvG l0) w5])
 .skip)))
 (.reg [.p (o1 mvG r6) pushW, .p (o2 (binG addB) l0 (ctK (.int .i64 (Int.ofNat 1)))) pushW, .p (o1 mvG l0) w6]))))))
 (.reg [.p (o1 mvG r5) w3]))))
 (.reg [.p (o1 mvG r4) pushW, .p (o2 (binG addB) l0 (ctK (.int .i64 (Int.ofNat 1)))) pushW, .p (o1 mvG l0) w4]))))))
 (.seq
 (.reg [.p (o1 mvG r3) w2])
 .ret)))) }
theorem kf78_ok : (compFn Tryz.prog Tryz.f78 [[3], [1, 3, 4], [1, 3, 4], [1, 3, 4], [1, 4, 5], [1, 3, 4, 5, 6], [1, 3, 4, 5, 6], [1, 3, 4, 5, 6]]).bind (toKFn [7, 8, 9, 10, 12, 13, 14, 15, 16, 17, 19, 20, 21, 22, 23, 24, 25, 26, 27, 29, 30, 31, 32, 33, 34, 35, 36, 37, 38, 39] 1) = some kf78 := by kernel_rfl
noncomputable def kf110 : KFn := { params := [w0, w1], res := [(.s r4)], body :=
 (.seq
 (.reg [.p (o1 boxG r1) w3, .p (o1 mvG (ctK (.bool false))) w4])
 (.seq
 (.seq
 (.reg [.p (o1 (faddrG 0) r3) pushW, .p (o1 load1G l0) w8])
 (.block 0
 (.seq
 (.reg [.p (o2 (eqG eqIV false) r8 (ctK (.int .i64 (Int.ofNat 7)))) pushW, .p (o1 mvG l0) w9])
 (.cond r9
 (.seq
 (.seq
 (.reg [.p (o1 mvG (ctK (.int .i64 (Int.ofNat 0)))) w5])
 (.block 1
 (.loop
 (.seq
 (.seq
 (.reg [.p (o1 (faddrG 3) r3) pushW, .p (o1 load1G l0) pushW, .p (o1 lenLG l0) pushW, .p (o2 (binG (cmpB .lss ltI)) r5 l0) w15])
 (.cond r15
 .skip
 (.exit 1)))
 (.seq
 (.block 2
 (.seq
 (.reg [.p (o1 (faddrG 3) r3) pushW, .p (o1 load1G l0) pushW, .p (o2 (iaddrG 4) l0 r5) pushW, .p (o1 (loadnG 4) l0) pushW, .p (callO 110 [r0, l0]) pushW, .p (o1 notG l0) w25])
 (.cond r25
 (.seq
 (.reg [.p (o1 mvG (ctK (.bool false))) w4])
 .ret)
 .skip)))
 (.reg [.p (o1 mvG r5) pushW, .p (o2 (binG addB) l0 (ctK (.int .i64 (Int.ofNat 1)))) pushW, .p (o1 mvG l0) w5]))))))
 (.seq
 (.reg [.p (o1 mvG (ctK (.bool true))) w4])
 .ret))
 (.seq
 (.reg [.p (o2 (eqG eqIV false) r8 (ctK (.int .i64 (Int.ofNat 8)))) pushW, .p (o1 mvG l0) w26])
 (.cond r26
 (.seq
 (.seq
 (.reg [.p (o1 mvG (ctK (.int .i64 (Int.ofNat 0)))) w6])
 (.block 3
 (.loop
 (.seq
 (.seq
 (.reg [.p (o1 (faddrG 3) r3) pushW, .p (o1 load1G l0) pushW, .p (o1 lenLG l0) pushW, .p (o2 (binG (cmpB .lss ltI)) r6 l0) w32])
 (.cond r32
 .skip
 (.exit 3)))
 (.seq
 (.block 4
 (.seq
 (.reg [.p (o1 (faddrG 3) r3) pushW, .p (o1 load1G l0) pushW, .p (o2 (iaddrG 4) l0 r6) pushW, .p (o1 (loadnG 4) l0) pushW, .p (callO 110 [r0, l0]) w41])
 (.cond r41
 (.seq
 (.reg [.p (o1 mvG (ctK (.bool true))) w4])
 .ret)
 .skip)))
 (.reg [.p (o1 mvG r6) pushW, .p (o2 (binG addB) l0 (ctK (.int .i64 (Int.ofNat 1)))) pushW, .p (o1 mvG l0) w6]))))))
 (.seq
 (.reg [.p (o1 mvG (ctK (.bool false))) w4])
 .ret))
 (.seq
 (.reg [.p (o2 (eqG eqIV false) r8 (ctK (.int .i64 (Int.ofNat 9)))) pushW, .p (o1 mvG l0) w42])
 (.cond r42
 (.seq
 (.reg [.p (o1 (faddrG 1) r3) pushW, .p (o1 load1G l0) pushW, .p (callO 144 [r0, l0]) pushW, .p (o1 mvG l0) w4])
 .ret)
 .skip))))))))
 (.seq
 (.reg [.p (o1 mvG (ctK (.bool true))) w4])
 .ret))) }
theorem kf110_ok : (compFn Tryz.prog Tryz.f110 [[], [], [0, 3, 5], [0, 3, 5], [0, 3, 5], [], [0, 3, 6], [0, 3, 6], [0, 3, 6]]).bind (toKFn [7, 10, 11, 12, 13, 14, 16, 17, 18, 19, 20, 21, 22, 23, 24, 27, 28, 29, 30, 31, 33, 34, 35, 36, 37, 38, 39, 40, 43, 44, 45, 46, 47] 2) = some kf110 := by kernel_rfl
noncomputable def kf144 : KFn := { params := [w0, w1], res := [(.s r4)], body :=
 (.seq
 (.reg [.p (o1 mvG (ctK (.bool false))) w4])
 (.seq
 (.seq
 (.reg [.p (o1 mvG (ctK (.int .i64 (Int.ofNat 0)))) w5])
 (.block 0
 (.loop
 (.seq
 (.seq
 (.reg [.p (o1 lenLG r0) pushW, .p (o2 (binG (cmpB .lss ltI)) r5 l0) w9])
 (.cond r9
 .skip
 (.exit 0)))
 (.seq
 (.block 1
 (.seq
 (.reg [.p (o2 (iaddrG 1) r0 r5) pushW, .p (o1 load1G l0) pushW, .p (o2 (eqG eqSV false) l0 r1) w17])
 (.cond r17
 (.seq
 (.reg [.p (o1 mvG (ctK (.bool true))) w4])
 .ret)
 .skip)))
 (.reg [.p (o1 mvG r5) pushW, .p (o2 (binG addB) l0 (ctK (.int .i64 (Int.ofNat 1)))) pushW, .p (o1 mvG l0) w5]))))))
 (.seq
 (.reg [.p (o1 mvG (ctK (.bool false))) w4])
 .ret))) }
theorem kf144_ok : (compFn Tryz.prog Tryz.f144 [[], [0, 1, 5], [0, 1, 5], [0, 1, 5]]).bind (toKFn [6, 7, 8, 10, 11, 12, 13, 14, 15, 16] 2) = some kf144 := by kernel_rfl
noncomputable def kf79 : KFn := { params := [w0], res := [(.s r2)], body :=
 (.seq
 (.reg [.p (o1 boxG r0) w1, .p (o1 mvG (ctK .snil)) w2])
 (.seq
 (.reg [.p (o1 mvG (ctK .snil)) w3])
 (.seq
 (.seq
 (.reg [.p (o1 mvG (ctK (.int .i64 (Int.ofNat 0)))) w4])
 (.block 0
 (.loop
 (.seq
 (.seq
 (.reg [.p (o1 (faddrG 4) r1) pushW, .p (o1 load1G l0) pushW, .p (o1 lenLG l0) pushW, .p (o2 (binG (cmpB .lss ltI)) r4 l0) w10])
 (.cond r10
 .skip
 (.exit 0)))
 (.seq
 (.block 1
 (.reg [.p (o1 mvG r3) pushW, .p (o1 (faddrG 4) r1) pushW, .p (o1 load1G l0) pushW, .p (o2 (iaddrG 5) l0 r4) pushW, .p (o1 (faddrG 1) l0) pushW, .p (o1 (loadnG 4) l0) pushW, .p (bslO 4 1 [(.int .i64 (Int.ofNat 0)), (.str 0 0), .snil, .snil] [(0, 4, l0)]) pushW, .p (o2 (appG 4) l6 l0) pushW, .p (o1 mvG l0) w3]))
 (.reg [.p (o1 mvG r4) pushW, .p (o2 (binG addB) l0 (ctK (.int .i64 (Int.ofNat 1)))) pushW, .p (o1 mvG l0) w4]))))))
 (.seq
 (.reg [.p (o1 mvG r3) pushW, .p (o1 (faddrG 0) r1) pushW, .p (o1 (loadnG 4) l0) pushW, .p (bslO 4 1 [(.int .i64 (Int.ofNat 0)), (.str 0 0), .snil, .snil] [(0, 4, l0)]) pushW, .p (o2 (appG 4) l3 l0) pushW, .p (o1 mvG l0) w3])
 (.seq
 (.seq
 (.reg [.p (o1 mvG (ctK (.int .i64 (Int.ofNat 0)))) w5])
 (.block 2
 (.loop
 (.seq
 (.seq
 (.reg [.p (o1 (faddrG 5) r1) pushW, .p (o1 load1G l0) pushW, .p (o1 lenLG l0) pushW, .p (o2 (binG (cmpB .lss ltI)) r5 l0) w31])
 (.cond r31
 .skip
 (.exit 2)))
 (.seq
 (.block 3
 (.seq
 (.reg [.p (o1 mvG r3) pushW, .p (o1 (faddrG 5) r1) pushW, .p (o1 load1G l0) pushW, .p (o2 (iaddrG 6) l0 r5) pushW, .p (o1 (faddrG 1) l0) pushW, .p (o1 load1G l0) pushW, .p (o2 (appG 4) l5 l0) pushW, .p (o1 mvG l0) w3])
 (.reg [.p (o1 mvG r3) pushW, .p (o1 (faddrG 5) r1) pushW, .p (o1 load1G l0) pushW, .p (o2 (iaddrG 6) l0 r5) pushW, .p (o1 (faddrG 2) l0) pushW, .p (o1 (loadnG 4) l0) pushW, .p (bslO 4 1 [(.int .i64 (Int.ofNat 0)), (.str 0 0), .snil, .snil] [(0, 4, l0)]) pushW, .p (o2 (appG 4) l6 l0) pushW, .p (o1 mvG l0) w3])))
 (.reg [.p (o1 mvG r5) pushW, .p (o2 (binG addB) l0 (ctK (.int .i64 (Int.ofNat 1)))) pushW, .p (o1 mvG l0) w5]))))))
 (.seq
 (.reg [.p (o1 mvG r3) w2])
 .ret)))))) }
theorem kf79_ok : (compFn Tryz.prog Tryz.f79 [[1, 3], [1, 3, 4], [1, 3, 4], [1, 3, 4], [3], [1, 3, 5], [1, 3, 5], [1, 3, 5]]).bind (toKFn [6, 7, 8, 9, 11, 12, 13, 14, 15, 16, 17, 18, 19, 20, 21, 22, 23, 24, 25, 26, 27, 28, 29, 30, 32, 33, 34, 35, 36, 37, 38, 39, 40, 41, 42, 43, 44, 45, 46, 47, 48, 49, 50, 51] 1) = some kf79 := by kernel_rfl
noncomputable def kf80 : KFn := { params := [w0, w1], res := [(.s r4)], body :=
 (.seq
 (.reg [.p (o1 boxG r0) w2, .p (o1 boxG r1) w3, .p (o1 mvG (ctK (.bool false))) w4])
 (.seq
 (.seq
 (.drw [.p (o1 (faddrG 0) r3) pushW, .p (o1 load1G l0) pushW, .p (o2 (eqG eqIV false) l0 (ctK (.int .i64 (Int.ofNat 6)))) pushW, .g l0 true false none (o1 (loadnG 6) r2) pushW, .g l1 true false none (o1 (faddrG 3) r3) pushW, .g l2 true false none (o1 load1G l0) pushW, .g l3 true false none (o2 (iaddrG 4) l0 (ctK (.int .i64 (Int.ofNat 0)))) pushW, .g l4 true false none (o1 (loadnG 4) l0) pushW, .g l5 true true (some []) (callO 111 [l4, l0]) pushW, .g l6 true false none (o1 (fld1G 0) l0) pushW, .g l7 true false none (o2 (eqG eqIV false) l0 (ctK (.int .i64 (Int.ofNat 6)))) pushW, .p (o3 pickG l8 l0 (ctK (.bool false))) w18] [])
 (.cond r18
 (.seq
 (.reg [.p (o1 mvG (ctK (.bool true))) w4])
 .ret)
 .skip))
 (.seq
 (.seq
 (.reg [.p (o1 mvG (ctK (.int .i64 (Int.ofNat 0)))) w5])
 (.block 0
 (.loop
 (.seq
 (.seq
 (.reg [.p (o1 (faddrG 3) r3) pushW, .p (o1 load1G l0) pushW, .p (o1 lenLG l0) pushW, .p (o2 (binG (cmpB .lss ltI)) r5 l0) w23])
 (.cond r23
 .skip
 (.exit 0)))
 (.seq
 (.block 1
 (.seq
 (.drw [.p (o1 (loadnG 6) r2) pushW, .p (o1 (faddrG 3) r3) pushW, .p (o1 load1G l0) pushW, .p (o2 (iaddrG 4) l0 r5) pushW, .p (o1 (loadnG 4) l0) pushW, .m (callO 80 [l4, l0]) w32 (some [])] [])
 (.cond r32
 (.seq
 (.reg [.p (o1 mvG (ctK (.bool true))) w4])
 .ret)
 .skip)))
 (.reg [.p (o1 mvG r5) pushW, .p (o2 (binG addB) l0 (ctK (.int .i64 (Int.ofNat 1)))) pushW, .p (o1 mvG l0) w5]))))))
 (.seq
 (.reg [.p (o1 mvG (ctK (.bool false))) w4])
 .ret)))) }
theorem kf80_ok : (compFn Tryz.prog Tryz.f80 [[2, 3], [], [2, 3, 5], [2, 3, 5], [2, 3, 5]]).bind (toKFn [6, 7, 8, 9, 10, 11, 12, 13, 14, 15, 16, 17, 19, 20, 21, 22, 24, 25, 26, 27, 28, 29, 30, 31] 2) = some kf80 := by kernel_rfl
noncomputable def kf111 : KFn := { params := [w0, w1], res := [(.cn r4 4)], body :=
 (.seq
 (.reg [.p (o1 boxG r0) w2, .p (o1 boxG r1) w3, .p (allocO [(.int .i64 (Int.ofNat 0)), (.str 0 0), .snil, .snil]) w4])
 (.seq
 (.seq
 (.reg [.p (o1 mvG (ctK (.int .i64 (Int.ofNat 0)))) w5])
 (.block 0
 (.loop
 (.seq
 (.seq
 (.reg [.p (o1 (faddrG 4) r2) pushW, .p (o1 load1G l0) pushW, .p (o1 lenLG l0) pushW, .p (o2 (binG (cmpB .leq leI)) r5 l0) pushW, .g l0 true false none (o1 (faddrG 0) r3) pushW, .g l1 true false none (o1 load1G l0) pushW, .g l2 true false none (o2 (eqG eqIV false) l0 (ctK (.int .i64 (Int.ofNat 9)))) pushW, .p (o3 pickG l3 l0 (ctK (.bool false))) w15])
 (.cond r15
 .skip
 (.exit 0)))
 (.seq
 (.block 1
 (.reg [.p (o1 (loadnG 6) r2) pushW, .p (o1 (faddrG 1) r3) pushW, .p (o1 load1G l0) pushW, .p (callO 143 [l2, l0]) pushW, .p (o1 (extG 0) l0) pushW, .p (o1 (extG 1) l1) pushW, .p (o2 (storeG 4) r3 l1) noW]))
 (.reg [.p (o1 mvG r5) pushW, .p (o2 (binG addB) l0 (ctK (.int .i64 (Int.ofNat 1)))) pushW, .p (o1 mvG l0) w5]))))))
 (.seq
 (.reg [.p (o1 (loadnG 4) r3) pushW, .p (o2 (storeG 4) r4 l0) noW])
 .ret))) }
theorem kf111_ok : (compFn Tryz.prog Tryz.f111 [[3, 4], [2, 3, 4, 5], [2, 3, 4, 5], [2, 3, 4, 5]]).bind (toKFn [6, 7, 8, 9, 10, 11, 12, 13, 14, 16, 17, 18, 19, 20, 21, 22, 23, 24, 25] 2) = some kf111 := by kernel_rfl
noncomputable def kf48 : KFn := { params := [w0, w1], res := [(.s r4), (.s r5)], body :=
 (.seq
 (.reg [.p (o1 boxG r1) w3, .p (o1 mvG (ctK (.int .i64 (Int.ofNat 0)))) w4, .p (o1 mvG (ctK (.int .i64 (Int.ofNat 0)))) w5])
 (.seq
 (.drw [.p (o1 (faddrG 0) r3) w11, .p (o1 load1G r11) pushW, .p (o1 (faddrG 1) r3) w13, .p (o1 load1G r13) pushW, .p (bslO 1 0 [] []) w15, .p (o1 (faddrG 2) r3) pushW, .p (o1 load1G l0) pushW, .p (o2 (appG 1) r15 l0) pushW, .p (buildO [(.int .i64 (Int.ofNat 0)), (.str 0 0), .snil, .snil] [(0, 1, l4), (1, 1, l3), (2, 1, l0)]) pushW, .p (allocO [(.int .i64 (Int.ofNat 0)), (.str 0 0), .snil, .snil]) w6, .p (o2 (storeG 4) r6 l0) noW] [([r15], [r11]), ([r15], [r13])])
 (.seq
 (.seq
 (.reg [.p (o1 mvG (ctK (.int .i64 (Int.ofNat 0)))) w7])
 (.block 0
 (.loop
 (.seq
 (.seq
 (.reg [.p (o1 (faddrG 3) r3) pushW, .p (o1 load1G l0) pushW, .p (o1 lenLG l0) pushW, .p (o2 (binG (cmpB .lss ltI)) r7 l0) w24])
 (.cond r24
 .skip
 (.exit 0)))
 (.seq
 (.block 1
 (.seq
 (.reg [.p (o1 (faddrG 3) r3) pushW, .p (o1 load1G l0) pushW, .p (o2 (iaddrG 4) l0 r7) pushW, .p (o1 (loadnG 4) l0) pushW, .p (callO 48 [r0, l0]) pushW, .p (o1 (extG 0) l0) pushW, .p (o1 (extG 1) l1) pushW, .p (o1 mvG l1) w8, .p (o1 mvG l0) w9])
 (.seq
 (.seq
 (.reg [.p (o2 (eqG eqIV true) r9 (ctK (.int .i64 (Int.ofNat 0)))) w38])
 (.cond r38
 (.seq
 (.reg [.p (o1 mvG (ctK (.int .i64 (Int.ofNat 0)))) w4, .p (o1 mvG r9) w5])
 .ret)
 .skip))
 (.reg [.p (o1 (faddrG 3) r6) pushW, .p (o1 load1G l0) pushW, .p (bslO 1 1 [(.int .i64 (Int.ofNat 0))] [(0, 1, r8)]) pushW, .p (o2 (appG 1) l1 l0) pushW, .p (o1 (faddrG 3) r6) pushW, .p (o2 (storeG 1) l0 l1) noW]))))
 (.reg [.p (o1 mvG r7) pushW, .p (o2 (binG addB) l0 (ctK (.int .i64 (Int.ofNat 1)))) pushW, .p (o1 mvG l0) w7]))))))
 (.seq
 (.seq
 (.reg [.p (o1 mvG (ctK (.int .i64 (Int.ofNat 0)))) w10])
 (.block 2
 (.loop
 (.seq
 (.seq
 (.reg [.p (o1 nilckG r0) pushW, .p (o1 (faddrG 1) l0) pushW, .p (o1 load1G l0) pushW, .p (o1 lenLG l0) pushW, .p (o2 (binG (cmpB .lss ltI)) r10 l0) w52])
 (.cond r52
 .skip
 (.exit 2)))
 (.seq
 (.block 3
 (.seq
 (.drw [.p (o1 nilckG r0) pushW, .p (o1 (faddrG 1) l0) pushW, .p (o1 load1G l0) pushW, .p (o2 (iaddrG 4) l0 r10) pushW, .p (o1 (loadnG 4) l0) pushW, .p (o1 (loadnG 4) r3) pushW, .m (callO 81 [l1, l0]) w63 (some [])] [])
 (.cond r63
 (.seq
 (.reg [.p (o1 mvG r10) w4, .p (o1 mvG (ctK (.int .i64 (Int.ofNat 0)))) w5])
 .ret)
 .skip)))
 (.reg [.p (o1 mvG r10) pushW, .p (o2 (binG addB) l0 (ctK (.int .i64 (Int.ofNat 1)))) pushW, .p (o1 mvG l0) w10]))))))
 (.seq
 (.seq
 (.reg [.p (o1 nilckG r0) pushW, .p (o1 (faddrG 0) l0) pushW, .p (o1 load1G l0) pushW, .p (o1 lenLG l0) pushW, .p (o2 (binG (cmpB .geq geI)) l0 (ctK (.int .i64 (Int.ofNat 120)))) w70])
 (.cond r70
 (.seq
 (.reg [.p (o1 mvG (ctK (.int .i64 (Int.ofNat 0)))) w4, .p (o1 mvG (ctK (.int .i64 (Int.ofNat 20)))) w5])
 .ret)
 .skip))
 (.seq
 (.drw [.p (o1 nilckG r0) pushW, .p (o1 (faddrG 0) l0) pushW, .p (o1 load1G l0) pushW, .p (o1 (loadnG 4) r6) pushW, .p (bslO 4 1 [(.int .i64 (Int.ofNat 0)), (.str 0 0), .snil, .snil] [(0, 4, l0)]) pushW, .p (o2 (appG 4) l2 l0) pushW, .p (o1 nilckG r0) pushW, .p (o1 (faddrG 0) l0) pushW, .p (o2 (storeG 1) l0 l2) noW] [])
 (.seq
 (.drw [.p (o1 nilckG r0) pushW, .p (o1 (faddrG 1) l0) pushW, .p (o1 load1G l0) pushW, .p (o1 (loadnG 4) r3) pushW, .p (o1 lenLG l1) pushW, .p (bslO 4 1 [(.int .i64 (Int.ofNat 0)), (.str 0 0), .snil, .snil] [(0, 4, (ctK (.agg [(.int .i64 (Int.ofNat 0)), (.str 0 0), .snil, .snil])))]) pushW, .p (o2 (appG 4) l3 l0) pushW, .p (o2 (iaddrG 4) l0 l2) w89, .p (o2 (storeG 4) r89 l3) noW, .p (o1 nilckG r0) pushW, .p (o1 (faddrG 1) l0) w91, .p (o2 (storeG 1) r91 l1) noW] [([r89], [r91]), ([r91], [r89])])
 (.seq
 (.reg [.p (o1 nilckG r0) pushW, .p (o1 (faddrG 0) l0) pushW, .p (o1 load1G l0) pushW, .p (o1 lenLG l0) pushW, .p (o2 (binG subB) l0 (ctK (.int .i64 (Int.ofNat 1)))) pushW, .p (o1 mvG l0) w4, .p (o1 mvG (ctK (.int .i64 (Int.ofNat 0)))) w5])
 .ret)))))))) }
theorem kf48_ok : (compFn Tryz.prog Tryz.f48 [[0, 3, 6], [0, 3, 6, 7], [0, 3, 6, 7], [0, 3, 6, 7], [0, 3, 6, 7, 8], [0, 3, 6], [0, 3, 6, 10], [0, 3, 6, 10], [0, 3, 6, 10], [0, 3, 6]]).bind (toKFn [12, 14, 16, 17, 18, 19, 20, 21, 22, 23, 25, 26, 27, 28, 29, 30, 31, 32, 33, 34, 35, 36, 37, 39, 40, 41, 42, 43, 44, 45, 46, 47, 48, 49, 50, 51, 53, 54, 55, 56, 57, 58, 59, 60, 61, 62, 64, 65, 66, 67, 68, 69, 71, 72, 73, 74, 75, 76, 77, 78, 79, 80, 81, 82, 83, 84, 85, 86, 87, 88, 90, 92, 93, 94, 95, 96, 97] 2) = some kf48 := by kernel_rfl
noncomputable def kf81 : KFn := { params := [w0, w1], res := [(.s r4)], body :=
 (.seq
 (.reg [.p (o1 boxG r0) w2, .p (o1 boxG r1) w3, .p (o1 mvG (ctK (.bool false))) w4])
 (.seq
 (.seq
 (.reg [.p (o1 (faddrG 0) r2) pushW, .p (o1 load1G l0) pushW, .p (o1 (faddrG 0) r3) pushW, .p (o1 load1G l0) pushW, .p (o2 (eqG eqIV true) l2 l0) pushW, .g l0 false false none (o1 (faddrG 1) r2) pushW, .g l1 false false none (o1 load1G l0) pushW, .g l2 false false none (o1 (faddrG 1) r3) pushW, .g l3 false false none (o1 load1G l0) pushW, .g l4 false false none (o2 (eqG eqSV true) l2 l0) pushW, .p (o3 pickG l5 (ctK (.bool true)) l0) pushW, .g l0 false false none (o1 (faddrG 2) r2) pushW, .g l1 false false none (o1 load1G l0) pushW, .g l2 false false none (o1 lenLG l0) pushW, .g l3 false false none (o1 (faddrG 2) r3) pushW, .g l4 false false none (o1 load1G l0) pushW, .g l5 false false none (o1 lenLG l0) pushW, .g l6 false false none (o2 (eqG eqIV true) l3 l0) pushW, .p (o3 pickG l7 (ctK (.bool true)) l0) pushW, .g l0 false false none (o1 (faddrG 3) r2) pushW, .g l1 false false none (o1 load1G l0) pushW, .g l2 false false none (o1 lenLG l0) pushW, .g l3 false false none (o1 (faddrG 3) r3) pushW, .g l4 false false none (o1 load1G l0) pushW, .g l5 false false none (o1 lenLG l0) pushW, .g l6 false false none (o2 (eqG eqIV true) l3 l0) pushW, .p (o3 pickG l7 (ctK (.bool true)) l0) w36])
 (.cond r36
 (.seq
 (.reg [.p (o1 mvG (ctK (.bool false))) w4])
 .ret)
 .skip))
 (.seq
 (.seq
 (.reg [.p (o1 mvG (ctK (.int .i64 (Int.ofNat 0)))) w5])
 (.block 0
 (.loop
 (.seq
 (.seq
 (.reg [.p (o1 (faddrG 2) r2) pushW, .p (o1 load1G l0) pushW, .p (o1 lenLG l0) pushW, .p (o2 (binG (cmpB .lss ltI)) r5 l0) w41])
 (.cond r41
 .skip
 (.exit 0)))
 (.seq
 (.block 1
 (.seq
 (.drw [.p (o1 (faddrG 2) r2) pushW, .p (o1 load1G l0) pushW, .p (o2 (iaddrG 1) l0 r5) pushW, .p (o1 load1G l0) pushW, .p (o1 (faddrG 2) r3) pushW, .p (o1 load1G l0) pushW, .p (o2 (iaddrG 1) l0 r5) pushW, .p (o1 load1G l0) pushW, .p (o2 (eqG eqSV true) l4 l0) w54] [])
 (.cond r54
 (.seq
 (.reg [.p (o1 mvG (ctK (.bool false))) w4])
 .ret)
 .skip)))
 (.reg [.p (o1 mvG r5) pushW, .p (o2 (binG addB) l0 (ctK (.int .i64 (Int.ofNat 1)))) pushW, .p (o1 mvG l0) w5]))))))
 (.seq
 (.seq
 (.reg [.p (o1 mvG (ctK (.int .i64 (Int.ofNat 0)))) w6])
 (.block 2
 (.loop
 (.seq
 (.seq
 (.reg [.p (o1 (faddrG 3) r2) pushW, .p (o1 load1G l0) pushW, .p (o1 lenLG l0) pushW, .p (o2 (binG (cmpB .lss ltI)) r6 l0) w59])
 (.cond r59
 .skip
 (.exit 2)))
 (.seq
 (.block 3
 (.seq
 (.drw [.p (o1 (faddrG 3) r2) pushW, .p (o1 load1G l0) pushW, .p (o2 (iaddrG 4) l0 r6) pushW, .p (o1 (loadnG 4) l0) pushW, .p (o1 (faddrG 3) r3) pushW, .p (o1 load1G l0) pushW, .p (o2 (iaddrG 4) l0 r6) pushW, .p (o1 (loadnG 4) l0) pushW, .m (callO 81 [l4, l0]) pushW (some []), .p (o1 notG l0) w73] [])
 (.cond r73
 (.seq
 (.reg [.p (o1 mvG (ctK (.bool false))) w4])
 .ret)
 .skip)))
 (.reg [.p (o1 mvG r6) pushW, .p (o2 (binG addB) l0 (ctK (.int .i64 (Int.ofNat 1)))) pushW, .p (o1 mvG l0) w6]))))))
 (.seq
 (.reg [.p (o1 mvG (ctK (.bool true))) w4])
 .ret))))) }
theorem kf81_ok : (compFn Tryz.prog Tryz.f81 [[2, 3], [2, 3], [2, 3, 5], [2, 3, 5], [2, 3, 5], [], [2, 3, 6], [2, 3, 6], [2, 3, 6]]).bind (toKFn [7, 8, 9, 10, 11, 12, 13, 14, 15, 16, 17, 18, 19, 20, 21, 22, 23, 24, 25, 26, 27, 28, 29, 30, 31, 32, 33, 34, 35, 37, 38, 39, 40, 42, 43, 44, 45, 46, 47, 48, 49, 50, 51, 52, 53, 55, 56, 57, 58, 60, 61, 62, 63, 64, 65, 66, 67, 68, 69, 70, 71, 72] 2) = some kf81 := by kernel_rfl
noncomputable def kf24 : KFn := { params := [w0, w1], res := [(.s r4)], body :=
 (.seq
 (.reg [.p (o1 mvG (ctK .snil)) w4])
 (.seq
 (.seq
 (.reg [.p (o1 mvG (ctK (.int .i64 (Int.ofNat 0)))) w5])
 (.block 0
 (.loop
 (.seq
 (.seq
 (.reg [.p (o1 lenLG r0) pushW, .p (o2 (binG (cmpB .lss ltI)) r5 l0) w9])
 (.cond r9
 .skip
 (.exit 0)))
 (.seq
 (.block 1
 (.seq
 (.reg [.p (o2 (iaddrG 2) r0 r5) pushW, .p (o1 (faddrG 0) l0) pushW, .p (o1 load1G l0) pushW, .p (o2 (eqG eqSV false) l0 r1) w18])
 (.cond r18
 (.seq
 (.reg [.p (o2 (iaddrG 2) r0 r5) pushW, .p (o1 (faddrG 1) l0) pushW, .p (o1 load1G l0) pushW, .p (o1 mvG l0) w4])
 .ret)
 .skip)))
 (.reg [.p (o1 mvG r5) pushW, .p (o2 (binG addB) l0 (ctK (.int .i64 (Int.ofNat 1)))) pushW, .p (o1 mvG l0) w5]))))))
 (.seq
 (.reg [.p (o1 mvG (ctK .snil)) w4])
 .ret))) }
theorem kf24_ok : (compFn Tryz.prog Tryz.f24 [[], [0, 1, 5], [0, 1, 5], [0, 1, 5]]).bind (toKFn [6, 7, 8, 10, 11, 12, 13, 14, 15, 16, 17, 19, 20, 21, 22, 23] 2) = some kf24 := by kernel_rfl
noncomputable def kf23 : KFn := { params := [w0, w1, w2, w3], res := [(.s r8), (.s r9), (.s r10)], body :=
 (.seq
 (.reg [.p (o1 mvG (ctK .snil)) w8, .p (o1 mvG (ctK (.int .i64 (Int.ofNat 0)))) w9, .p (o1 mvG (ctK (.int .i64 (Int.ofNat 0)))) w10])
 (.seq
 (.reg [.p (buildO [.pnil, .snil, .snil, (.int .i64 (Int.ofNat 0)), (.int .i64 (Int.ofNat 0))] [(0, 1, r0), (1, 1, r1)]) pushW, .p (o1 boxG l0) pushW, .p (o1 mvG l0) w11])
 (.seq
 (.reg [.p (buildO [(.int .i64 (Int.ofNat 0)), .snil, .snil] [(0, 1, r2)]) pushW, .p (callO 49 [r11, l0, r3]) pushW])
 (.seq
 (.seq
 (.reg [.p (o1 nilckG r11) pushW, .p (o1 (faddrG 4) l0) pushW, .p (o1 load1G l0) pushW, .p (o2 (eqG eqIV true) l0 (ctK (.int .i64 (Int.ofNat 0)))) w25])
 (.cond r25
 (.seq
 (.drw [.p (o1 nilckG r11) pushW, .p (o1 (faddrG 3) l0) pushW, .p (o1 load1G l0) pushW, .p (o1 nilckG r11) pushW, .p (o1 (faddrG 4) l0) pushW, .p (o1 load1G l0) pushW, .p (o1 mvG (ctK .snil)) w8, .p (o1 mvG l3) w9, .p (o1 mvG l0) w10] [])
 .ret)
 .skip))
 (.seq
 (.reg [.p (o1 nilckG r11) pushW, .p (o1 (faddrG 2) l0) pushW, .p (o1 load1G l0) pushW, .p (o1 mvG l0) w8, .p (o1 mvG (ctK (.int .i64 (Int.ofNat 0)))) w9, .p (o1 mvG (ctK (.int .i64 (Int.ofNat 0)))) w10])
 .ret))))) }
theorem kf23_ok : (compFn Tryz.prog Tryz.f23 [[11]]).bind (toKFn [12, 13, 14, 15, 16, 17, 18, 19, 20, 21, 22, 23, 24, 26, 27, 28, 29, 30, 31, 32, 33, 34, 35, 36, 37] 4) = some kf23 := by kernel_rfl
noncomputable def kf49 : KFn := { params := [w0, w1, w2], res := [], body :=
 (.seq
 (.reg [.p (o1 boxG r1) w4])
 (.seq
 (.reg [.p (o1 mvG (ctK (.int .i64 (Int.ofNat 0)))) w6])
 (.block 0
 (.loop
 (.seq
 (.seq
 (.reg [.p (o1 lenLG r2) pushW, .p (o2 (binG (cmpB .lss ltI)) r6 l0) pushW, .g l0 true false none (o1 mvG r0) pushW, .g l1 true false none (o1 nilckG l0) pushW, .g l2 true false none (o1 (faddrG 4) l0) pushW, .g l3 true false none (o1 load1G l0) pushW, .g l4 true false none (o2 (eqG eqIV false) l0 (ctK (.int .i64 (Int.ofNat 0)))) pushW, .p (o3 pickG l5 l0 (ctK (.bool false))) w17])
 (.cond r17
 .skip
 (.exit 0)))
 (.seq
 (.block 1
 (.drw [.p (o1 (loadnG 3) r4) pushW, .p (o2 (iaddrG 9) r2 r6) pushW, .p (o1 (loadnG 9) l0) pushW, .m (callO 82 [r0, l2, l0]) pushW (some []), .p (o2 (storeG 3) r4 l0) noW] []))
 (.reg [.p (o1 mvG r6) pushW, .p (o2 (binG addB) l0 (ctK (.int .i64 (Int.ofNat 1)))) pushW, .p (o1 mvG l0) w6]))))))) }
theorem kf49_ok : (compFn Tryz.prog Tryz.f49 [[0, 2, 4, 6], [0, 2, 4, 6], [0, 2, 4, 6]]).bind (toKFn [7, 8, 9, 10, 11, 12, 13, 14, 15, 16, 18, 19, 20, 21, 22, 23, 24, 25, 26] 3) = some kf49 := by kernel_rfl
noncomputable def kf82 : KFn := { params := [w0, w1, w2], res := [(.cn r6 3)], body :=
 (.seq
 (.reg [.p (o1 boxG r1) w4, .p (o1 boxG r2) w5, .p (allocO [(.int .i64 (Int.ofNat 0)), .snil, .snil]) w6])
 (.seq
 (.reg [.p (o1 (faddrG 0) r4) pushW, .p (o1 load1G l0) pushW, .p (o1 mvG l0) w7])
 (.seq
 (.seq
 (.reg [.p (o1 (faddrG 4) r5) pushW, .p (o1 load1G l0) pushW, .p (o1 lenLG l0) pushW, .p (o2 (binG (cmpB .gtr gtI)) l0 (ctK (.int .i64 (Int.ofNat 0)))) w16])
 (.cond r16
 (.seq
 (.drw [.p (o1 nilckG r0) pushW, .p (o1 (faddrG 0) l0) pushW, .p (o1 load1G l0) pushW, .p (o1 (loadnG 3) r4) pushW, .p (o1 (faddrG 4) r5) pushW, .p (o1 load1G l0) pushW, .m (callO 112 [l3, l2, l0]) pushW (some []), .p (o1 (extG 0) l0) pushW, .p (o1 (extG 1) l1) pushW, .p (o1 mvG l1) w8, .p (o1 mvG l0) w9] [])
 (.seq
 (.seq
 (.reg [.p (o2 (eqG eqIV true) r9 (ctK (.int .i64 (Int.ofNat 0)))) w29])
 (.cond r29
 (.seq
 (.reg [.p (o1 (loadnG 9) r5) pushW, .p (callO 113 [r0, l0, r9]) pushW])
 (.seq
 (.reg [.p (o1 (loadnG 3) r4) pushW, .p (o2 (storeG 3) r6 l0) noW])
 .ret))
 .skip))
 (.reg [.p (o1 mvG r8) w7])))
 .skip))
 (.seq
 (.seq
 (.reg [.p (o1 (faddrG 0) r5) pushW, .p (o1 load1G l0) w37])
 (.block 0
 (.seq
 (.reg [.p (o2 (eqG eqIV false) r37 (ctK (.int .i64 (Int.ofNat 3)))) pushW, .p (o1 mvG l0) w38])
 (.cond r38
 (.drw [.p (bslO 2 0 [] []) w40, .p (o1 (faddrG 1) r4) pushW, .p (o1 load1G l0) pushW, .p (o2 (appG 2) r40 l0) pushW, .p (o1 (faddrG 3) r5) w44, .p (o1 load1G r44) pushW, .p (buildO [(.str 0 0), (.int .i64 (Int.ofNat 0))] [(0, 1, l0), (1, 1, r7)]) pushW, .p (bslO 2 1 [(.str 0 0), (.int .i64 (Int.ofNat 0))] [(0, 2, l0)]) pushW, .p (o2 (appG 2) l3 l0) pushW, .p (o1 (faddrG 1) r4) pushW, .p (o2 (storeG 1) l0 l1) noW] [([r40], [r44])])
 (.seq
 (.reg [.p (o2 (eqG eqIV false) r37 (ctK (.int .i64 (Int.ofNat 4)))) pushW, .p (o1 mvG l0) w51])
 (.cond r51
 (.reg [.p (o1 (loadnG 3) r4) pushW, .p (o1 (loadnG 9) r5) pushW, .p (callO 114 [r0, l1, l0, r7]) pushW])
 (.seq
 (.reg [.p (o2 (eqG eqIV false) r37 (ctK (.int .i64 (Int.ofNat 9)))) pushW, .p (o1 mvG l0) w58])
 (.cond r58
 (.reg [.p (o1 (loadnG 9) r5) pushW, .p (callO 115 [r0, l0, r7]) pushW])
 (.seq
 (.reg [.p (o2 (eqG eqIV false) r37 (ctK (.int .i64 (Int.ofNat 2)))) pushW, .p (o1 mvG l0) w64])
 (.cond r64
 (.seq
 (.reg [.p (o1 nilckG r0) pushW, .p (o1 (faddrG 0) l0) pushW, .p (o1 load1G l0) pushW, .p (callO 116 [l0, r7]) pushW, .p (o1 (fld1G 0) l0) pushW, .p (o1 mvG l0) w10])
 (.seq
 (.reg [.p (o2 (binG (cmpB .lss ltI)) r10 (ctK (.int .i64 (Int.ofNat 1)))) pushW, .g l0 false false none (o1 mvG r10) pushW, .g l1 false false none (o2 (binG (cmpB .gtr gtI)) l0 (ctK (.int .i64 (Int.ofNat 3)))) pushW, .p (o3 pickG l2 (ctK (.bool true)) l0) w78])
 (.cond r78
 (.reg [.p (o1 (loadnG 9) r5) pushW, .p (callO 113 [r0, l0, (ctK (.int .i64 (Int.ofNat 17)))]) pushW])
 .skip)))
 (.seq
 (.seq
 (.reg [.p (o2 (eqG eqIV false) r37 (ctK (.int .i64 (Int.ofNat 5)))) pushW, .p (o1 mvG l0) w82])
 (.cond r82
 .skip
 (.seq
 (.reg [.p (o2 (eqG eqIV false) r37 (ctK (.int .i64 (Int.ofNat 6)))) pushW, .p (o1 mvG l0) w82])
 (.cond r82
 .skip
 (.seq
 (.reg [.p (o2 (eqG eqIV false) r37 (ctK (.int .i64 (Int.ofNat 7)))) pushW, .p (o1 mvG l0) w82])
 (.cond r82
 .skip
 (.reg [.p (o2 (eqG eqIV false) r37 (ctK (.int .i64 (Int.ofNat 8)))) pushW, .p (o1 mvG l0) w82])))))))
 (.cond r82
 (.reg [.p (o1 (loadnG 3) r4) pushW, .p (o1 (loadnG 9) r5) pushW, .p (callO 117 [r0, l1, l0, r7]) pushW])
 .skip))))))))))))
 (.seq
 (.reg [.p (o1 (loadnG 3) r4) pushW, .p (o2 (storeG 3) r6 l0) noW])
 .ret))))) }
theorem kf82_ok : (compFn Tryz.prog Tryz.f82 [[0, 4, 5, 6, 7], [0, 4, 5, 6, 8], [4, 6], [0, 4, 5, 6, 7, 82]]).bind (toKFn [11, 12, 13, 14, 15, 17, 18, 19, 20, 21, 22, 23, 24, 25, 26, 27, 28, 30, 31, 32, 33, 34, 35, 36, 39, 41, 42, 43, 45, 46, 47, 48, 49, 50, 52, 53, 54, 55, 56, 57, 59, 60, 61, 62, 63, 65, 66, 67, 68, 69, 70, 71, 72, 73, 74, 75, 76, 77, 79, 80, 81, 83, 84, 85, 86, 87, 88, 89, 90, 91, 92] 3) = some kf82 := by kernel_rfl
noncomputable def kf112 : KFn := { params := [w0, w1, w2], res := [(.s r6), (.s r7)], body :=
 (.seq
 (.reg [.p (o1 boxG r1) w4, .p (o1 mvG (ctK (.int .i64 (Int.ofNat 0)))) w6, .p (o1 mvG (ctK (.int .i64 (Int.ofNat 0)))) w7])
 (.seq
 (.reg [.p (o1 mvG (ctK (.int .i64 (Int.ofNat 0)))) w8])
 (.seq
 (.seq
 (.reg [.p (o1 mvG (ctK (.int .i64 (Int.ofNat 0)))) w9])
 (.block 0
 (.loop
 (.seq
 (.seq
 (.reg [.p (o1 lenLG r2) pushW, .p (o2 (binG (cmpB .lss ltI)) r9 l0) w22])
 (.cond r22
 .skip
 (.exit 0)))
 (.seq
 (.block 1
 (.seq
 (.reg [.p (o2 (iaddrG 1) r2 r9) pushW, .p (o1 (faddrG 0) l0) pushW, .p (o1 load1G l0) pushW, .p (o1 mvG l0) w10])
 (.seq
 (.seq
 (.reg [.p (o2 (iaddrG 7) r10 (ctK (.int .i64 (Int.ofNat 0)))) pushW, .p (o1 (faddrG 0) l0) pushW, .p (o1 load1G l0) pushW, .p (o2 (eqG eqIV true) l0 (ctK (.int .i64 (Int.ofNat 6)))) w34])
 (.cond r34
 (.seq
 (.drw [.p (o1 (loadnG 3) r4) pushW, .p (o2 (iaddrG 7) r10 (ctK (.int .i64 (Int.ofNat 0)))) pushW, .p (o1 (loadnG 7) l0) pushW, .m (callO 145 [r0, l2, l0]) pushW (some []), .p (o1 (extG 0) l0) pushW, .p (o1 (extG 1) l1) pushW, .p (o1 mvG l1) w11, .p (o1 mvG l0) w12] [])
 (.seq
 (.seq
 (.reg [.p (o2 (eqG eqIV true) r12 (ctK (.int .i64 (Int.ofNat 0)))) w45])
 (.cond r45
 (.seq
 (.reg [.p (o1 mvG (ctK (.int .i64 (Int.ofNat 0)))) w6, .p (o1 mvG r12) w7])
 .ret)
 .skip))
 (.seq
 (.seq
 (.reg [.p (o2 (binG (cmpB .gtr gtI)) r9 (ctK (.int .i64 (Int.ofNat 0)))) w48])
 (.cond r48
 (.seq
 (.reg [.p (o1 mvG (ctK (.int .i64 (Int.ofNat 0)))) w6, .p (o1 mvG (ctK (.int .i64 (Int.ofNat 18)))) w7])
 .ret)
 .skip))
 (.seq
 (.reg [.p (o1 mvG r11) w8])
 (.exit 1)))))
 .skip))
 (.seq
 (.reg [.p (o1 mvG (ctK .snil)) w13])
 (.seq
 (.seq
 (.reg [.p (o1 mvG (ctK (.int .i64 (Int.ofNat 1)))) w14])
 (.block 2
 (.loop
 (.seq
 (.seq
 (.reg [.p (o1 lenLG r10) pushW, .p (o2 (binG (cmpB .lss ltI)) r14 l0) w53])
 (.cond r53
 .skip
 (.exit 2)))
 (.seq
 (.block 3
 (.seq
 (.drw [.p (o1 (loadnG 3) r4) pushW, .p (o2 (iaddrG 7) r10 r14) pushW, .p (o1 (loadnG 7) l0) pushW, .m (callO 145 [r0, l2, l0]) pushW (some []), .p (o1 (extG 0) l0) pushW, .p (o1 (extG 1) l1) pushW, .p (o1 mvG l1) w15, .p (o1 mvG l0) w16] [])
 (.seq
 (.seq
 (.reg [.p (o2 (eqG eqIV true) r16 (ctK (.int .i64 (Int.ofNat 0)))) w67])
 (.cond r67
 (.seq
 (.reg [.p (o1 mvG (ctK (.int .i64 (Int.ofNat 0)))) w6, .p (o1 mvG r16) w7])
 .ret)
 .skip))
 (.reg [.p (o1 mvG r13) pushW, .p (bslO 1 1 [(.int .i64 (Int.ofNat 0))] [(0, 1, r15)]) pushW, .p (o2 (appG 1) l1 l0) pushW, .p (o1 mvG l0) w13]))))
 (.reg [.p (o1 mvG r14) pushW, .p (o2 (binG addB) l0 (ctK (.int .i64 (Int.ofNat 1)))) pushW, .p (o1 mvG l0) w14]))))))
 (.seq
 (.seq
 (.reg [.p (o2 (binG (cmpB .gtr gtI)) r9 (ctK (.int .i64 (Int.ofNat 0)))) w74])
 (.cond r74
 (.reg [.p (o1 mvG r13) pushW, .p (bslO 1 1 [(.int .i64 (Int.ofNat 0))] [(0, 1, r8)]) pushW, .p (o2 (appG 1) l1 l0) pushW, .p (o1 mvG l0) w13])
 .skip))
 (.seq
 (.reg [.p (o2 (iaddrG 7) r10 (ctK (.int .i64 (Int.ofNat 0)))) pushW, .p (o1 (faddrG 3) l0) pushW, .p (o1 load1G l0) pushW, .p (callO 146 [r0, l0, r13]) pushW, .p (o1 (extG 0) l0) pushW, .p (o1 (extG 1) l1) pushW, .p (o1 mvG l1) w17, .p (o1 mvG l0) w18])
 (.seq
 (.seq
 (.reg [.p (o2 (eqG eqIV true) r18 (ctK (.int .i64 (Int.ofNat 0)))) w90])
 (.cond r90
 (.seq
 (.reg [.p (o1 mvG (ctK (.int .i64 (Int.ofNat 0)))) w6, .p (o1 mvG r18) w7])
 .ret)
 .skip))
 (.reg [.p (o1 mvG r17) w8])))))))))
 (.reg [.p (o1 mvG r9) pushW, .p (o2 (binG addB) l0 (ctK (.int .i64 (Int.ofNat 1)))) pushW, .p (o1 mvG l0) w9]))))))
 (.seq
 (.reg [.p (o1 mvG r8) w6, .p (o1 mvG (ctK (.int .i64 (Int.ofNat 0)))) w7])
 .ret)))) }
theorem kf112_ok : (compFn Tryz.prog Tryz.f112 [[8], [0, 2, 4, 8, 9], [0, 2, 4, 8, 9], [0, 2, 4, 8, 9], [0, 2, 4, 8, 9, 10], [0, 2, 4, 9, 11], [0, 2, 4, 9, 11], [0, 2, 4, 8, 9, 10, 13], [0, 2, 4, 8, 9, 10, 13, 14], [0, 2, 4, 8, 9, 10, 13, 14], [0, 2, 4, 8, 9, 10, 13, 14], [0, 2, 4, 8, 9, 10, 13, 14, 15], [0, 2, 4, 9, 10, 13], [0, 2, 4, 9, 17]]).bind (toKFn [19, 20, 21, 23, 24, 25, 26, 27, 28, 29, 30, 31, 32, 33, 35, 36, 37, 38, 39, 40, 41, 42, 43, 44, 46, 47, 49, 50, 51, 52, 54, 55, 56, 57, 58, 59, 60, 61, 62, 63, 64, 65, 66, 68, 69, 70, 71, 72, 73, 75, 76, 77, 78, 79, 80, 81, 82, 83, 84, 85, 86, 87, 88, 89, 91, 92, 93] 3) = some kf112 := by kernel_rfl
noncomputable def kf145 : KFn := { params := [w0, w1, w2], res := [(.s r6), (.s r7)], body :=
 (.seq
 (.reg [.p (o1 boxG r1) w4, .p (o1 boxG r2) w5, .p (o1 mvG (ctK (.int .i64 (Int.ofNat 0)))) w6, .p (o1 mvG (ctK (.int .i64 (Int.ofNat 0)))) w7])
 (.seq
 (.seq
 (.reg [.p (o1 (faddrG 0) r5) pushW, .p (o1 load1G l0) w9])
 (.block 0
 (.seq
 (.reg [.p (o2 (eqG eqIV false) r9 (ctK (.int .i64 (Int.ofNat 2)))) pushW, .p (o1 mvG l0) w10])
 (.cond r10
 (.seq
 (.reg [.p (callO 166 [r0, (ctK (.int .i64 (Int.ofNat 3)))]) pushW, .p (o1 (extG 0) l0) pushW, .p (o1 (extG 1) l1) pushW, .p (o1 mvG l1) w6, .p (o1 mvG l0) w7])
 .ret)
 (.seq
 (.reg [.p (o2 (eqG eqIV false) r9 (ctK (.int .i64 (Int.ofNat 3)))) pushW, .p (o1 mvG l0) w16])
 (.cond r16
 (.seq
 (.reg [.p (callO 166 [r0, (ctK (.int .i64 (Int.ofNat 2)))]) pushW, .p (o1 (extG 0) l0) pushW, .p (o1 (extG 1) l1) pushW, .p (o1 mvG l1) w6, .p (o1 mvG l0) w7])
 .ret)
 (.seq
 (.reg [.p (o2 (eqG eqIV false) r9 (ctK (.int .i64 (Int.ofNat 4)))) pushW, .p (o1 mvG l0) w22])
 (.cond r22
 (.seq
 (.reg [.p (callO 166 [r0, (ctK (.int .i64 (Int.ofNat 1)))]) pushW, .p (o1 (extG 0) l0) pushW, .p (o1 (extG 1) l1) pushW, .p (o1 mvG l1) w6, .p (o1 mvG l0) w7])
 .ret)
 (.seq
 (.reg [.p (o2 (eqG eqIV false) r9 (ctK (.int .i64 (Int.ofNat 5)))) pushW, .p (o1 mvG l0) w28])
 (.cond r28
 (.seq
 (.reg [.p (o1 (loadnG 3) r4) pushW, .p (o1 (faddrG 6) r5) pushW, .p (o1 load1G l0) pushW, .p (callO 112 [r0, l2, l0]) pushW, .p (o1 (extG 0) l0) pushW, .p (o1 (extG 1) l1) pushW, .p (o1 mvG l1) w6, .p (o1 mvG l0) w7])
 .ret)
 .skip))))))))))
 (.seq
 (.reg [.p (o1 (loadnG 3) r4) pushW, .p (o1 (loadnG 7) r5) pushW, .p (callO 167 [r0, l1, l0]) pushW, .p (o1 (extG 0) l0) pushW, .p (o1 (extG 1) l1) pushW, .p (o1 mvG l1) w6, .p (o1 mvG l0) w7])
 .ret))) }
theorem kf145_ok : (compFn Tryz.prog Tryz.f145 [[0, 4, 5]]).bind (toKFn [8, 11, 12, 13, 14, 15, 17, 18, 19, 20, 21, 23, 24, 25, 26, 27, 29, 30, 31, 32, 33, 34, 35, 36, 37, 38, 39, 40, 41, 42] 3) = some kf145 := by kernel_rfl
noncomputable def kf166 : KFn := { params := [w0, w1], res := [(.s r4), (.s r5)], body :=
 (.seq
 (.reg [.p (o1 mvG (ctK (.int .i64 (Int.ofNat 0)))) w4, .p (o1 mvG (ctK (.int .i64 (Int.ofNat 0)))) w5])
 (.seq
 (.reg [.p (buildO [(.int .i64 (Int.ofNat 0)), (.str 0 0), .snil, .snil] [(0, 1, r1)]) pushW, .p (callO 48 [r0, l0]) pushW, .p (o1 (extG 0) l0) pushW, .p (o1 (extG 1) l1) pushW, .p (o1 mvG l1) w4, .p (o1 mvG l0) w5])
 .ret)) }
theorem kf166_ok : (compFn Tryz.prog Tryz.f166 []).bind (toKFn [6, 7, 8, 9, 10, 11] 2) = some kf166 := by kernel_rfl
noncomputable def kf167 : KFn := { params := [w0, w1, w2], res := [(.s r6), (.s r7)], body :=
 (.seq
 (.reg [.p (o1 boxG r1) w4, .p (o1 boxG r2) w5, .p (o1 mvG (ctK (.int .i64 (Int.ofNat 0)))) w6, .p (o1 mvG (ctK (.int .i64 (Int.ofNat 0)))) w7])
 (.seq
 (.reg [.p (o1 (loadnG 3) r4) pushW, .p (o1 (faddrG 1) r5) pushW, .p (o1 load1G l0) pushW, .p (callO 147 [l2, l0]) pushW, .p (o1 mvG l0) w8])
 (.seq
 (.seq
 (.reg [.p (o2 (binG (cmpB .lss ltI)) r8 (ctK (.int .i64 (Int.negSucc 0)))) w22])
 (.cond r22
 (.seq
 (.reg [.p (o1 mvG (ctK (.int .i64 (Int.ofNat 0)))) w6, .p (o1 mvG (ctK (.int .i64 (Int.ofNat 15)))) w7])
 .ret)
 .skip))
 (.seq
 (.reg [.p (o1 (faddrG 0) r4) pushW, .p (o1 load1G l0) pushW, .p (o1 mvG l0) w9])
 (.seq
 (.seq
 (.reg [.p (o2 (binG (cmpB .geq geI)) r8 (ctK (.int .i64 (Int.ofNat 0)))) w26])
 (.cond r26
 (.reg [.p (o1 (faddrG 1) r4) pushW, .p (o1 load1G l0) pushW, .p (o2 (iaddrG 2) l0 r8) pushW, .p (o1 (faddrG 1) l0) pushW, .p (o1 load1G l0) pushW, .p (o1 mvG l0) w9])
 .skip))
 (.seq
 (.reg [.p (o1 mvG (ctK (.int .i64 (Int.ofNat 0)))) w10])
 (.seq
 (.seq
 (.reg [.p (o1 mvG (ctK (.int .i64 (Int.ofNat 0)))) w11])
 (.block 0
 (.loop
 (.seq
 (.seq
 (.reg [.p (o1 (faddrG 2) r5) pushW, .p (o1 load1G l0) pushW, .p (o1 lenLG l0) pushW, .p (o2 (binG (cmpB .leq leI)) r11 l0) w37])
 (.cond r37
 .skip
 (.exit 0)))
 (.seq
 (.block 1
 (.seq
 (.reg [.p (o1 mvG (ctK (.int .i64 (Int.ofNat 0)))) w12])
 (.block 2
 (.loop
 (.seq
 (.seq
 (.reg [.p (o1 (faddrG 2) r4) pushW, .p (o1 load1G l0) pushW, .p (o1 lenLG l0) pushW, .p (o2 (binG (cmpB .lss ltI)) r12 l0) w44])
 (.cond r44
 .skip
 (.exit 2)))
 (.seq
 (.block 3
 (.seq
 (.drw [.p (o1 (faddrG 2) r4) pushW, .p (o1 load1G l0) pushW, .p (o2 (iaddrG 3) l0 r12) pushW, .p (o1 (faddrG 0) l0) pushW, .p (o1 load1G l0) pushW, .p (o2 (eqG eqIV false) l0 r8) pushW, .g l0 true false none (o1 (faddrG 2) r4) pushW, .g l1 true false none (o1 load1G l0) pushW, .g l2 true false none (o1 mvG r12) pushW, .g l3 true false none (o2 (iaddrG 3) l1 l0) pushW, .g l4 true false none (o1 (faddrG 1) l0) pushW, .g l5 true false none (o1 load1G l0) pushW, .g l6 true false none (o1 (faddrG 2) r5) pushW, .g l7 true false none (o1 load1G l0) pushW, .g l8 true false none (o1 mvG r11) pushW, .g l9 true true (some []) (callO 183 [l3, l1, l0]) pushW, .p (o3 pickG l10 l0 (ctK (.bool false))) w66] [])
 (.cond r66
 (.reg [.p (o1 (faddrG 2) r4) pushW, .p (o1 load1G l0) pushW, .p (o2 (iaddrG 3) l0 r12) pushW, .p (o1 (faddrG 2) l0) pushW, .p (o1 load1G l0) pushW, .p (o1 mvG l0) w9, .p (o1 mvG r11) w10])
 .skip)))
 (.reg [.p (o1 mvG r12) pushW, .p (o2 (binG addB) l0 (ctK (.int .i64 (Int.ofNat 1)))) pushW, .p (o1 mvG l0) w12])))))))
 (.reg [.p (o1 mvG r11) pushW, .p (o2 (binG addB) l0 (ctK (.int .i64 (Int.ofNat 1)))) pushW, .p (o1 mvG l0) w11]))))))
 (.seq
 (.seq
 (.reg [.p (o1 mvG r10) w13])
 (.block 4
 (.loop
 (.seq
 (.seq
 (.reg [.p (o1 (faddrG 2) r5) pushW, .p (o1 load1G l0) pushW, .p (o1 lenLG l0) pushW, .p (o2 (binG (cmpB .lss ltI)) r13 l0) w79])
 (.cond r79
 .skip
 (.exit 4)))
 (.seq
 (.block 5
 (.seq
 (.reg [.p (callO 116 [r0, r9]) pushW, .p (allocO [(.int .i64 (Int.ofNat 0)), (.str 0 0), .snil, .snil]) w14, .p (o2 (storeG 4) r14 l0) noW])
 (.seq
 (.drw [.p (o1 (loadnG 4) r14) pushW, .p (o1 (faddrG 2) r5) pushW, .p (o1 load1G l0) pushW, .p (o2 (iaddrG 1) l0 r13) pushW, .p (o1 load1G l0) pushW, .m (callO 172 [l4, l0]) pushW (some []), .p (o1 (extG 0) l0) pushW, .p (o1 (extG 1) l1) pushW, .p (o1 mvG l1) w15, .p (o1 mvG l0) w16] [])
 (.seq
 (.seq
 (.reg [.p (o1 (faddrG 0) r14) pushW, .p (o1 load1G l0) pushW, .p (o2 (eqG eqIV true) l0 (ctK (.int .i64 (Int.ofNat 7)))) pushW, .g l0 false false none (o1 mvG r16) pushW, .g l1 false false none (o1 notG l0) pushW, .p (o3 pickG l2 (ctK (.bool true)) l0) w101])
 (.cond r101
 (.seq
 (.reg [.p (o1 mvG (ctK (.int .i64 (Int.ofNat 0)))) w6, .p (o1 mvG (ctK (.int .i64 (Int.ofNat 16)))) w7])
 .ret)
 .skip))
 (.reg [.p (o1 mvG r15) w9])))))
 (.reg [.p (o1 mvG r13) pushW, .p (o2 (binG addB) l0 (ctK (.int .i64 (Int.ofNat 1)))) pushW, .p (o1 mvG l0) w13]))))))
 (.seq
 (.reg [.p (o1 mvG r9) w6, .p (o1 mvG (ctK (.int .i64 (Int.ofNat 0)))) w7])
 .ret))))))))) }
theorem kf167_ok : (compFn Tryz.prog Tryz.f167 [[0, 4, 5, 8], [0, 4, 5, 8, 9], [0, 5, 9, 10], [0, 4, 5, 8, 9, 10, 11], [0, 4, 5, 8, 9, 10, 11], [0, 4, 5, 8, 9, 10, 11], [0, 4, 5, 8, 9, 10, 11, 12], [0, 4, 5, 8, 9, 10, 11, 12], [0, 4, 5, 8, 9, 10, 11, 12], [9], [0, 5, 9, 13], [0, 5, 9, 13], [0, 5, 9, 13], [0, 5, 13, 15]]).bind (toKFn [17, 18, 19, 20, 21, 23, 24, 25, 27, 28, 29, 30, 31, 32, 33, 34, 35, 36, 38, 39, 40, 41, 42, 43, 45, 46, 47, 48, 49, 50, 51, 52, 53, 54, 55, 56, 57, 58, 59, 60, 61, 62, 63, 64, 65, 67, 68, 69, 70, 71, 72, 73, 74, 75, 76, 77, 78, 80, 81, 82, 83, 84, 85, 86, 87, 88, 89, 90, 91, 92, 93, 94, 95, 96, 97, 98, 99, 100, 102, 103] 3) = some kf167 := by kernel_rfl
noncomputable def kf147 : KFn := { params := [w0, w1], res := [(.s r4)], body :=
 (.seq
 (.reg [.p (o1 boxG r0) w2, .p (o1 mvG (ctK (.int .i64 (Int.ofNat 0)))) w4])
 (.seq
 (.seq
 (.reg [.p (o2 (eqG eqSV false) r1 (ctK (.str 0 0))) w7])
 (.cond r7
 (.seq
 (.reg [.p (o1 mvG (ctK (.int .i64 (Int.negSucc 0)))) w4])
 .ret)
 .skip))
 (.seq
 (.seq
 (.reg [.p (o1 (faddrG 1) r2) pushW, .p (o1 load1G l0) pushW, .p (o1 lenLG l0) pushW, .p (o2 (binG subB) l0 (ctK (.int .i64 (Int.ofNat 1)))) pushW, .p (o1 mvG l0) w5])
 (.block 0
 (.loop
 (.seq
 (.seq
 (.reg [.p (o2 (binG (cmpB .geq geI)) r5 (ctK (.int .i64 (Int.ofNat 0)))) w13])
 (.cond r13
 .skip
 (.exit 0)))
 (.seq
 (.block 1
 (.seq
 (.reg [.p (o1 (faddrG 1) r2) pushW, .p (o1 load1G l0) pushW, .p (o2 (iaddrG 2) l0 r5) pushW, .p (o1 (faddrG 0) l0) pushW, .p (o1 load1G l0) pushW, .p (o2 (eqG eqSV false) l0 r1) w23])
 (.cond r23
 (.seq
 (.reg [.p (o1 mvG r5) w4])
 .ret)
 .skip)))
 (.reg [.p (o1 mvG r5) pushW, .p (o2 (binG subB) l0 (ctK (.int .i64 (Int.ofNat 1)))) pushW, .p (o1 mvG l0) w5]))))))
 (.seq
 (.reg [.p (o1 mvG (ctK (.int .i64 (Int.negSucc 1)))) w4])
 .ret)))) }
theorem kf147_ok : (compFn Tryz.prog Tryz.f147 [[1, 2], [], [1, 2, 5], [1, 2, 5], [1, 2, 5]]).bind (toKFn [6, 8, 9, 10, 11, 12, 14, 15, 16, 17, 18, 19, 20, 21, 22, 24] 2) = some kf147 := by kernel_rfl
noncomputable def kf183 : KFn := { params := [w0, w1, w2], res := [(.s r6)], body :=
 (.seq
 (.reg [.p (o1 mvG (ctK (.bool false))) w6])
 (.seq
 (.seq
 (.reg [.p (o1 lenLG r0) pushW, .p (o2 (eqG eqIV true) l0 r2) w11])
 (.cond r11
 (.seq
 (.reg [.p (o1 mvG (ctK (.bool false))) w6])
 .ret)
 .skip))
 (.seq
 (.seq
 (.reg [.p (o1 mvG (ctK (.int .i64 (Int.ofNat 0)))) w7])
 (.block 0
 (.loop
 (.seq
 (.seq
 (.reg [.p (o2 (binG (cmpB .lss ltI)) r7 r2) w14])
 (.cond r14
 .skip
 (.exit 0)))
 (.seq
 (.block 1
 (.seq
 (.drw [.p (o2 (iaddrG 1) r0 r7) pushW, .p (o1 load1G l0) pushW, .p (o2 (iaddrG 1) r1 r7) pushW, .p (o1 load1G l0) pushW, .p (o2 (eqG eqSV true) l2 l0) w25] [])
 (.cond r25
 (.seq
 (.reg [.p (o1 mvG (ctK (.bool false))) w6])
 .ret)
 .skip)))
 (.reg [.p (o1 mvG r7) pushW, .p (o2 (binG addB) l0 (ctK (.int .i64 (Int.ofNat 1)))) pushW, .p (o1 mvG l0) w7]))))))
 (.seq
 (.reg [.p (o1 mvG (ctK (.bool true))) w6])
 .ret)))) }
theorem kf183_ok : (compFn Tryz.prog Tryz.f183 [[0, 1, 2], [], [0, 1, 2, 7], [0, 1, 2, 7], [0, 1, 2, 7]]).bind (toKFn [8, 9, 10, 12, 13, 15, 16, 17, 18, 19, 20, 21, 22, 23, 24] 3) = some kf183 := by kernel_rfl
noncomputable def kf116 : KFn := { params := [w0, w1], res := [(.cn r4 4)], body :=
 (.seq
 (.reg [.p (allocO [(.int .i64 (Int.ofNat 0)), (.str 0 0), .snil, .snil]) w4])
 (.seq
 (.reg [.p (callO 148 [r0, r1]) pushW, .p (o1 (extG 0) l0) pushW, .p (o1 (extG 1) l1) pushW, .p (o1 mvG l1) w5])
 (.seq
 (.reg [.p (o1 nilckG r0) pushW, .p (o1 (faddrG 0) l0) pushW, .p (o1 load1G l0) pushW, .p (o2 (iaddrG 4) l0 r5) pushW, .p (o1 (loadnG 4) l0) pushW, .p (o2 (storeG 4) r4 l0) noW])
 .ret))) }
theorem kf116_ok : (compFn Tryz.prog Tryz.f116 []).bind (toKFn [6, 7, 8, 9, 10, 11, 12, 13, 14, 15, 16, 17, 18, 19] 2) = some kf116 := by kernel_rfl
noncomputable def kf148 : KFn := { params := [w0, w1], res := [(.s r4), (.s r5)], body :=
 (.seq
 (.reg [.p (o1 mvG (ctK (.int .i64 (Int.ofNat 0)))) w4, .p (o1 mvG (ctK (.bool false))) w5])
 (.seq
 (.seq
 (.reg [.p (o2 (binG (cmpB .lss ltI)) r1 (ctK (.int .i64 (Int.ofNat 0)))) pushW, .g l0 false false none (o1 mvG r1) pushW, .g l1 false false none (o1 mvG r0) pushW, .g l2 false false none (o1 nilckG l0) pushW, .g l3 false false none (o1 (faddrG 0) l0) pushW, .g l4 false false none (o1 load1G l0) pushW, .g l5 false false none (o1 lenLG l0) pushW, .g l6 false false none (o2 (binG (cmpB .geq geI)) l5 l0) pushW, .p (o3 pickG l7 (ctK (.bool true)) l0) w17])
 (.cond r17
 (.seq
 (.reg [.p (o1 mvG (ctK (.int .i64 (Int.ofNat 0)))) w4, .p (o1 mvG (ctK (.bool false))) w5])
 .ret)
 .skip))
 (.seq
 (.block 0
 (.loop
 (.seq
 (.seq
 (.reg [.p (o1 nilckG r0) pushW, .p (o1 (faddrG 0) l0) pushW, .p (o1 load1G l0) pushW, .p (o2 (iaddrG 4) l0 r1) pushW, .p (o1 (faddrG 0) l0) pushW, .p (o1 load1G l0) pushW, .p (o2 (eqG eqIV false) l0 (ctK (.int .i64 (Int.ofNat 9)))) w26])
 (.cond r26
 .skip
 (.exit 0)))
 (.block 1
 (.seq
 (.reg [.p (o1 mvG (ctK (.int .i64 (Int.ofNat 0)))) w6])
 (.block 2
 (.loop
 (.seq
 (.seq
 (.reg [.p (o1 nilckG r0) pushW, .p (o1 (faddrG 2) l0) pushW, .p (o1 (faddrG 4) l0) pushW, .p (o1 load1G l0) pushW, .p (o1 lenLG l0) pushW, .p (o2 (binG (cmpB .lss ltI)) r6 l0) w34])
 (.cond r34
 .skip
 (.exit 2)))
 (.seq
 (.block 3
 (.seq
 (.drw [.p (o1 nilckG r0) pushW, .p (o1 (faddrG 2) l0) pushW, .p (o1 (faddrG 4) l0) pushW, .p (o1 load1G l0) pushW, .p (o2 (iaddrG 5) l0 r6) pushW, .p (o1 (faddrG 0) l0) pushW, .p (o1 load1G l0) pushW, .p (o1 nilckG r0) pushW, .p (o1 (faddrG 1) l0) pushW, .p (o1 load1G l0) pushW, .p (o2 (iaddrG 4) l0 r1) pushW, .p (o1 (faddrG 1) l0) pushW, .p (o1 load1G l0) pushW, .p (o2 (eqG eqSV false) l6 l0) w54] [])
 (.cond r54
 (.seq
 (.reg [.p (o1 nilckG r0) pushW, .p (o1 (faddrG 8) l0) pushW, .p (o1 load1G l0) pushW, .p (o2 (iaddrG 1) l0 r6) pushW, .p (o1 load1G l0) pushW, .p (o1 mvG l0) w1])
 (.exit 2))
 .skip)))
 (.reg [.p (o1 mvG r6) pushW, .p (o2 (binG addB) l0 (ctK (.int .i64 (Int.ofNat 1)))) pushW, .p (o1 mvG l0) w6]))))))))))
 (.seq
 (.reg [.p (o1 mvG r1) w4, .p (o1 mvG (ctK (.bool true))) w5])
 .ret)))) }
theorem kf148_ok : (compFn Tryz.prog Tryz.f148 [[0, 1], [1], [0, 1], [0, 1], [0, 1, 6], [0, 1, 6], [0, 1, 6]]).bind (toKFn [7, 8, 9, 10, 11, 12, 13, 14, 15, 16, 18, 19, 20, 21, 22, 23, 24, 25, 27, 28, 29, 30, 31, 32, 33, 35, 36, 37, 38, 39, 40, 41, 42, 43, 44, 45, 46, 47, 48, 49, 50, 51, 52, 53, 55, 56, 57, 58, 59, 60, 61, 62] 2) = some kf148 := by kernel_rfl
noncomputable def kf172 : KFn := { params := [w0, w1], res := [(.s r4), (.s r5)], body :=
 (.seq
 (.reg [.p (o1 boxG r0) w2, .p (o1 mvG (ctK (.int .i64 (Int.ofNat 0)))) w4, .p (o1 mvG (ctK (.bool false))) w5])
 (.seq
 (.seq
 (.reg [.p (o1 mvG (ctK (.int .i64 (Int.ofNat 0)))) w6])
 (.block 0
 (.loop
 (.seq
 (.seq
 (.reg [.p (o1 (faddrG 2) r2) pushW, .p (o1 load1G l0) pushW, .p (o1 lenLG l0) pushW, .p (o2 (binG (cmpB .lss ltI)) r6 l0) w11])
 (.cond r11
 .skip
 (.exit 0)))
 (.seq
 (.block 1
 (.seq
 (.reg [.p (o1 (faddrG 2) r2) pushW, .p (o1 load1G l0) pushW, .p (o2 (iaddrG 1) l0 r6) pushW, .p (o1 load1G l0) pushW, .p (o2 (eqG eqSV false) l0 r1) w20])
 (.cond r20
 (.seq
 (.reg [.p (o1 (faddrG 3) r2) pushW, .p (o1 load1G l0) pushW, .p (o2 (iaddrG 1) l0 r6) pushW, .p (o1 load1G l0) pushW, .p (o1 mvG l0) w4, .p (o1 mvG (ctK (.bool true))) w5])
 .ret)
 .skip)))
 (.reg [.p (o1 mvG r6) pushW, .p (o2 (binG addB) l0 (ctK (.int .i64 (Int.ofNat 1)))) pushW, .p (o1 mvG l0) w6]))))))
 (.seq
 (.reg [.p (o1 mvG (ctK (.int .i64 (Int.ofNat 0)))) w4, .p (o1 mvG (ctK (.bool false))) w5])
 .ret))) }
theorem kf172_ok : (compFn Tryz.prog Tryz.f172 [[], [1, 2, 6], [1, 2, 6], [1, 2, 6]]).bind (toKFn [7, 8, 9, 10, 12, 13, 14, 15, 16, 17, 18, 19, 21, 22, 23, 24, 25] 2) = some kf172 := by kernel_rfl
noncomputable def kf146 : KFn := { params := [w0, w1, w2], res := [(.s r6), (.s r7)], body :=
 (.seq
 (.reg [.p (o1 mvG (ctK (.int .i64 (Int.ofNat 0)))) w6, .p (o1 mvG (ctK (.int .i64 (Int.ofNat 0)))) w7])
 (.seq
 (.reg [.p (callO 168 [r0, r1]) pushW, .p (o1 (extG 0) l0) pushW, .p (o1 (extG 1) l1) pushW, .p (allocO [(.str 0 0), .snil, (.int .i64 (Int.ofNat 0))]) w8, .p (o2 (storeG 3) r8 l1) noW, .p (o1 mvG l0) w9])
 (.seq
 (.seq
 (.reg [.p (o1 notG r9) pushW, .g l0 true false none (o1 mvG r1) pushW, .g l1 true false none (callO 77 [l0]) pushW, .g l2 true false none (o1 notG l0) pushW, .p (o3 pickG l3 l0 (ctK (.bool false))) w27])
 (.cond r27
 (.seq
 (.reg [.p (o1 mvG (ctK (.int .i64 (Int.ofNat 0)))) w6, .p (o1 mvG (ctK (.int .i64 (Int.ofNat 15)))) w7])
 .ret)
 .skip))
 (.seq
 (.seq
 (.reg [.p (o1 mvG r9) w28])
 (.cond r28
 (.seq
 (.seq
 (.reg [.p (o1 lenLG r2) pushW, .p (o1 (faddrG 1) r8) pushW, .p (o1 load1G l0) pushW, .p (o1 lenLG l0) pushW, .p (o2 (eqG eqIV true) l3 l0) w34])
 (.cond r34
 (.seq
 (.reg [.p (o1 mvG (ctK (.int .i64 (Int.ofNat 0)))) w6, .p (o1 mvG (ctK (.int .i64 (Int.ofNat 18)))) w7])
 .ret)
 .skip))
 (.seq
 (.seq
 (.reg [.p (o1 mvG (ctK (.int .i64 (Int.ofNat 0)))) w10])
 (.block 0
 (.loop
 (.seq
 (.seq
 (.reg [.p (o1 lenLG r2) pushW, .p (o2 (binG (cmpB .lss ltI)) r10 l0) w38])
 (.cond r38
 .skip
 (.exit 0)))
 (.seq
 (.block 1
 (.seq
 (.drw [.p (o2 (iaddrG 1) r2 r10) pushW, .p (o1 load1G l0) pushW, .p (o1 (faddrG 1) r8) pushW, .p (o1 load1G l0) pushW, .p (o2 (iaddrG 1) l0 r10) pushW, .p (o1 load1G l0) pushW, .m (callO 169 [r0, l4, l0]) pushW (some []), .p (o1 (extG 0) l0) pushW, .p (o1 (extG 1) l1) pushW, .p (o1 mvG l1) w11] [])
 (.seq
 (.reg [.p (o1 notG r11) w56])
 (.cond r56
 (.seq
 (.reg [.p (o1 mvG (ctK (.int .i64 (Int.ofNat 0)))) w6, .p (o1 mvG (ctK (.int .i64 (Int.ofNat 17)))) w7])
 .ret)
 .skip))))
 (.reg [.p (o1 mvG r10) pushW, .p (o2 (binG addB) l0 (ctK (.int .i64 (Int.ofNat 1)))) pushW, .p (o1 mvG l0) w10]))))))
 (.seq
 (.reg [.p (o1 (faddrG 2) r8) pushW, .p (o1 load1G l0) pushW, .p (o1 mvG l0) w6, .p (o1 mvG (ctK (.int .i64 (Int.ofNat 0)))) w7])
 .ret)))
 .skip))
 (.seq
 (.seq
 (.reg [.p (o1 lenLG r2) pushW, .p (callO 170 [r1]) pushW, .p (o2 (eqG eqIV true) l1 l0) w63])
 (.cond r63
 (.seq
 (.reg [.p (o1 mvG (ctK (.int .i64 (Int.ofNat 0)))) w6, .p (o1 mvG (ctK (.int .i64 (Int.ofNat 18)))) w7])
 .ret)
 .skip))
 (.seq
 (.reg [.p (o2 (iaddrG 1) r2 (ctK (.int .i64 (Int.ofNat 0)))) pushW, .p (o1 load1G l0) pushW, .p (callO 116 [r0, l0]) pushW, .p (allocO [(.int .i64 (Int.ofNat 0)), (.str 0 0), .snil, .snil]) w13, .p (o2 (storeG 4) r13 l0) noW])
 (.seq
 (.reg [.p (o1 (loadnG 4) r13) pushW, .p (allocO [(.int .i64 (Int.ofNat 0)), (.str 0 0), .snil, .snil]) w14, .p (o2 (storeG 4) r14 l0) noW])
 (.seq
 (.seq
 (.reg [.p (o1 lenLG r2) pushW, .p (o2 (eqG eqIV false) l0 (ctK (.int .i64 (Int.ofNat 2)))) w72])
 (.cond r72
 (.reg [.p (o2 (iaddrG 1) r2 (ctK (.int .i64 (Int.ofNat 1)))) pushW, .p (o1 load1G l0) pushW, .p (callO 116 [r0, l0]) pushW, .p (o2 (storeG 4) r14 l0) noW])
 .skip))
 (.seq
 (.reg [.p (o1 (loadnG 4) r13) pushW, .p (o1 (loadnG 4) r14) pushW, .p (callO 171 [r0, r1, r2, l1, l0]) pushW, .p (o1 (extG 0) l0) pushW, .p (o1 (extG 1) l1) pushW, .p (o1 mvG l1) w6, .p (o1 mvG l0) w7])
 .ret))))))))) }
theorem kf146_ok : (compFn Tryz.prog Tryz.f146 [[0, 1, 2, 8, 9], [0, 1, 2], [0, 2, 8], [8], [0, 2, 8, 10], [0, 2, 8, 10], [0, 2, 8, 10], [0, 1, 2], [0, 1, 2, 13, 14]]).bind (toKFn [12, 15, 16, 17, 18, 19, 20, 21, 22, 23, 24, 25, 26, 29, 30, 31, 32, 33, 35, 36, 37, 39, 40, 41, 42, 43, 44, 45, 46, 47, 48, 49, 50, 51, 52, 53, 54, 55, 57, 58, 59, 60, 61, 62, 64, 65, 66, 67, 68, 69, 70, 71, 73, 74, 75, 76, 77, 78, 79, 80, 81, 82, 83, 84, 85] 3) = some kf146 := by kernel_rfl
noncomputable def kf168 : KFn := { params := [w0, w1], res := [(.cn r4 3), (.s r5)], body :=
 (.seq
 (.reg [.p (allocO [(.str 0 0), .snil, (.int .i64 (Int.ofNat 0))]) w4, .p (o1 mvG (ctK (.bool false))) w5])
 (.seq
 (.seq
 (.reg [.p (o1 mvG (ctK (.int .i64 (Int.ofNat 0)))) w6])
 (.block 0
 (.loop
 (.seq
 (.seq
 (.reg [.p (o1 nilckG r0) pushW, .p (o1 (faddrG 10) l0) pushW, .p (o1 load1G l0) pushW, .p (o1 lenLG l0) pushW, .p (o2 (binG (cmpB .lss ltI)) r6 l0) w13])
 (.cond r13
 .skip
 (.exit 0)))
 (.seq
 (.block 1
 (.seq
 (.reg [.p (o1 nilckG r0) pushW, .p (o1 (faddrG 10) l0) pushW, .p (o1 load1G l0) pushW, .p (o2 (iaddrG 3) l0 r6) pushW, .p (o1 (faddrG 0) l0) pushW, .p (o1 load1G l0) pushW, .p (o2 (eqG eqSV false) l0 r1) w25])
 (.cond r25
 (.seq
 (.reg [.p (o1 nilckG r0) pushW, .p (o1 (faddrG 10) l0) pushW, .p (o1 load1G l0) pushW, .p (o2 (iaddrG 3) l0 r6) pushW, .p (o1 (loadnG 3) l0) pushW, .p (o2 (storeG 3) r4 l0) noW, .p (o1 mvG (ctK (.bool true))) w5])
 .ret)
 .skip)))
 (.reg [.p (o1 mvG r6) pushW, .p (o2 (binG addB) l0 (ctK (.int .i64 (Int.ofNat 1)))) pushW, .p (o1 mvG l0) w6]))))))
 (.seq
 (.reg [.p (buildO [(.str 0 0), .snil, (.int .i64 (Int.ofNat 0))] []) pushW, .p (o2 (storeG 3) r4 l0) noW, .p (o1 mvG (ctK (.bool false))) w5])
 .ret))) }
theorem kf168_ok : (compFn Tryz.prog Tryz.f168 [[4], [0, 1, 4, 6], [0, 1, 4, 6], [0, 1, 4, 6]]).bind (toKFn [7, 8, 9, 10, 11, 12, 14, 15, 16, 17, 18, 19, 20, 21, 22, 23, 24, 26, 27, 28, 29, 30, 31, 32, 33] 2) = some kf168 := by kernel_rfl
noncomputable def kf169 : KFn := { params := [w0, w1, w2], res := [(.s r6), (.s r7)], body :=
 (.seq
 (.reg [.p (o1 mvG (ctK (.bool false))) w6, .p (o1 mvG (ctK (.int .i64 (Int.ofNat 0)))) w7])
 (.seq
 (.seq
 (.reg [.p (o2 (binG (cmpB .lss ltI)) r1 (ctK (.int .i64 (Int.ofNat 0)))) pushW, .g l0 false false none (o1 mvG r1) pushW, .g l1 false false none (o1 mvG r0) pushW, .g l2 false false none (o1 nilckG l0) pushW, .g l3 false false none (o1 (faddrG 0) l0) pushW, .g l4 false false none (o1 load1G l0) pushW, .g l5 false false none (o1 lenLG l0) pushW, .g l6 false false none (o2 (binG (cmpB .geq geI)) l5 l0) pushW, .p (o3 pickG l7 (ctK (.bool true)) l0) pushW, .g l0 false false none (o1 mvG r2) pushW, .g l1 false false none (o2 (binG (cmpB .lss ltI)) l0 (ctK (.int .i64 (Int.ofNat 0)))) pushW, .p (o3 pickG l2 (ctK (.bool true)) l0) pushW, .g l0 false false none (o1 mvG r2) pushW, .g l1 false false none (o1 mvG r0) pushW, .g l2 false false none (o1 nilckG l0) pushW, .g l3 false false none (o1 (faddrG 0) l0) pushW, .g l4 false false none (o1 load1G l0) pushW, .g l5 false false none (o1 lenLG l0) pushW, .g l6 false false none (o2 (binG (cmpB .geq geI)) l5 l0) pushW, .p (o3 pickG l7 (ctK (.bool true)) l0) w33])
 (.cond r33
 (.seq
 (.reg [.p (o1 mvG (ctK (.bool false))) w6, .p (o1 mvG (ctK (.int .i64 (Int.ofNat 0)))) w7])
 .ret)
 .skip))
 (.seq
 (.reg [.p (buildO [.pnil, .snil] [(0, 1, r0)]) pushW, .p (o1 boxG l0) pushW, .p (o1 mvG l0) w8])
 (.seq
 (.reg [.p (callO 184 [r8, r1, r2]) pushW, .p (o1 mvG l0) w9])
 (.seq
 (.drw [.p (o1 nilckG r8) pushW, .p (o1 (faddrG 1) l0) pushW, .p (o1 load1G l0) pushW, .p (o1 lenLG l0) pushW, .p (o1 mvG r9) w6, .p (o1 mvG l0) w7] [])
 .ret))))) }
theorem kf169_ok : (compFn Tryz.prog Tryz.f169 [[0, 1, 2]]).bind (toKFn [10, 11, 12, 13, 14, 15, 16, 17, 18, 19, 20, 21, 22, 23, 24, 25, 26, 27, 28, 29, 30, 31, 32, 34, 35, 36, 37, 38, 39, 40, 41, 42, 43, 44, 45, 46] 3) = some kf169 := by kernel_rfl
noncomputable def kf184 : KFn := { params := [w0, w1, w2], res := [(.s r6)], body :=
 (.seq
 (.reg [.p (o1 mvG (ctK (.bool false))) w6])
 (.seq
 (.seq
 (.reg [.p (o2 (eqG eqIV false) r1 r2) w20])
 (.cond r20
 (.seq
 (.reg [.p (o1 mvG (ctK (.bool true))) w6])
 .ret)
 .skip))
 (.seq
 (.seq
 (.reg [.p (o1 mvG (ctK (.int .i64 (Int.ofNat 0)))) w7])
 (.block 0
 (.loop
 (.seq
 (.seq
 (.reg [.p (o1 nilckG r0) pushW, .p (o1 (faddrG 1) l0) pushW, .p (o1 load1G l0) pushW, .p (o1 lenLG l0) pushW, .p (o2 (binG (cmpB .lss ltI)) r7 l0) w27])
 (.cond r27
 .skip
 (.exit 0)))
 (.seq
 (.block 1
 (.seq
 (.reg [.p (o1 nilckG r0) pushW, .p (o1 (faddrG 1) l0) pushW, .p (o1 load1G l0) pushW, .p (o2 (iaddrG 2) l0 r7) pushW, .p (o1 (loadnG 2) l0) pushW, .p (buildO [(.int .i64 (Int.ofNat 0)), (.int .i64 (Int.ofNat 0))] [(0, 1, r1), (1, 1, r2)]) pushW, .p (o2 (eqG (slowEq (.many [.i, .i])) false) l1 l0) w40])
 (.cond r40
 (.seq
 (.reg [.p (o1 mvG (ctK (.bool true))) w6])
 .ret)
 .skip)))
 (.reg [.p (o1 mvG r7) pushW, .p (o2 (binG addB) l0 (ctK (.int .i64 (Int.ofNat 1)))) pushW, .p (o1 mvG l0) w7]))))))
 (.seq
 (.reg [.p (o1 nilckG r0) pushW, .p (o1 (faddrG 1) l0) pushW, .p (o1 load1G l0) pushW, .p (buildO [(.int .i64 (Int.ofNat 0)), (.int .i64 (Int.ofNat 0))] [(0, 1, r1), (1, 1, r2)]) pushW, .p (bslO 2 1 [(.int .i64 (Int.ofNat 0)), (.int .i64 (Int.ofNat 0))] [(0, 2, l0)]) pushW, .p (o2 (appG 2) l2 l0) pushW, .p (o1 nilckG r0) pushW, .p (o1 (faddrG 1) l0) pushW, .p (o2 (storeG 1) l0 l2) noW])
 (.seq
 (.drw [.p (o1 nilckG r0) pushW, .p (o1 (faddrG 0) l0) pushW, .p (o1 load1G l0) pushW, .m (callO 116 [l0, r1]) pushW none, .p (o1 nilckG r0) pushW, .p (o1 (faddrG 0) l0) pushW, .p (o1 load1G l0) pushW, .m (callO 116 [l0, r2]) pushW (some []), .p (allocO [(.int .i64 (Int.ofNat 0)), (.str 0 0), .snil, .snil]) w8, .p (allocO [(.int .i64 (Int.ofNat 0)), (.str 0 0), .snil, .snil]) w9, .p (o2 (storeG 4) r8 l4) noW, .p (o2 (storeG 4) r9 l0) noW] [])
 (.seq
 (.seq
 (.reg [.p (o1 (faddrG 0) r9) pushW, .p (o1 load1G l0) pushW, .p (o2 (eqG eqIV false) l0 (ctK (.int .i64 (Int.ofNat 6)))) w67])
 (.cond r67
 (.seq
 (.seq
 (.reg [.p (o1 (faddrG 0) r8) pushW, .p (o1 load1G l0) pushW, .p (o2 (eqG eqIV false) l0 (ctK (.int .i64 (Int.ofNat 6)))) w70])
 (.cond r70
 (.seq
 (.drw [.p (o1 (faddrG 3) r8) pushW, .p (o1 load1G l0) pushW, .p (o2 (iaddrG 1) l0 (ctK (.int .i64 (Int.ofNat 0)))) pushW, .p (o1 load1G l0) pushW, .p (o1 (faddrG 3) r9) pushW, .p (o1 load1G l0) pushW, .p (o2 (iaddrG 1) l0 (ctK (.int .i64 (Int.ofNat 0)))) pushW, .p (o1 load1G l0) pushW, .m (callO 184 [r0, l4, l0]) pushW (some []), .p (o1 mvG l0) w6] [])
 .ret)
 .skip))
 (.seq
 (.reg [.p (o1 nilckG r0) pushW, .p (o1 (faddrG 0) l0) pushW, .p (o1 load1G l0) pushW, .p (callO 148 [l0, r1]) pushW, .p (o1 (extG 0) l0) pushW, .p (o1 (extG 1) l1) pushW, .p (o1 mvG l1) w10])
 (.seq
 (.reg [.p (o1 (faddrG 3) r9) pushW, .p (o1 load1G l0) pushW, .p (o2 (iaddrG 1) l0 (ctK (.int .i64 (Int.ofNat 0)))) pushW, .p (o1 load1G l0) pushW, .p (callO 184 [r0, r10, l0]) pushW, .p (o1 mvG l0) w6])
 .ret)))
 .skip))
 (.seq
 (.seq
 (.reg [.p (o1 (faddrG 0) r8) pushW, .p (o1 load1G l0) pushW, .p (o1 (faddrG 0) r9) pushW, .p (o1 load1G l0) pushW, .p (o2 (eqG eqIV true) l2 l0) w101])
 (.cond r101
 (.seq
 (.reg [.p (o1 mvG (ctK (.bool false))) w6])
 .ret)
 .skip))
 (.seq
 (.seq
 (.reg [.p (o1 (faddrG 0) r8) pushW, .p (o1 load1G l0) w103])
 (.block 2
 (.seq
 (.seq
 (.reg [.p (o2 (eqG eqIV false) r103 (ctK (.int .i64 (Int.ofNat 4)))) pushW, .p (o1 mvG l0) w104])
 (.cond r104
 .skip
 (.reg [.p (o2 (eqG eqIV false) r103 (ctK (.int .i64 (Int.ofNat 5)))) pushW, .p (o1 mvG l0) w104])))
 (.cond r104
 (.seq
 (.drw [.p (o1 (faddrG 3) r8) pushW, .p (o1 load1G l0) pushW, .p (o2 (iaddrG 1) l0 (ctK (.int .i64 (Int.ofNat 0)))) pushW, .p (o1 load1G l0) pushW, .p (o1 (faddrG 3) r9) pushW, .p (o1 load1G l0) pushW, .p (o2 (iaddrG 1) l0 (ctK (.int .i64 (Int.ofNat 0)))) pushW, .p (o1 load1G l0) pushW, .m (callO 184 [r0, l4, l0]) pushW (some []), .p (o1 mvG l0) w6] [])
 .ret)
 (.seq
 (.reg [.p (o2 (eqG eqIV false) r103 (ctK (.int .i64 (Int.ofNat 7)))) pushW, .p (o1 mvG l0) w117])
 (.cond r117
 (.seq
 (.reg [.p (o1 mvG (ctK (.int .i64 (Int.ofNat 0)))) w12])
 (.block 3
 (.loop
 (.seq
 (.seq
 (.reg [.p (o1 (faddrG 2) r9) pushW, .p (o1 load1G l0) pushW, .p (o1 lenLG l0) pushW, .p (o2 (binG (cmpB .lss ltI)) r12 l0) w123])
 (.cond r123
 .skip
 (.exit 3)))
 (.seq
 (.block 4
 (.seq
 (.drw [.p (o1 (loadnG 4) r8) pushW, .p (o1 (faddrG 2) r9) pushW, .p (o1 load1G l0) pushW, .p (o2 (iaddrG 1) l0 r12) pushW, .p (o1 load1G l0) pushW, .m (callO 172 [l4, l0]) pushW (some []), .p (o1 (extG 0) l0) pushW, .p (o1 (extG 1) l1) pushW, .p (o1 mvG l1) w13, .p (o1 mvG l0) w14] [])
 (.seq
 (.reg [.p (o1 notG r14) pushW, .g l0 false false none (o1 mvG r0) pushW, .g l1 false false none (o1 mvG r13) pushW, .g l2 false false none (o1 (faddrG 3) r9) pushW, .g l3 false false none (o1 load1G l0) pushW, .g l4 false false none (o1 mvG r12) pushW, .g l5 false false none (o2 (iaddrG 1) l1 l0) pushW, .g l6 false false none (o1 load1G l0) pushW, .g l7 false false none (callO 184 [l6, l5, l0]) pushW, .g l8 false false none (o1 notG l0) pushW, .p (o3 pickG l9 (ctK (.bool true)) l0) w148])
 (.cond r148
 (.seq
 (.reg [.p (o1 mvG (ctK (.bool false))) w6])
 .ret)
 .skip))))
 (.reg [.p (o1 mvG r12) pushW, .p (o2 (binG addB) l0 (ctK (.int .i64 (Int.ofNat 1)))) pushW, .p (o1 mvG l0) w12]))))))
 (.seq
 (.reg [.p (o2 (eqG eqIV false) r103 (ctK (.int .i64 (Int.ofNat 8)))) pushW, .p (o1 mvG l0) w149])
 (.cond r149
 (.seq
 (.reg [.p (o1 mvG (ctK (.int .i64 (Int.ofNat 0)))) w15])
 (.block 5
 (.loop
 (.seq
 (.seq
 (.reg [.p (o1 (faddrG 2) r8) pushW, .p (o1 load1G l0) pushW, .p (o1 lenLG l0) pushW, .p (o2 (binG (cmpB .lss ltI)) r15 l0) w155])
 (.cond r155
 .skip
 (.exit 5)))
 (.seq
 (.block 6
 (.seq
 (.drw [.p (o1 (loadnG 4) r9) pushW, .p (o1 (faddrG 2) r8) pushW, .p (o1 load1G l0) pushW, .p (o2 (iaddrG 1) l0 r15) pushW, .p (o1 load1G l0) pushW, .m (callO 172 [l4, l0]) pushW (some []), .p (o1 (extG 0) l0) pushW, .p (o1 (extG 1) l1) pushW, .p (o1 mvG l1) w16, .p (o1 mvG l0) w17] [])
 (.seq
 (.reg [.p (o1 notG r17) pushW, .g l0 false false none (o1 mvG r0) pushW, .g l1 false false none (o1 (faddrG 3) r8) pushW, .g l2 false false none (o1 load1G l0) pushW, .g l3 false false none (o1 mvG r15) pushW, .g l4 false false none (o2 (iaddrG 1) l1 l0) pushW, .g l5 false false none (o1 load1G l0) pushW, .g l6 false false none (o1 mvG r16) pushW, .g l7 false false none (callO 184 [l6, l1, l0]) pushW, .g l8 false false none (o1 notG l0) pushW, .p (o3 pickG l9 (ctK (.bool true)) l0) w180])
 (.cond r180
 (.seq
 (.reg [.p (o1 mvG (ctK (.bool false))) w6])
 .ret)
 .skip))))
 (.reg [.p (o1 mvG r15) pushW, .p (o2 (binG addB) l0 (ctK (.int .i64 (Int.ofNat 1)))) pushW, .p (o1 mvG l0) w15]))))))
 .skip))))))))
 (.seq
 (.reg [.p (o1 mvG (ctK (.bool true))) w6])
 .ret))))))))) }
theorem kf184_ok : (compFn Tryz.prog Tryz.f184 [[0, 1, 2], [0, 1, 2], [0, 1, 2, 7], [0, 1, 2, 7], [0, 1, 2, 7], [0, 8, 9], [0, 1, 9], [0, 8, 9], [], [0, 8, 9, 103, 104], [0, 8, 9, 12], [0, 8, 9, 12], [0, 8, 9, 12], [0, 8, 9, 15], [0, 8, 9, 15], [0, 8, 9, 15]]).bind (toKFn [11, 18, 19, 21, 22, 23, 24, 25, 26, 28, 29, 30, 31, 32, 33, 34, 35, 36, 37, 38, 39, 41, 42, 43, 44, 45, 46, 47, 48, 49, 50, 51, 52, 53, 54, 55, 56, 57, 58, 59, 60, 61, 62, 63, 64, 65, 66, 68, 69, 71, 72, 73, 74, 75, 76, 77, 78, 79, 80, 81, 82, 83, 84, 85, 86, 87, 88, 89, 90, 91, 92, 93, 94, 95, 96, 97, 98, 99, 100, 102, 105, 106, 107, 108, 109, 110, 111, 112, 113, 114, 115, 116, 118, 119, 120, 121, 122, 124, 125, 126, 127, 128, 129, 130, 131, 132, 133, 134, 135, 136, 137, 138, 139, 140, 141, 142, 143, 144, 145, 146, 147, 150, 151, 152, 153, 154, 156, 157, 158, 159, 160, 161, 162, 163, 164, 165, 166, 167, 168, 169, 170, 171, 172, 173, 174, 175, 176, 177, 178, 179] 3) = some kf184 := by kernel_rfl
noncomputable def kf170 : KFn := { params := [w0], res := [(.s r2)], body :=
 (.seq
 (.reg [.p (o1 mvG (ctK (.int .i64 (Int.ofNat 0)))) w2])
 (.seq
 (.seq
 (.reg [.p (o1 mvG r0) w3])
 (.block 0
 (.seq
 (.seq
 (.reg [.p (o2 (eqG eqSV false) r3 (ctK (.str 3 7234924))) pushW, .p (o1 mvG l0) w4])
 (.cond r4
 .skip
 (.seq
 (.reg [.p (o2 (eqG eqSV false) r3 (ctK (.str 3 7630702))) pushW, .p (o1 mvG l0) w4])
 (.cond r4
 .skip
 (.seq
 (.reg [.p (o2 (eqG eqSV false) r3 (ctK (.str 2 14441))) pushW, .p (o1 mvG l0) w4])
 (.cond r4
 .skip
 (.seq
 (.reg [.p (o2 (eqG eqSV false) r3 (ctK (.str 3 3551593))) pushW, .p (o1 mvG l0) w4])
 (.cond r4
 .skip
 (.seq
 (.reg [.p (o2 (eqG eqSV false) r3 (ctK (.str 3 3289961))) pushW, .p (o1 mvG l0) w4])
 (.cond r4
 .skip
 (.seq
 (.reg [.p (o2 (eqG eqSV false) r3 (ctK (.str 2 14453))) pushW, .p (o1 mvG l0) w4])
 (.cond r4
 .skip
 (.seq
 (.reg [.p (o2 (eqG eqSV false) r3 (ctK (.str 3 3551605))) pushW, .p (o1 mvG l0) w4])
 (.cond r4
 .skip
 (.seq
 (.reg [.p (o2 (eqG eqSV false) r3 (ctK (.str 3 3289973))) pushW, .p (o1 mvG l0) w4])
 (.cond r4
 .skip
 (.seq
 (.reg [.p (o2 (eqG eqSV false) r3 (ctK (.str 4 1954047348))) pushW, .p (o1 mvG l0) w4])
 (.cond r4
 .skip
 (.reg [.p (o2 (eqG eqSV false) r3 (ctK (.str 3 7561576))) pushW, .p (o1 mvG l0) w4])))))))))))))))))))
 (.cond r4
 (.seq
 (.reg [.p (o1 mvG (ctK (.int .i64 (Int.ofNat 1)))) w2])
 .ret)
 .skip))))
 (.seq
 (.reg [.p (o1 mvG (ctK (.int .i64 (Int.ofNat 2)))) w2])
 .ret))) }
theorem kf170_ok : (compFn Tryz.prog Tryz.f170 [[], [4]]).bind (toKFn [5, 6, 7, 8, 9, 10, 11, 12, 13, 14] 1) = some kf170 := by kernel_rfl
noncomputable def kf171 : KFn := { params := [w0, w1, w2, w3, w4], res := [(.s r10), (.s r11)], body :=
 (.seq
 (.reg [.p (o1 boxG r3) w8, .p (o1 boxG r4) w9, .p (o1 mvG (ctK (.int .i64 (Int.ofNat 0)))) w10, .p (o1 mvG (ctK (.int .i64 (Int.ofNat 0)))) w11])
 (.seq
 (.reg [.p (o1 mvG (ctK (.bool false))) w12, .p (o1 mvG (ctK (.int .i64 (Int.ofNat 2)))) w13])
 (.seq
 (.seq
 (.reg [.p (o1 mvG r1) w14])
 (.block 0
 (.seq
 (.reg [.p (o2 (eqG eqSV false) r14 (ctK (.str 3 7234924))) pushW, .p (o1 mvG l0) w18])
 (.cond r18
 (.reg [.p (o1 (faddrG 0) r8) pushW, .p (o1 load1G l0) pushW, .p (o2 (eqG eqIV false) l0 (ctK (.int .i64 (Int.ofNat 3)))) pushW, .g l0 false false none (o1 (faddrG 0) r8) pushW, .g l1 false false none (o1 load1G l0) pushW, .g l2 false false none (o2 (eqG eqIV false) l0 (ctK (.int .i64 (Int.ofNat 4)))) pushW, .p (o3 pickG l3 (ctK (.bool true)) l0) pushW, .g l0 false false none (o1 (faddrG 0) r8) pushW, .g l1 false false none (o1 load1G l0) pushW, .g l2 false false none (o2 (eqG eqIV false) l0 (ctK (.int .i64 (Int.ofNat 5)))) pushW, .p (o3 pickG l3 (ctK (.bool true)) l0) pushW, .p (o1 mvG l0) w12])
 (.seq
 (.reg [.p (o2 (eqG eqSV false) r14 (ctK (.str 3 7630702))) pushW, .p (o1 mvG l0) w33])
 (.cond r33
 (.reg [.p (o1 (faddrG 0) r8) pushW, .p (o1 load1G l0) pushW, .p (o2 (eqG eqIV false) l0 (ctK (.int .i64 (Int.ofNat 1)))) pushW, .p (o1 mvG l0) w12, .p (o1 mvG (ctK (.int .i64 (Int.ofNat 1)))) w13])
 (.seq
 (.seq
 (.reg [.p (o2 (eqG eqSV false) r14 (ctK (.str 3 6581857))) pushW, .p (o1 mvG l0) w38])
 (.cond r38
 .skip
 (.reg [.p (o2 (eqG eqSV false) r14 (ctK (.str 2 29295))) pushW, .p (o1 mvG l0) w38])))
 (.cond r38
 (.reg [.p (o1 (faddrG 0) r8) pushW, .p (o1 load1G l0) pushW, .p (o2 (eqG eqIV false) l0 (ctK (.int .i64 (Int.ofNat 1)))) pushW, .g l0 true false none (o1 (faddrG 0) r9) pushW, .g l1 true false none (o1 load1G l0) pushW, .g l2 true false none (o2 (eqG eqIV false) l0 (ctK (.int .i64 (Int.ofNat 1)))) pushW, .p (o3 pickG l3 l0 (ctK (.bool false))) pushW, .p (o1 mvG l0) w12, .p (o1 mvG (ctK (.int .i64 (Int.ofNat 1)))) w13])
 (.seq
 (.reg [.p (o2 (eqG eqSV false) r14 (ctK (.str 2 29029))) pushW, .p (o1 mvG l0) w49])
 (.cond r49
 (.reg [.p (o1 (faddrG 0) r8) pushW, .p (o1 load1G l0) pushW, .p (callO 185 [l0]) pushW, .g l0 true false none (o1 (faddrG 0) r8) pushW, .g l1 true false none (o1 load1G l0) pushW, .g l2 true false none (o1 (faddrG 0) r9) pushW, .g l3 true false none (o1 load1G l0) pushW, .g l4 true false none (o2 (eqG eqIV false) l2 l0) pushW, .p (o3 pickG l5 l0 (ctK (.bool false))) pushW, .p (o1 mvG l0) w12, .p (o1 mvG (ctK (.int .i64 (Int.ofNat 1)))) w13])
 (.seq
 (.reg [.p (o2 (eqG eqSV false) r14 (ctK (.str 2 29804))) pushW, .p (o1 mvG l0) w61])
 (.cond r61
 (.reg [.p (o1 (faddrG 0) r8) pushW, .p (o1 load1G l0) pushW, .p (o2 (eqG eqIV false) l0 (ctK (.int .i64 (Int.ofNat 2)))) pushW, .g l0 true false none (o1 (faddrG 0) r9) pushW, .g l1 true false none (o1 load1G l0) pushW, .g l2 true false none (o2 (eqG eqIV false) l0 (ctK (.int .i64 (Int.ofNat 2)))) pushW, .p (o3 pickG l3 l0 (ctK (.bool false))) pushW, .p (o1 mvG l0) w12, .p (o1 mvG (ctK (.int .i64 (Int.ofNat 1)))) w13])
 (.seq
 (.seq
 (.reg [.p (o2 (eqG eqSV false) r14 (ctK (.str 3 6579297))) pushW, .p (o1 mvG l0) w71])
 (.cond r71
 .skip
 (.seq
 (.reg [.p (o2 (eqG eqSV false) r14 (ctK (.str 3 6452595))) pushW, .p (o1 mvG l0) w71])
 (.cond r71
 .skip
 (.seq
 (.reg [.p (o2 (eqG eqSV false) r14 (ctK (.str 3 7107949))) pushW, .p (o1 mvG l0) w71])
 (.cond r71
 .skip
 (.seq
 (.reg [.p (o2 (eqG eqSV false) r14 (ctK (.str 3 7104627))) pushW, .p (o1 mvG l0) w71])
 (.cond r71
 .skip
 (.reg [.p (o2 (eqG eqSV false) r14 (ctK (.str 3 7497843))) pushW, .p (o1 mvG l0) w71])))))))))
 (.cond r71
 (.reg [.p (o1 (faddrG 0) r8) pushW, .p (o1 load1G l0) pushW, .p (o2 (eqG eqIV false) l0 (ctK (.int .i64 (Int.ofNat 2)))) pushW, .g l0 true false none (o1 (faddrG 0) r9) pushW, .g l1 true false none (o1 load1G l0) pushW, .g l2 true false none (o2 (eqG eqIV false) l0 (ctK (.int .i64 (Int.ofNat 2)))) pushW, .p (o3 pickG l3 l0 (ctK (.bool false))) pushW, .p (o1 mvG l0) w12])
 (.seq
 (.reg [.p (o2 (eqG eqSV false) r14 (ctK (.str 3 7627107))) pushW, .p (o1 mvG l0) w85])
 (.cond r85
 (.reg [.p (o1 (faddrG 0) r8) pushW, .p (o1 load1G l0) pushW, .p (o2 (eqG eqIV false) l0 (ctK (.int .i64 (Int.ofNat 3)))) pushW, .g l0 true false none (o1 (faddrG 0) r9) pushW, .g l1 true false none (o1 load1G l0) pushW, .g l2 true false none (o2 (eqG eqIV false) l0 (ctK (.int .i64 (Int.ofNat 3)))) pushW, .p (o3 pickG l3 l0 (ctK (.bool false))) pushW, .p (o1 mvG l0) w12, .p (o1 mvG (ctK (.int .i64 (Int.ofNat 3)))) w13])
 (.seq
 (.reg [.p (o2 (eqG eqSV false) r14 (ctK (.str 4 1954047348))) pushW, .p (o1 mvG l0) w95])
 (.cond r95
 (.reg [.p (o1 (faddrG 0) r8) pushW, .p (o1 load1G l0) pushW, .p (o2 (eqG eqIV false) l0 (ctK (.int .i64 (Int.ofNat 2)))) pushW, .g l0 false false none (o1 (faddrG 0) r8) pushW, .g l1 false false none (o1 load1G l0) pushW, .g l2 false false none (o2 (eqG eqIV false) l0 (ctK (.int .i64 (Int.ofNat 1)))) pushW, .p (o3 pickG l3 (ctK (.bool true)) l0) pushW, .p (o1 mvG l0) w12, .p (o1 mvG (ctK (.int .i64 (Int.ofNat 3)))) w13])
 (.seq
 (.reg [.p (o2 (eqG eqSV false) r14 (ctK (.str 3 7561576))) pushW, .p (o1 mvG l0) w105])
 (.cond r105
 (.reg [.p (o1 (faddrG 0) r8) pushW, .p (o1 load1G l0) pushW, .p (o2 (eqG eqIV false) l0 (ctK (.int .i64 (Int.ofNat 6)))) pushW, .p (o1 mvG l0) w12, .p (o1 mvG (ctK (.int .i64 (Int.ofNat 1)))) w13])
 (.seq
 (.seq
 (.reg [.p (o2 (eqG eqSV false) r14 (ctK (.str 2 29793))) pushW, .p (o1 mvG l0) w110])
 (.cond r110
 .skip
 (.seq
 (.reg [.p (o2 (eqG eqSV false) r14 (ctK (.str 3 7628135))) pushW, .p (o1 mvG l0) w110])
 (.cond r110
 .skip
 (.reg [.p (o2 (eqG eqSV false) r14 (ctK (.str 6 111546414232175))) pushW, .p (o1 mvG l0) w110])))))
 (.cond r110
 (.seq
 (.reg [.p (o1 (loadnG 4) r8) pushW, .p (o1 (loadnG 4) r9) pushW, .p (callO 186 [r0, r1, r2, l1, l0]) pushW, .p (o1 (extG 0) l0) pushW, .p (o1 (extG 1) l1) pushW, .p (o1 mvG l1) w10, .p (o1 mvG l0) w11])
 .ret)
 (.reg [.p (o1 (faddrG 0) r8) pushW, .p (o1 load1G l0) pushW, .p (o2 (eqG eqIV false) l0 (ctK (.int .i64 (Int.ofNat 2)))) pushW, .p (o1 mvG l0) w12])))))))))))))))))))))))
 (.seq
 (.seq
 (.reg [.p (o1 notG r12) w123])
 (.cond r123
 (.seq
 (.reg [.p (o1 mvG (ctK (.int .i64 (Int.ofNat 0)))) w10, .p (o1 mvG (ctK (.int .i64 (Int.ofNat 17)))) w11])
 .ret)
 .skip))
 (.seq
 (.reg [.p (callO 166 [r0, r13]) pushW, .p (o1 (extG 0) l0) pushW, .p (o1 (extG 1) l1) pushW, .p (o1 mvG l1) w10, .p (o1 mvG l0) w11])
 .ret))))) }
theorem kf171_ok : (compFn Tryz.prog Tryz.f171 [[0, 12, 13], [0, 1, 2, 8, 9, 13, 14, 38], [0, 1, 2, 8, 9, 13, 14, 71], [0, 1, 2, 8, 9, 13, 110], [0, 13]]).bind (toKFn [15, 16, 17, 19, 20, 21, 22, 23, 24, 25, 26, 27, 28, 29, 30, 31, 32, 34, 35, 36, 37, 39, 40, 41, 42, 43, 44, 45, 46, 47, 48, 50, 51, 52, 53, 54, 55, 56, 57, 58, 59, 60, 62, 63, 64, 65, 66, 67, 68, 69, 70, 72, 73, 74, 75, 76, 77, 78, 79, 80, 81, 82, 83, 84, 86, 87, 88, 89, 90, 91, 92, 93, 94, 96, 97, 98, 99, 100, 101, 102, 103, 104, 106, 107, 108, 109, 111, 112, 113, 114, 115, 116, 117, 118, 119, 120, 121, 122, 124, 125, 126, 127, 128] 5) = some kf171 := by kernel_rfl
noncomputable def kf185 : KFn := { params := [w0], res := [(.s r2)], body :=
 (.seq
 (.reg [.p (o1 mvG (ctK (.bool false))) w2])
 (.seq
 (.reg [.p (o2 (binG (cmpB .geq geI)) r0 (ctK (.int .i64 (Int.ofNat 1)))) pushW, .g l0 true false none (o1 mvG r0) pushW, .g l1 true false none (o2 (binG (cmpB .leq leI)) l0 (ctK (.int .i64 (Int.ofNat 3)))) pushW, .p (o3 pickG l2 l0 (ctK (.bool false))) pushW, .p (o1 mvG l0) w2])
 .ret)) }
theorem kf185_ok : (compFn Tryz.prog Tryz.f185 []).bind (toKFn [3, 4, 5, 6, 7, 8] 1) = some kf185 := by kernel_rfl
noncomputable def kf186 : KFn := { params := [w0, w1, w2, w3, w4], res := [(.s r10), (.s r11)], body :=
 (.seq
 (.reg [.p (o1 boxG r3) w8, .p (o1 boxG r4) w9, .p (o1 mvG (ctK (.int .i64 (Int.ofNat 0)))) w10, .p (o1 mvG (ctK (.int .i64 (Int.ofNat 0)))) w11])
 (.seq
 (.block 0
 (.seq
 (.reg [.p (o2 (eqG eqSV false) r1 (ctK (.str 2 29793))) pushW, .g l0 true false none (o1 (faddrG 0) r8) pushW, .g l1 true false none (o1 load1G l0) pushW, .g l2 true false none (o2 (eqG eqIV false) l0 (ctK (.int .i64 (Int.ofNat 4)))) pushW, .p (o3 pickG l3 l0 (ctK (.bool false))) pushW, .g l0 true false none (o1 (faddrG 0) r9) pushW, .g l1 true false none (o1 load1G l0) pushW, .g l2 true false none (o2 (eqG eqIV false) l0 (ctK (.int .i64 (Int.ofNat 2)))) pushW, .p (o3 pickG l3 l0 (ctK (.bool false))) pushW, .p (o1 mvG l0) w12])
 (.cond r12
 (.seq
 (.reg [.p (o1 (faddrG 3) r8) pushW, .p (o1 load1G l0) pushW, .p (o2 (iaddrG 1) l0 (ctK (.int .i64 (Int.ofNat 0)))) pushW, .p (o1 load1G l0) pushW, .p (o1 mvG l0) w10, .p (o1 mvG (ctK (.int .i64 (Int.ofNat 0)))) w11])
 .ret)
 (.seq
 (.reg [.p (o2 (eqG eqSV false) r1 (ctK (.str 3 7628135))) pushW, .g l0 true false none (o1 (faddrG 0) r8) pushW, .g l1 true false none (o1 load1G l0) pushW, .g l2 true false none (o2 (eqG eqIV false) l0 (ctK (.int .i64 (Int.ofNat 5)))) pushW, .p (o3 pickG l3 l0 (ctK (.bool false))) pushW, .g l0 true false none (o1 (faddrG 0) r9) pushW, .g l1 true false none (o1 load1G l0) pushW, .g l2 true false none (o2 (eqG eqIV false) l0 (ctK (.int .i64 (Int.ofNat 3)))) pushW, .p (o3 pickG l3 l0 (ctK (.bool false))) pushW, .g l0 true false none (o1 mvG r0) pushW, .g l1 true false none (o1 (faddrG 3) r8) pushW, .g l2 true false none (o1 load1G l0) pushW, .g l3 true false none (o2 (iaddrG 1) l0 (ctK (.int .i64 (Int.ofNat 0)))) pushW, .g l4 true false none (o1 load1G l0) pushW, .g l5 true false none (callO 116 [l4, l0]) pushW, .g l6 true false none (o1 (fld1G 0) l0) pushW, .g l7 true false none (o2 (eqG eqIV true) l0 (ctK (.int .i64 (Int.ofNat 6)))) pushW, .p (o3 pickG l8 l0 (ctK (.bool false))) pushW, .p (o1 mvG l0) w29])
 (.cond r29
 (.seq
 (.reg [.p (o1 (faddrG 3) r8) pushW, .p (o1 load1G l0) pushW, .p (o2 (iaddrG 1) l0 (ctK (.int .i64 (Int.ofNat 0)))) pushW, .p (o1 load1G l0) pushW, .p (callO 191 [r0, l0]) pushW, .p (o1 (extG 0) l0) pushW, .p (o1 (extG 1) l1) pushW, .p (o1 mvG l1) w10, .p (o1 mvG l0) w11])
 .ret)
 (.seq
 (.drw [.p (o2 (eqG eqSV false) r1 (ctK (.str 6 111546414232175))) pushW, .g l0 true false none (o1 (faddrG 0) r8) pushW, .g l1 true false none (o1 load1G l0) pushW, .g l2 true false none (o2 (eqG eqIV false) l0 (ctK (.int .i64 (Int.ofNat 6)))) pushW, .p (o3 pickG l3 l0 (ctK (.bool false))) pushW, .g l0 true false none (o1 mvG r2) pushW, .g l1 true false none (o2 (iaddrG 1) l0 (ctK (.int .i64 (Int.ofNat 1)))) pushW, .g l2 true false none (o1 load1G l0) pushW, .g l3 true false none (o1 (faddrG 3) r8) pushW, .g l4 true false none (o1 load1G l0) pushW, .g l5 true false none (o2 (iaddrG 1) l0 (ctK (.int .i64 (Int.ofNat 0)))) pushW, .g l6 true false none (o1 load1G l0) pushW, .g l7 true false none (o2 (eqG eqIV false) l4 l0) pushW, .p (o3 pickG l8 l0 (ctK (.bool false))) pushW, .p (o1 mvG l0) w60] [])
 (.cond r60
 (.seq
 (.reg [.p (o1 (faddrG 3) r8) pushW, .p (o1 load1G l0) pushW, .p (o2 (iaddrG 1) l0 (ctK (.int .i64 (Int.ofNat 0)))) pushW, .p (o1 load1G l0) pushW, .p (o1 mvG l0) w10, .p (o1 mvG (ctK (.int .i64 (Int.ofNat 0)))) w11])
 .ret)
 .skip)))))))
 (.seq
 (.reg [.p (o1 mvG (ctK (.int .i64 (Int.ofNat 0)))) w10, .p (o1 mvG (ctK (.int .i64 (Int.ofNat 17)))) w11])
 .ret))) }
theorem kf186_ok : (compFn Tryz.prog Tryz.f186 [[]]).bind (toKFn [13, 14, 15, 16, 17, 18, 19, 20, 21, 22, 23, 24, 25, 26, 27, 28, 30, 31, 32, 33, 34, 35, 36, 37, 38, 39, 40, 41, 42, 43, 44, 45, 46, 47, 48, 49, 50, 51, 52, 53, 54, 55, 56, 57, 58, 59, 61, 62, 63, 64, 65, 66, 67, 68, 69, 70, 71, 72, 73, 74, 75, 76, 77, 78, 79, 80, 81] 5) = some kf186 := by kernel_rfl
noncomputable def kf191 : KFn := { params := [w0, w1], res := [(.s r4), (.s r5)], body :=
 (.seq
 (.reg [.p (o1 mvG (ctK (.int .i64 (Int.ofNat 0)))) w4, .p (o1 mvG (ctK (.int .i64 (Int.ofNat 0)))) w5])
 (.seq
 (.reg [.p (o1 nilckG r0) pushW, .p (o1 (faddrG 1) l0) pushW, .p (o1 load1G l0) pushW, .p (o2 (iaddrG 4) l0 r1) pushW, .p (o1 (loadnG 4) l0) pushW, .p (bslO 4 1 [(.int .i64 (Int.ofNat 0)), (.str 0 0), .snil, .snil] [(0, 4, l0)]) pushW, .p (buildO [(.int .i64 (Int.ofNat 0)), (.str 0 0), .snil, .snil] [(0, 1, (ctK (.int .i64 (Int.ofNat 6)))), (3, 1, l0)]) pushW, .p (callO 48 [r0, l0]) pushW, .p (o1 (extG 0) l0) pushW, .p (o1 (extG 1) l1) pushW, .p (o1 mvG l1) w4, .p (o1 mvG l0) w5])
 .ret)) }
theorem kf191_ok : (compFn Tryz.prog Tryz.f191 []).bind (toKFn [6, 7, 8, 9, 10, 11, 12, 13, 14, 15, 16, 17, 18] 2) = some kf191 := by kernel_rfl
noncomputable def kf113 : KFn := { params := [w0, w1, w2], res := [], body :=
 (.seq
 (.reg [.p (o1 boxG r1) w4])
 (.seq
 (.reg [.p (o1 nilckG r0) pushW, .p (o1 (faddrG 4) l0) pushW, .p (o1 load1G l0) pushW, .p (o2 (eqG eqIV false) l0 (ctK (.int .i64 (Int.ofNat 0)))) w10])
 (.cond r10
 (.drw [.p (o1 (faddrG 1) r4) w14, .p (o1 load1G r14) pushW, .p (o1 nilckG r0) pushW, .p (o1 (faddrG 4) l0) w17, .p (o2 (storeG 1) r17 r2) noW, .p (o1 nilckG r0) pushW, .p (o1 (faddrG 3) l0) pushW, .p (o2 (storeG 1) l0 l3) noW] [([r17], [r14])])
 .skip))) }
theorem kf113_ok : (compFn Tryz.prog Tryz.f113 []).bind (toKFn [6, 7, 8, 9, 11, 12, 13, 15, 16, 18, 19] 3) = some kf113 := by kernel_rfl
noncomputable def kf114 : KFn := { params := [w0, w1, w2, w3], res := [], body :=
 (.seq
 (.reg [.p (o1 boxG r1) w5, .p (o1 boxG r2) w6])
 (.seq
 (.reg [.p (o1 (loadnG 3) r5) pushW, .p (o1 (faddrG 3) r6) pushW, .p (o1 load1G l0) pushW, .p (callO 147 [l2, l0]) pushW, .p (o1 mvG l0) w8])
 (.seq
 (.seq
 (.reg [.p (o2 (binG (cmpB .lss ltI)) r8 (ctK (.int .i64 (Int.ofNat 0)))) w15])
 (.cond r15
 (.seq
 (.reg [.p (o1 (loadnG 9) r6) pushW, .p (callO 113 [r0, l0, (ctK (.int .i64 (Int.ofNat 15)))]) pushW])
 .ret)
 .skip))
 (.seq
 (.seq
 (.reg [.p (o1 mvG (ctK (.int .i64 (Int.ofNat 0)))) w9])
 (.block 0
 (.loop
 (.seq
 (.seq
 (.reg [.p (o1 (faddrG 2) r5) pushW, .p (o1 load1G l0) pushW, .p (o1 lenLG l0) pushW, .p (o2 (binG (cmpB .lss ltI)) r9 l0) w23])
 (.cond r23
 .skip
 (.exit 0)))
 (.seq
 (.block 1
 (.seq
 (.reg [.p (o1 (faddrG 2) r5) pushW, .p (o1 load1G l0) pushW, .p (o2 (iaddrG 3) l0 r9) pushW, .p (o1 (faddrG 0) l0) pushW, .p (o1 load1G l0) pushW, .p (o2 (eqG eqIV false) l0 r8) w33])
 (.cond r33
 (.reg [.p (o1 (loadnG 9) r6) pushW, .p (callO 113 [r0, l0, (ctK (.int .i64 (Int.ofNat 17)))]) pushW])
 .skip)))
 (.reg [.p (o1 mvG r9) pushW, .p (o2 (binG addB) l0 (ctK (.int .i64 (Int.ofNat 1)))) pushW, .p (o1 mvG l0) w9]))))))
 (.seq
 (.reg [.p (o1 (faddrG 1) r5) pushW, .p (o1 load1G l0) pushW, .p (o2 (iaddrG 2) l0 r8) pushW, .p (o1 (faddrG 1) l0) pushW, .p (o1 load1G l0) pushW, .p (o2 (eqG eqIV true) l0 r3) w44])
 (.cond r44
 (.reg [.p (o1 (loadnG 9) r6) pushW, .p (callO 113 [r0, l0, (ctK (.int .i64 (Int.ofNat 17)))]) pushW])
 .skip)))))) }
theorem kf114_ok : (compFn Tryz.prog Tryz.f114 [[0, 3, 5, 6, 8], [0, 3, 5, 6, 8], [0, 3, 5, 6, 8, 9], [0, 3, 5, 6, 8, 9], [0, 3, 5, 6, 8, 9]]).bind (toKFn [10, 11, 12, 13, 14, 16, 17, 18, 19, 20, 21, 22, 24, 25, 26, 27, 28, 29, 30, 31, 32, 34, 35, 36, 37, 38, 39, 40, 41, 42, 43, 45, 46, 47] 4) = some kf114 := by kernel_rfl
noncomputable def kf115 : KFn := { params := [w0, w1, w2], res := [], body :=
 (.seq
 (.reg [.p (o1 boxG r1) w4])
 (.seq
 (.reg [.p (o1 mvG (ctK (.bool false))) w6])
 (.seq
 (.seq
 (.reg [.p (o1 mvG (ctK (.int .i64 (Int.ofNat 0)))) w7])
 (.block 0
 (.loop
 (.seq
 (.seq
 (.reg [.p (o1 nilckG r0) pushW, .p (o1 (faddrG 1) l0) pushW, .p (o1 load1G l0) pushW, .p (o1 lenLG l0) pushW, .p (o2 (binG (cmpB .lss ltI)) r7 l0) w14])
 (.cond r14
 .skip
 (.exit 0)))
 (.seq
 (.block 1
 (.drw [.p (o1 mvG r6) pushW, .g l0 false false none (o1 mvG r0) pushW, .g l1 false false none (o1 nilckG l0) pushW, .g l2 false false none (o1 (faddrG 1) l0) pushW, .g l3 false false none (o1 load1G l0) pushW, .g l4 false false none (o1 mvG r7) pushW, .g l5 false false none (o2 (iaddrG 1) l1 l0) pushW, .g l6 false false none (o1 load1G l0) pushW, .g l7 false false none (o1 (faddrG 3) r4) pushW, .g l8 false false none (o1 load1G l0) pushW, .g l9 false false none (o2 (eqG eqSV false) l2 l0) pushW, .p (o3 pickG l10 (ctK (.bool true)) l0) pushW, .p (o1 mvG l0) w6] []))
 (.reg [.p (o1 mvG r7) pushW, .p (o2 (binG addB) l0 (ctK (.int .i64 (Int.ofNat 1)))) pushW, .p (o1 mvG l0) w7]))))))
 (.seq
 (.seq
 (.reg [.p (o1 notG r6) w31])
 (.cond r31
 (.seq
 (.reg [.p (o1 (loadnG 9) r4) pushW, .p (callO 113 [r0, l0, (ctK (.int .i64 (Int.ofNat 15)))]) pushW])
 .ret)
 .skip))
 (.drw [.p (o1 nilckG r0) pushW, .p (o1 (faddrG 2) l0) pushW, .p (o1 load1G l0) pushW, .p (o1 (faddrG 3) r4) pushW, .p (o1 load1G l0) pushW, .p (buildO [(.str 0 0), (.int .i64 (Int.ofNat 0))] [(0, 1, l0), (1, 1, r2)]) pushW, .p (bslO 2 1 [(.str 0 0), (.int .i64 (Int.ofNat 0))] [(0, 2, l0)]) pushW, .p (o2 (appG 2) l4 l0) pushW, .p (o1 nilckG r0) pushW, .p (o1 (faddrG 2) l0) pushW, .p (o2 (storeG 1) l0 l2) noW] []))))) }
theorem kf115_ok : (compFn Tryz.prog Tryz.f115 [[0, 2, 4, 6], [0, 2, 4, 6, 7], [0, 2, 4, 6, 7], [0, 2, 4, 6, 7], [0, 2, 4]]).bind (toKFn [8, 9, 10, 11, 12, 13, 15, 16, 17, 18, 19, 20, 21, 22, 23, 24, 25, 26, 27, 28, 29, 30, 32, 33, 34, 35, 36, 37, 38, 39, 40, 41, 42, 43, 44, 45, 46, 47] 3) = some kf115 := by kernel_rfl
noncomputable def kf117 : KFn := { params := [w0, w1, w2, w3], res := [], body :=
 (.seq
 (.reg [.p (o1 boxG r1) w5, .p (o1 boxG r2) w6])
 (.seq
 (.reg [.p (o1 nilckG r0) pushW, .p (o1 (faddrG 0) l0) pushW, .p (o1 load1G l0) pushW, .p (callO 116 [l0, r3]) pushW, .p (allocO [(.int .i64 (Int.ofNat 0)), (.str 0 0), .snil, .snil]) w8, .p (o2 (storeG 4) r8 l0) noW])
 (.seq
 (.reg [.p (o1 (loadnG 3) r5) pushW, .p (allocO [(.int .i64 (Int.ofNat 0)), .snil, .snil]) w9, .p (o2 (storeG 3) r9 l0) noW])
 (.seq
 (.seq
 (.reg [.p (o1 (faddrG 0) r6) pushW, .p (o1 load1G l0) w21])
 (.block 0
 (.seq
 (.reg [.p (o2 (eqG eqIV false) r21 (ctK (.int .i64 (Int.ofNat 5)))) pushW, .p (o1 mvG l0) w22])
 (.cond r22
 (.seq
 (.seq
 (.reg [.p (o1 (faddrG 0) r8) pushW, .p (o1 load1G l0) pushW, .p (o2 (eqG eqIV true) l0 (ctK (.int .i64 (Int.ofNat 1)))) pushW, .g l0 true false none (o1 (faddrG 0) r8) pushW, .g l1 true false none (o1 load1G l0) pushW, .g l2 true false none (o2 (eqG eqIV true) l0 (ctK (.int .i64 (Int.ofNat 6)))) pushW, .p (o3 pickG l3 l0 (ctK (.bool false))) w31])
 (.cond r31
 (.seq
 (.reg [.p (o1 (loadnG 9) r6) pushW, .p (callO 113 [r0, l0, (ctK (.int .i64 (Int.ofNat 17)))]) pushW])
 .ret)
 .skip))
 (.seq
 (.reg [.p (o1 (loadnG 3) r5) pushW, .p (o1 (faddrG 4) r6) pushW, .p (o1 load1G l0) pushW, .p (callO 149 [l2, l0]) pushW, .p (o1 (extG 0) l0) pushW, .p (o1 (extG 1) l1) pushW, .p (o1 (extG 2) l2) pushW, .p (o1 mvG l2) w10, .p (o1 mvG l1) w11, .p (o1 mvG l0) w12])
 (.seq
 (.reg [.p (o1 (faddrG 0) r8) pushW, .p (o1 load1G l0) pushW, .p (o2 (eqG eqIV false) l0 (ctK (.int .i64 (Int.ofNat 6)))) pushW, .g l0 true false none (o1 mvG r12) pushW, .p (o3 pickG l1 l0 (ctK (.bool false))) w48])
 (.cond r48
 (.drw [.p (o1 (loadnG 3) r5) pushW, .p (o1 (faddrG 3) r8) pushW, .p (o1 load1G l0) pushW, .p (o2 (iaddrG 1) l0 (ctK (.int .i64 (Int.ofNat 0)))) pushW, .p (o1 load1G l0) pushW, .p (buildO [(.int .i64 (Int.ofNat 0)), .snil, (.int .i64 (Int.ofNat 0))] [(0, 1, r10), (1, 1, r11), (2, 1, l0)]) pushW, .m (callO 150 [l5, l0]) pushW (some []), .p (o2 (storeG 3) r9 l0) noW] [])
 .skip))))
 (.seq
 (.reg [.p (o2 (eqG eqIV false) r21 (ctK (.int .i64 (Int.ofNat 6)))) pushW, .p (o1 mvG l0) w58])
 (.cond r58
 (.seq
 (.reg [.p (o1 (loadnG 3) r5) pushW, .p (callO 151 [l0, r3]) pushW, .p (o2 (storeG 3) r9 l0) noW])
 (.seq
 (.reg [.p (o1 (faddrG 0) r8) pushW, .p (o1 load1G l0) pushW, .p (o2 (eqG eqIV false) l0 (ctK (.int .i64 (Int.ofNat 6)))) w65])
 (.cond r65
 (.drw [.p (o1 (loadnG 3) r5) pushW, .p (o1 (faddrG 3) r8) pushW, .p (o1 load1G l0) pushW, .p (o2 (iaddrG 1) l0 (ctK (.int .i64 (Int.ofNat 0)))) pushW, .p (o1 load1G l0) pushW, .m (callO 151 [l4, l0]) pushW (some []), .p (o2 (storeG 3) r9 l0) noW] [])
 .skip)))
 (.seq
 (.reg [.p (o2 (eqG eqIV false) r21 (ctK (.int .i64 (Int.ofNat 7)))) pushW, .p (o1 mvG l0) w72])
 (.cond r72
 (.seq
 (.seq
 (.reg [.p (o1 (faddrG 0) r8) pushW, .p (o1 load1G l0) pushW, .p (o2 (eqG eqIV true) l0 (ctK (.int .i64 (Int.ofNat 4)))) pushW, .g l0 true false none (o1 (faddrG 0) r8) pushW, .g l1 true false none (o1 load1G l0) pushW, .g l2 true false none (o2 (eqG eqIV true) l0 (ctK (.int .i64 (Int.ofNat 5)))) pushW, .p (o3 pickG l3 l0 (ctK (.bool false))) w81])
 (.cond r81
 (.seq
 (.reg [.p (o1 (loadnG 9) r6) pushW, .p (callO 113 [r0, l0, (ctK (.int .i64 (Int.ofNat 17)))]) pushW])
 .ret)
 .skip))
 (.drw [.p (o1 (loadnG 3) r5) pushW, .p (o1 (faddrG 3) r8) pushW, .p (o1 load1G l0) pushW, .p (o2 (iaddrG 1) l0 (ctK (.int .i64 (Int.ofNat 0)))) pushW, .p (o1 load1G l0) pushW, .m (callO 151 [l4, l0]) pushW (some []), .p (o2 (storeG 3) r9 l0) noW] []))
 (.seq
 (.reg [.p (o2 (eqG eqIV false) r21 (ctK (.int .i64 (Int.ofNat 8)))) pushW, .p (o1 mvG l0) w91])
 (.cond r91
 (.seq
 (.seq
 (.reg [.p (o1 (faddrG 0) r8) pushW, .p (o1 load1G l0) pushW, .p (o2 (eqG eqIV true) l0 (ctK (.int .i64 (Int.ofNat 8)))) w95])
 (.cond r95
 (.seq
 (.reg [.p (o1 (loadnG 9) r6) pushW, .p (callO 113 [r0, l0, (ctK (.int .i64 (Int.ofNat 17)))]) pushW])
 .ret)
 .skip))
 (.reg [.p (o1 (loadnG 3) r5) pushW, .p (o1 (loadnG 9) r6) pushW, .p (o1 (loadnG 4) r8) pushW, .p (callO 152 [r0, l2, l1, l0]) pushW]))
 .skip))))))))))
 (.seq
 (.reg [.p (o1 (loadnG 3) r9) pushW, .p (o1 (faddrG 5) r6) pushW, .p (o1 load1G l0) pushW, .p (callO 49 [r0, l2, l0]) pushW])
 (.seq
 (.reg [.p (o1 nilckG r0) pushW, .p (o1 (faddrG 4) l0) pushW, .p (o1 load1G l0) pushW, .p (o2 (eqG eqIV false) l0 (ctK (.int .i64 (Int.ofNat 0)))) w113])
 (.cond r113
 (.reg [.p (o1 (loadnG 3) r5) pushW, .p (o1 (faddrG 6) r6) pushW, .p (o1 load1G l0) pushW, .p (callO 49 [r0, l2, l0]) pushW])
 .skip))))))) }
theorem kf117_ok : (compFn Tryz.prog Tryz.f117 [[0, 5, 6, 9], [0, 5, 6, 8, 9], [0, 5, 6, 8, 9], [0, 5, 6, 8, 9]]).bind (toKFn [13, 14, 15, 16, 17, 18, 19, 20, 23, 24, 25, 26, 27, 28, 29, 30, 32, 33, 34, 35, 36, 37, 38, 39, 40, 41, 42, 43, 44, 45, 46, 47, 49, 50, 51, 52, 53, 54, 55, 56, 57, 59, 60, 61, 62, 63, 64, 66, 67, 68, 69, 70, 71, 73, 74, 75, 76, 77, 78, 79, 80, 82, 83, 84, 85, 86, 87, 88, 89, 90, 92, 93, 94, 96, 97, 98, 99, 100, 101, 102, 103, 104, 105, 106, 107, 108, 109, 110, 111, 112, 114, 115, 116, 117, 118] 4) = some kf117 := by kernel_rfl
noncomputable def kf149 : KFn := { params := [w0, w1], res := [(.s r4), (.s r5), (.s r6)], body :=
 (.seq
 (.reg [.p (o1 boxG r0) w2, .p (o1 mvG (ctK (.int .i64 (Int.ofNat 0)))) w4, .p (o1 mvG (ctK .snil)) w5, .p (o1 mvG (ctK (.bool false))) w6])
 (.seq
 (.seq
 (.reg [.p (o1 lenLG r1) pushW, .p (o2 (eqG eqIV true) l0 (ctK (.int .i64 (Int.ofNat 1)))) pushW, .g l0 false false none (o1 mvG r1) pushW, .g l1 false false none (o2 (iaddrG 1) l0 (ctK (.int .i64 (Int.ofNat 0)))) pushW, .g l2 false false none (o1 (faddrG 0) l0) pushW, .g l3 false false none (o1 load1G l0) pushW, .g l4 false false none (o1 lenLG l0) pushW, .g l5 false false none (o2 (eqG eqIV true) l0 (ctK (.int .i64 (Int.ofNat 1)))) pushW, .p (o3 pickG l6 (ctK (.bool true)) l0) pushW, .g l0 false false none (o1 mvG r1) pushW, .g l1 false false none (o2 (iaddrG 1) l0 (ctK (.int .i64 (Int.ofNat 0)))) pushW, .g l2 false false none (o1 (faddrG 0) l0) pushW, .g l3 false false none (o1 load1G l0) pushW, .g l4 false false none (o2 (iaddrG 7) l0 (ctK (.int .i64 (Int.ofNat 0)))) pushW, .g l5 false false none (o1 (faddrG 0) l0) pushW, .g l6 false false none (o1 load1G l0) pushW, .g l7 false false none (o2 (eqG eqIV true) l0 (ctK (.int .i64 (Int.ofNat 1)))) pushW, .p (o3 pickG l8 (ctK (.bool true)) l0) w28])
 (.cond r28
 (.seq
 (.reg [.p (o1 mvG (ctK (.int .i64 (Int.ofNat 0)))) w4, .p (o1 mvG (ctK .snil)) w5, .p (o1 mvG (ctK (.bool false))) w6])
 .ret)
 .skip))
 (.seq
 (.drw [.p (o1 (loadnG 3) r2) pushW, .p (o2 (iaddrG 1) r1 (ctK (.int .i64 (Int.ofNat 0)))) pushW, .p (o1 (faddrG 0) l0) pushW, .p (o1 load1G l0) pushW, .p (o2 (iaddrG 7) l0 (ctK (.int .i64 (Int.ofNat 0)))) pushW, .p (o1 (faddrG 1) l0) pushW, .p (o1 load1G l0) pushW, .m (callO 147 [l6, l0]) pushW (some []), .p (o1 mvG l0) w7] [])
 (.seq
 (.seq
 (.reg [.p (o2 (binG (cmpB .lss ltI)) r7 (ctK (.int .i64 (Int.negSucc 0)))) w39])
 (.cond r39
 (.seq
 (.reg [.p (o1 mvG (ctK (.int .i64 (Int.ofNat 0)))) w4, .p (o1 mvG (ctK .snil)) w5, .p (o1 mvG (ctK (.bool false))) w6])
 .ret)
 .skip))
 (.seq
 (.reg [.p (bslO 1 0 [] []) pushW, .p (o2 (iaddrG 1) r1 (ctK (.int .i64 (Int.ofNat 0)))) pushW, .p (o1 (faddrG 0) l0) pushW, .p (o1 load1G l0) pushW, .p (o2 (iaddrG 7) l0 (ctK (.int .i64 (Int.ofNat 0)))) pushW, .p (o1 (faddrG 2) l0) pushW, .p (o1 load1G l0) pushW, .p (o2 (appG 1) l6 l0) pushW, .p (o1 mvG r7) w4, .p (o1 mvG l0) w5, .p (o1 mvG (ctK (.bool true))) w6])
 .ret))))) }
theorem kf149_ok : (compFn Tryz.prog Tryz.f149 [[1, 2], [1, 7]]).bind (toKFn [8, 9, 10, 11, 12, 13, 14, 15, 16, 17, 18, 19, 20, 21, 22, 23, 24, 25, 26, 27, 29, 30, 31, 32, 33, 34, 35, 36, 37, 38, 40, 41, 42, 43, 44, 45, 46, 47, 48, 49] 2) = some kf149 := by kernel_rfl
noncomputable def kf150 : KFn := { params := [w0, w1], res := [(.cn r4 3)], body :=
 (.seq
 (.reg [.p (o1 boxG r0) w2, .p (o1 boxG r1) w3, .p (allocO [(.int .i64 (Int.ofNat 0)), .snil, .snil]) w4])
 (.seq
 (.drw [.p (bslO 3 0 [] []) w5, .p (o1 (faddrG 2) r2) pushW, .p (o1 load1G l0) pushW, .p (o2 (appG 3) r5 l0) pushW, .p (o1 (loadnG 3) r3) pushW, .p (bslO 3 1 [(.int .i64 (Int.ofNat 0)), .snil, (.int .i64 (Int.ofNat 0))] [(0, 3, l0)]) pushW, .p (o2 (appG 3) l2 l0) pushW, .p (o1 (faddrG 2) r2) pushW, .p (o2 (storeG 1) l0 l1) noW] [([r5], [r3])])
 (.seq
 (.reg [.p (o1 (loadnG 3) r2) pushW, .p (o2 (storeG 3) r4 l0) noW])
 .ret))) }
theorem kf150_ok : (compFn Tryz.prog Tryz.f150 []).bind (toKFn [6, 7, 8, 9, 10, 11, 12, 13] 2) = some kf150 := by kernel_rfl
noncomputable def kf151 : KFn := { params := [w0, w1], res := [(.cn r4 3)], body :=
 (.seq
 (.reg [.p (o1 boxG r0) w2, .p (allocO [(.int .i64 (Int.ofNat 0)), .snil, .snil]) w4])
 (.seq
 (.reg [.p (bslO 2 0 [] []) pushW, .p (o1 (faddrG 1) r2) pushW, .p (o1 load1G l0) pushW, .p (o2 (appG 2) l2 l0) pushW, .p (buildO [(.int .i64 (Int.ofNat 0)), .snil, .snil] [(0, 1, r1), (1, 1, l0)]) pushW, .p (allocO [(.int .i64 (Int.ofNat 0)), .snil, .snil]) w5, .p (o2 (storeG 3) r5 l0) noW])
 (.seq
 (.seq
 (.reg [.p (o1 mvG (ctK (.int .i64 (Int.ofNat 0)))) w6])
 (.block 0
 (.loop
 (.seq
 (.seq
 (.reg [.p (o1 (faddrG 2) r2) pushW, .p (o1 load1G l0) pushW, .p (o1 lenLG l0) pushW, .p (o2 (binG (cmpB .lss ltI)) r6 l0) w17])
 (.cond r17
 .skip
 (.exit 0)))
 (.seq
 (.block 1
 (.seq
 (.reg [.p (o1 (faddrG 2) r2) pushW, .p (o1 load1G l0) pushW, .p (o2 (iaddrG 3) l0 r6) pushW, .p (o1 (faddrG 0) l0) pushW, .p (o1 load1G l0) pushW, .p (o2 (binG (cmpB .geq geI)) l0 (ctK (.int .i64 (Int.ofNat 0)))) w26])
 (.cond r26
 (.drw [.p (o1 (faddrG 2) r5) pushW, .p (o1 load1G l0) pushW, .p (o1 (faddrG 2) r2) pushW, .p (o1 load1G l0) pushW, .p (o2 (iaddrG 3) l0 r6) pushW, .p (o1 (loadnG 3) l0) pushW, .p (bslO 3 1 [(.int .i64 (Int.ofNat 0)), .snil, (.int .i64 (Int.ofNat 0))] [(0, 3, l0)]) pushW, .p (o2 (appG 3) l5 l0) pushW, .p (o1 (faddrG 2) r5) pushW, .p (o2 (storeG 1) l0 l1) noW] [])
 .skip)))
 (.reg [.p (o1 mvG r6) pushW, .p (o2 (binG addB) l0 (ctK (.int .i64 (Int.ofNat 1)))) pushW, .p (o1 mvG l0) w6]))))))
 (.seq
 (.reg [.p (o1 (loadnG 3) r5) pushW, .p (o2 (storeG 3) r4 l0) noW])
 .ret)))) }
theorem kf151_ok : (compFn Tryz.prog Tryz.f151 [[4, 5], [2, 4, 5, 6], [2, 4, 5, 6], [2, 4, 5, 6]]).bind (toKFn [7, 8, 9, 10, 11, 12, 13, 14, 15, 16, 18, 19, 20, 21, 22, 23, 24, 25, 27, 28, 29, 30, 31, 32, 33, 34, 35, 36, 37] 2) = some kf151 := by kernel_rfl
noncomputable def kf152 : KFn := { params := [w0, w1, w2, w3], res := [], body :=
 (.seq
 (.reg [.p (o1 boxG r1) w5, .p (o1 boxG r2) w6, .p (o1 boxG r3) w7])
 (.seq
 (.seq
 (.reg [.p (o1 mvG (ctK (.int .i64 (Int.ofNat 0)))) w8])
 (.block 0
 (.loop
 (.seq
 (.seq
 (.reg [.p (o1 (faddrG 8) r6) pushW, .p (o1 load1G l0) pushW, .p (o1 lenLG l0) pushW, .p (o2 (binG (cmpB .lss ltI)) r8 l0) pushW, .g l0 true false none (o1 mvG r0) pushW, .g l1 true false none (o1 nilckG l0) pushW, .g l2 true false none (o1 (faddrG 4) l0) pushW, .g l3 true false none (o1 load1G l0) pushW, .g l4 true false none (o2 (eqG eqIV false) l0 (ctK (.int .i64 (Int.ofNat 0)))) pushW, .p (o3 pickG l5 l0 (ctK (.bool false))) w24])
 (.cond r24
 .skip
 (.exit 0)))
 (.seq
 (.block 1
 (.seq
 (.reg [.p (o1 (faddrG 8) r6) pushW, .p (o1 load1G l0) pushW, .p (o2 (iaddrG 2) l0 r8) pushW, .p (o1 (loadnG 2) l0) pushW, .p (allocO [(.str 0 0), .snil]) w9, .p (o2 (storeG 2) r9 l0) noW])
 (.seq
 (.reg [.p (o1 (loadnG 4) r7) pushW, .p (o1 (faddrG 0) r9) pushW, .p (o1 load1G l0) pushW, .p (callO 172 [l2, l0]) pushW, .p (o1 (extG 0) l0) pushW, .p (o1 (extG 1) l1) pushW, .p (o1 mvG l1) w10, .p (o1 mvG l0) w11])
 (.seq
 (.seq
 (.reg [.p (o1 mvG (ctK (.int .i64 (Int.ofNat 0)))) w12])
 (.block 2
 (.loop
 (.seq
 (.seq
 (.reg [.p (o2 (binG (cmpB .lss ltI)) r12 r8) w41])
 (.cond r41
 .skip
 (.exit 2)))
 (.seq
 (.block 3
 (.drw [.p (o1 mvG r11) pushW, .g l0 true false none (o1 (faddrG 8) r6) pushW, .g l1 true false none (o1 load1G l0) pushW, .g l2 true false none (o1 mvG r12) pushW, .g l3 true false none (o2 (iaddrG 2) l1 l0) pushW, .g l4 true false none (o1 (faddrG 0) l0) pushW, .g l5 true false none (o1 load1G l0) pushW, .g l6 true false none (o1 (faddrG 0) r9) pushW, .g l7 true false none (o1 load1G l0) pushW, .g l8 true false none (o2 (eqG eqSV true) l2 l0) pushW, .p (o3 pickG l9 l0 (ctK (.bool false))) pushW, .p (o1 mvG l0) w11] []))
 (.reg [.p (o1 mvG r12) pushW, .p (o2 (binG addB) l0 (ctK (.int .i64 (Int.ofNat 1)))) pushW, .p (o1 mvG l0) w12]))))))
 (.seq
 (.seq
 (.reg [.p (o1 notG r11) w57])
 (.cond r57
 (.seq
 (.reg [.p (o1 (loadnG 9) r6) pushW, .p (callO 113 [r0, l0, (ctK (.int .i64 (Int.ofNat 19)))]) pushW])
 .ret)
 .skip))
 (.drw [.p (o1 (loadnG 3) r5) pushW, .m (callO 151 [l0, r10]) pushW none, .p (o1 (faddrG 1) r9) pushW, .p (o1 load1G l0) pushW, .m (callO 49 [r0, l2, l0]) pushW (some [])] []))))))
 (.reg [.p (o1 mvG r8) pushW, .p (o2 (binG addB) l0 (ctK (.int .i64 (Int.ofNat 1)))) pushW, .p (o1 mvG l0) w8]))))))
 (.seq
 (.reg [.p (o1 nilckG r0) pushW, .p (o1 (faddrG 4) l0) pushW, .p (o1 load1G l0) pushW, .p (o2 (eqG eqIV false) l0 (ctK (.int .i64 (Int.ofNat 0)))) pushW, .g l0 true false none (o1 (faddrG 7) r6) pushW, .g l1 true false none (o1 load1G l0) pushW, .g l2 true false none (o1 notG l0) pushW, .p (o3 pickG l3 l0 (ctK (.bool false))) pushW, .g l0 true false none (o1 (faddrG 8) r6) pushW, .g l1 true false none (o1 load1G l0) pushW, .g l2 true false none (o1 lenLG l0) pushW, .g l3 true false none (o1 (faddrG 2) r7) pushW, .g l4 true false none (o1 load1G l0) pushW, .g l5 true false none (o1 lenLG l0) pushW, .g l6 true false none (o2 (binG (cmpB .lss ltI)) l3 l0) pushW, .p (o3 pickG l7 l0 (ctK (.bool false))) w86])
 (.cond r86
 (.reg [.p (o1 (loadnG 9) r6) pushW, .p (callO 113 [r0, l0, (ctK (.int .i64 (Int.ofNat 19)))]) pushW])
 .skip)))) }
theorem kf152_ok : (compFn Tryz.prog Tryz.f152 [[0, 6, 7], [0, 5, 6, 7, 8], [0, 5, 6, 7, 8], [0, 5, 6, 7, 8], [0, 5, 6, 7, 8, 9, 10, 11], [0, 5, 6, 7, 8, 9, 10, 11, 12], [0, 5, 6, 7, 8, 9, 10, 11, 12], [0, 5, 6, 7, 8, 9, 10, 11, 12], [0, 5, 6, 7, 8, 9, 10]]).bind (toKFn [13, 14, 15, 16, 17, 18, 19, 20, 21, 22, 23, 25, 26, 27, 28, 29, 30, 31, 32, 33, 34, 35, 36, 37, 38, 39, 40, 42, 43, 44, 45, 46, 47, 48, 49, 50, 51, 52, 53, 54, 55, 56, 58, 59, 60, 61, 62, 63, 64, 65, 66, 67, 68, 69, 70, 71, 72, 73, 74, 75, 76, 77, 78, 79, 80, 81, 82, 83, 84, 85, 87, 88, 89] 4) = some kf152 := by kernel_rfl
noncomputable def kf11 : KFn := { params := [w0, w1, w2, w3], res := [(.s r8)], body :=
 (.seq
 (.reg [.p (o1 boxG r1) w5, .p (o1 boxG r3) w7, .p (o1 mvG (ctK (.bool false))) w8])
 (.seq
 (.seq
 (.reg [.p (o2 (eqG (slowEq (.one .p)) false) r0 (ctK .pnil)) pushW, .p (o2 (eqG (slowEq (.one .p)) false) r2 (ctK .pnil)) pushW, .p (o2 (eqG (slowEq (.one .b)) true) l1 l0) pushW, .g l0 false false none (o1 (faddrG 0) r5) pushW, .g l1 false false none (o1 load1G l0) pushW, .g l2 false false none (o1 (faddrG 0) r7) pushW, .g l3 false false none (o1 load1G l0) pushW, .g l4 false false none (o2 (eqG eqIV true) l2 l0) pushW, .p (o3 pickG l5 (ctK (.bool true)) l0) pushW, .g l0 false false none (o1 (faddrG 1) r5) pushW, .g l1 false false none (o1 load1G l0) pushW, .g l2 false false none (o1 (faddrG 1) r7) pushW, .g l3 false false none (o1 load1G l0) pushW, .g l4 false false none (o2 (eqG eqSV true) l2 l0) pushW, .p (o3 pickG l5 (ctK (.bool true)) l0) pushW, .g l0 false false none (o1 (faddrG 2) r5) pushW, .g l1 false false none (o1 load1G l0) pushW, .g l2 false false none (o1 (faddrG 2) r7) pushW, .g l3 false false none (o1 load1G l0) pushW, .g l4 false false none (o2 (eqG eqIV true) l2 l0) pushW, .p (o3 pickG l5 (ctK (.bool true)) l0) w36])
 (.cond r36
 (.seq
 (.reg [.p (o1 mvG (ctK (.bool false))) w8])
 .ret)
 .skip))
 (.seq
 (.seq
 (.reg [.p (o2 (eqG (slowEq (.one .p)) false) r0 (ctK .pnil)) w38])
 (.cond r38
 (.seq
 (.reg [.p (o1 mvG (ctK (.bool true))) w8])
 .ret)
 .skip))
 (.seq
 (.reg [.p (callO 13 [r0]) pushW, .p (o1 mvG l0) w9])
 (.seq
 (.seq
 (.drw [.p (o1 lenLG r9) pushW, .p (o1 nilckG r2) pushW, .p (o1 (faddrG 1) l0) pushW, .p (o1 load1G l0) pushW, .p (o1 lenLG l0) pushW, .p (o2 (eqG eqIV true) l4 l0) pushW, .g l0 false false none (o1 mvG r0) pushW, .g l1 false true (some []) (callO 12 [l0]) pushW, .g l2 false false none (o1 mvG r9) pushW, .g l3 false false none (o1 lenLG l0) pushW, .g l4 false false none (o2 (eqG eqIV true) l2 l0) pushW, .p (o3 pickG l5 (ctK (.bool true)) l0) pushW, .g l0 false false none (o1 mvG r0) pushW, .g l1 false true none (callO 25 [l0]) pushW, .g l2 false true none (callO 26 [l0]) pushW, .g l3 false false none (o1 mvG r2) pushW, .g l4 false false none (o1 nilckG l0) pushW, .g l5 false false none (o1 (faddrG 0) l0) pushW, .g l6 false false none (o1 load1G l0) pushW, .g l7 false false none (o1 nilckG l0) pushW, .g l8 false false none (o1 (faddrG 0) l0) pushW, .g l9 false false none (o1 load1G l0) pushW, .g l10 false false none (o1 lenLG l0) pushW, .g l11 false false none (o2 (eqG eqIV true) l8 l0) pushW, .p (o3 pickG l12 (ctK (.bool true)) l0) w69] [])
 (.cond r69
 (.seq
 (.reg [.p (o1 mvG (ctK (.bool false))) w8])
 .ret)
 .skip))
 (.seq
 (.seq
 (.reg [.p (o1 mvG (ctK (.int .i64 (Int.ofNat 0)))) w10])
 (.block 0
 (.loop
 (.seq
 (.seq
 (.reg [.p (o1 lenLG r9) pushW, .p (o2 (binG (cmpB .lss ltI)) r10 l0) w73])
 (.cond r73
 .skip
 (.exit 0)))
 (.seq
 (.block 1
 (.seq
 (.drw [.p (o2 (iaddrG 2) r9 r10) pushW, .p (o1 (faddrG 0) l0) pushW, .p (o1 load1G l0) pushW, .p (o1 nilckG r2) pushW, .p (o1 (faddrG 1) l0) pushW, .p (o1 load1G l0) pushW, .p (o2 (iaddrG 2) l0 r10) pushW, .p (o1 (faddrG 0) l0) pushW, .p (o1 load1G l0) pushW, .p (o2 (eqG eqSV true) l6 l0) pushW, .g l0 false false none (o1 mvG r9) pushW, .g l1 false false none (o1 mvG r10) pushW, .g l2 false false none (o2 (iaddrG 2) l1 l0) pushW, .g l3 false false none (o1 (faddrG 1) l0) pushW, .g l4 false false none (o1 load1G l0) pushW, .g l5 false false none (o1 mvG r2) pushW, .g l6 false false none (o1 nilckG l0) pushW, .g l7 false false none (o1 (faddrG 1) l0) pushW, .g l8 false false none (o1 load1G l0) pushW, .g l9 false false none (o1 mvG r10) pushW, .g l10 false false none (o2 (iaddrG 2) l1 l0) pushW, .g l11 false false none (o1 (faddrG 1) l0) pushW, .g l12 false false none (o1 load1G l0) pushW, .g l13 false false none (o2 (eqG eqIV true) l8 l0) pushW, .p (o3 pickG l14 (ctK (.bool true)) l0) w105] [])
 (.cond r105
 (.seq
 (.reg [.p (o1 mvG (ctK (.bool false))) w8])
 .ret)
 .skip)))
 (.reg [.p (o1 mvG r10) pushW, .p (o2 (binG addB) l0 (ctK (.int .i64 (Int.ofNat 1)))) pushW, .p (o1 mvG l0) w10]))))))
 (.seq
 (.reg [.p (o1 mvG (ctK (.bool true))) w8])
 .ret))))))) }
theorem kf11_ok : (compFn Tryz.prog Tryz.f11 [[0, 2], [0, 2], [2, 9], [], [2, 9, 10], [2, 9, 10], [2, 9, 10]]).bind (toKFn [11, 12, 13, 14, 15, 16, 17, 18, 19, 20, 21, 22, 23, 24, 25, 26, 27, 28, 29, 30, 31, 32, 33, 34, 35, 37, 39, 40, 41, 42, 43, 44, 45, 46, 47, 48, 49, 50, 51, 52, 53, 54, 55, 56, 57, 58, 59, 60, 61, 62, 63, 64, 65, 66, 67, 68, 70, 71, 72, 74, 75, 76, 77, 78, 79, 80, 81, 82, 83, 84, 85, 86, 87, 88, 89, 90, 91, 92, 93, 94, 95, 96, 97, 98, 99, 100, 101, 102, 103, 104] 4) = some kf11 := by kernel_rfl
end Go.Proofs.YtdjcdbkbmphmiaaGreat
