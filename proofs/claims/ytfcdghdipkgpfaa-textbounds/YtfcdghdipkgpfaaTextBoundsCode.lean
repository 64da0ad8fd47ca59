/- The code of the law and of all that it calls, for the evaluator; what stands in for the library's. No condition. -/
import Derived.Test.YtfcdghdipkgpfaaRows
import Derived.Test.YtfcdghdipkgpfaaShelf
import Derived.WalkKit
import Derived.Test.YtfcdghdipkgpfaaEva6
namespace Go.Proofs.Ytfcdghdipkgpfaa
open Eva Go.RowKit
set_option linter.unusedVariables false
noncomputable def kf4 : KFn := { params := [w0, w1], res := [(.s r4)], body :=
 (.seq
 (.reg [.p (o1 mvG (ctK (.bool false))) w4])
 (.seq
 (.seq
 (.reg [.p (callO 9 []) w11, .p (o1 notG r11) w12])
 (.cond r12
 (.seq
 (.reg [.p (o1 mvG (ctK (.bool false))) w4])
 .ret)
 .skip))
 (.seq
 (.reg [.p (o1 mvG r0) w13, .p (callO 13 [r13, (ctK (.int .i64 (Int.ofNat 4)))]) w14, .p (o1 mvG r14) w0])
 (.seq
 (.reg [.p (o1 mvG (ctK (.str 0 0))) w5, .p (o1 mvG (ctK (.int .i64 (Int.ofNat 4)))) w6])
 (.seq
 (.seq
 (.reg [.p (o1 mvG r1) w15])
 (.cond r15
 (.seq
 (.reg [.p (o1 mvG (ctK (.int .i64 (Int.ofNat 3)))) w6])
 (.seq
 (.reg [.p (o1 mvG (ctK (.int .i64 (Int.ofNat 0)))) w7])
 (.block 0
 (.loop
 (.seq
 (.seq
 (.reg [.p (o1 mvG r7) w16, .p (o1 mvG r0) w17, .p (o2 (binG addB) (ctK (.int .i64 (Int.ofNat 199))) r17) w18, .p (o2 (binG (cmpB .lss ltI)) r16 r18) w19])
 (.cond r19
 .skip
 (.exit 0)))
 (.seq
 (.block 1
 (.reg [.p (o1 mvG r5) w22, .p (o2 (binG addB) r22 (ctK (.str 4 2105375611))) w23, .p (o1 mvG r23) w5]))
 (.reg [.p (o1 mvG r7) w20, .p (o2 (binG addB) r20 (ctK (.int .i64 (Int.ofNat 1)))) w21, .p (o1 mvG r21) w7])))))))
 (.seq
 (.reg [.p (o1 mvG (ctK (.int .i64 (Int.ofNat 0)))) w8])
 (.block 2
 (.loop
 (.seq
 (.seq
 (.reg [.p (o1 mvG r8) w24, .p (o1 mvG r0) w25, .p (o2 (binG addB) (ctK (.int .i64 (Int.ofNat 1499))) r25) w26, .p (o2 (binG (cmpB .lss ltI)) r24 r26) w27])
 (.cond r27
 .skip
 (.exit 2)))
 (.seq
 (.block 3
 (.reg [.p (o1 mvG r5) w30, .p (o2 (binG addB) r30 (ctK (.str 1 120))) w31, .p (o1 mvG r31) w5]))
 (.reg [.p (o1 mvG r8) w28, .p (o2 (binG addB) r28 (ctK (.int .i64 (Int.ofNat 1)))) w29, .p (o1 mvG r29) w8]))))))))
 (.seq
 (.reg [.p (o1 mvG r5) w33, .p (callO 11 [r33]) w34, .p (o1 mvG r34) w32, .p (o1 (extG 0) r32) w35, .p (o1 (extG 1) r32) w36, .p (o1 mvG r35) w9, .p (o1 mvG r36) w10])
 (.seq
 (.reg [.p (o1 mvG r0) w37, .p (o2 (binG (cmpB .leq leI)) r37 (ctK (.int .i64 (Int.ofNat 1)))) w38, .p (o1 mvG r38) w39, .g r39 true false none (o1 mvG r10) w40, .g r39 true false none (o2 (eqG eqIV false) r40 (ctK (.int .i64 (Int.ofNat 0)))) w41, .p (o3 pickG r39 r41 (ctK (.bool false))) w42, .p (o1 mvG r42) w43, .g r43 false false none (o1 mvG r0) w44, .g r43 false false none (o2 (binG (cmpB .gtr gtI)) r44 (ctK (.int .i64 (Int.ofNat 1)))) w45, .g r43 false false none (o1 mvG r45) w46, .g r46 true false none (o1 mvG r10) w47, .g r46 true false none (o1 mvG r6) w48, .g r46 true false none (o2 (eqG eqIV false) r47 r48) w49, .g r43 false false none (o3 pickG r46 r49 (ctK (.bool false))) w50, .p (o3 pickG r43 (ctK (.bool true)) r50) w51, .p (o1 mvG r51) w4])
 .ret))))))) }
theorem kf4_ok : (compFn Try.prog Try.f4 [[0, 1], [0, 5, 6], [0, 5, 6, 7], [0, 5, 6, 7], [0, 5, 6, 7], [0, 5, 6, 8], [0, 5, 6, 8], [0, 5, 6, 8]]).bind (toKFn 2) = some kf4 := by kernel_rfl
noncomputable def kf9 : KFn := { params := [], res := [(.s r0)], body :=
 (.seq
 (.reg [.p (o1 mvG (ctK (.bool false))) w0])
 (.seq
 (.reg [.p (callO 11 [(ctK (.str 12 30481237578535094601129884513))]) w4, .p (o1 mvG r4) w3, .p (o1 (extG 0) r3) w5, .p (o1 (extG 1) r3) w6, .p (o1 mvG r5) w1, .p (o1 mvG r6) w2])
 (.seq
 (.reg [.p (o1 mvG r2) w7, .p (o2 (eqG eqIV false) r7 (ctK (.int .i64 (Int.ofNat 0)))) w8, .p (o1 mvG r8) w9, .g r9 true false none (o1 mvG r1) w10, .g r9 true false none (o1 lenLG r10) w11, .g r9 true false none (o2 (eqG eqIV false) r11 (ctK (.int .i64 (Int.ofNat 3)))) w12, .p (o3 pickG r9 r12 (ctK (.bool false))) w13, .p (o1 mvG r13) w14, .g r14 true false none (o1 mvG r1) w15, .g r14 true false none (o2 (iaddrG 3) r15 (ctK (.int .i64 (Int.ofNat 1)))) w16, .g r14 true false none (o1 (faddrG 0) r16) w17, .g r14 true false none (o1 load1G r17) w18, .p (o3 pickG r14 r18 (ctK (.bool false))) w19, .p (o1 mvG r19) w20, .g r20 true false none (o1 mvG r1) w21, .g r20 true false none (o2 (iaddrG 3) r21 (ctK (.int .i64 (Int.ofNat 1)))) w22, .g r20 true false none (o1 (faddrG 1) r22) w23, .g r20 true false none (o1 load1G r23) w24, .g r20 true false none (o2 (eqG eqSV false) r24 (ctK (.str 6 35332506329632))) w25, .p (o3 pickG r20 r25 (ctK (.bool false))) w26, .p (o1 mvG r26) w27, .g r27 true false none (o1 mvG r1) w28, .g r27 true false none (o2 (iaddrG 3) r28 (ctK (.int .i64 (Int.ofNat 2)))) w29, .g r27 true false none (o1 (faddrG 2) r29) w30, .g r27 true false none (o1 load1G r30) w31, .g r27 true false none (o2 (eqG eqIV false) r31 (ctK (.int .i64 (Int.ofNat 11)))) w32, .p (o3 pickG r27 r32 (ctK (.bool false))) w33, .p (o1 mvG r33) w0])
 .ret))) }
theorem kf9_ok : (compFn Try.prog Try.f9 []).bind (toKFn 0) = some kf9 := by kernel_rfl
noncomputable def kf11 : KFn := { params := [w0], res := [(.s r2), (.s r3)], body :=
 (.seq
 (.reg [.p (o1 mvG (ctK .snil)) w2, .p (o1 mvG (ctK (.int .i64 (Int.ofNat 0)))) w3])
 (.seq
 (.seq
 (.reg [.p (o1 mvG r0) w7, .p (o1 lenSG r7) w8, .p (o2 (binG (cmpB .gtr gtI)) r8 (ctK (.int .i64 (Int.ofNat 1500)))) w9])
 (.cond r9
 (.seq
 (.reg [.p (o1 mvG (ctK .snil)) w2, .p (o1 mvG (ctK (.int .i64 (Int.ofNat 4)))) w3])
 .ret)
 .skip))
 (.seq
 (.reg [.p (o1 mvG (ctK .snil)) w4])
 (.seq
 (.seq
 (.reg [.p (o1 mvG (ctK (.int .i64 (Int.ofNat 0)))) w5])
 (.block 0
 (.loop
 (.seq
 (.seq
 (.reg [.p (o1 mvG r5) w10, .p (o1 mvG r0) w11, .p (o1 lenSG r11) w12, .p (o2 (binG (cmpB .lss ltI)) r10 r12) w13])
 (.cond r13
 .skip
 (.exit 0)))
 (.block 1
 (.seq
 (.reg [.p (o1 mvG r0) w14, .p (o1 mvG r5) w15, .p (cutSO r14 (some r15) none) w16, .p (callO 16 [r16, (ctK (.str 2 31611))]) w17, .p (o1 mvG r17) w6])
 (.seq
 (.seq
 (.reg [.p (o1 mvG r6) w18, .p (o2 (binG (cmpB .lss ltI)) r18 (ctK (.int .i64 (Int.ofNat 0)))) w19])
 (.cond r19
 (.reg [.p (o1 mvG r0) w20, .p (o1 lenSG r20) w21, .p (o1 mvG r5) w22, .p (o2 (binG subB) r21 r22) w23, .p (o1 mvG r23) w6])
 .skip))
 (.seq
 (.seq
 (.reg [.p (o1 mvG r6) w24, .p (o2 (binG (cmpB .gtr gtI)) r24 (ctK (.int .i64 (Int.ofNat 0)))) w25])
 (.cond r25
 (.seq
 (.reg [.p (o1 mvG r4) w26, .p (o1 mvG r0) w27, .p (o1 mvG r5) w28, .p (o1 mvG r5) w29, .p (o1 mvG r6) w30, .p (o2 (binG addB) r29 r30) w31, .p (cutSO r27 (some r28) (some r31)) w32, .p (o1 mvG r5) w33, .p (buildO [(.bool false), (.str 0 0), (.int .i64 (Int.ofNat 0))] [(1, 1, r32), (2, 1, r33)]) w34, .p (bslO 3 1 [(.bool false), (.str 0 0), (.int .i64 (Int.ofNat 0))] [(0, 3, r34)]) w35, .p (o2 (appG 3) r26 r35) w36, .p (o1 mvG r36) w4])
 (.seq
 (.reg [.p (o1 mvG r5) w37, .p (o1 mvG r6) w38, .p (o2 (binG addB) r37 r38) w39, .p (o1 mvG r39) w5])
 (.exit 1)))
 .skip))
 (.seq
 (.reg [.p (o1 mvG r0) w40, .p (o1 mvG r5) w41, .p (o2 (binG addB) r41 (ctK (.int .i64 (Int.ofNat 2)))) w42, .p (cutSO r40 (some r42) none) w43, .p (callO 17 [r43]) w44, .p (o1 mvG r44) w6])
 (.seq
 (.seq
 (.reg [.p (o1 mvG r6) w45, .p (o2 (binG (cmpB .lss ltI)) r45 (ctK (.int .i64 (Int.ofNat 0)))) w46])
 (.cond r46
 (.seq
 (.reg [.p (o1 mvG (ctK .snil)) w2, .p (o1 mvG (ctK (.int .i64 (Int.ofNat 11)))) w3])
 .ret)
 .skip))
 (.seq
 (.reg [.p (o1 mvG r4) w47, .p (o1 mvG r0) w48, .p (o1 mvG r5) w49, .p (o2 (binG addB) r49 (ctK (.int .i64 (Int.ofNat 2)))) w50, .p (o1 mvG r5) w51, .p (o2 (binG addB) r51 (ctK (.int .i64 (Int.ofNat 2)))) w52, .p (o1 mvG r6) w53, .p (o2 (binG addB) r52 r53) w54, .p (cutSO r48 (some r50) (some r54)) w55, .p (o1 mvG r5) w56, .p (buildO [(.bool false), (.str 0 0), (.int .i64 (Int.ofNat 0))] [(0, 1, (ctK (.bool true))), (1, 1, r55), (2, 1, r56)]) w57, .p (bslO 3 1 [(.bool false), (.str 0 0), (.int .i64 (Int.ofNat 0))] [(0, 3, r57)]) w58, .p (o2 (appG 3) r47 r58) w59, .p (o1 mvG r59) w4])
 (.reg [.p (o1 mvG r5) w60, .p (o1 mvG r6) w61, .p (o2 (binG addB) (ctK (.int .i64 (Int.ofNat 2))) r61) w62, .p (o2 (binG addB) r62 (ctK (.int .i64 (Int.ofNat 2)))) w63, .p (o2 (binG addB) r60 r63) w64, .p (o1 mvG r64) w5]))))))))))))
 (.seq
 (.seq
 (.reg [.p (o1 mvG r4) w65, .p (o1 lenLG r65) w66, .p (o2 (binG (cmpB .gtr gtI)) r66 (ctK (.int .i64 (Int.ofNat 200)))) w67])
 (.cond r67
 (.seq
 (.reg [.p (o1 mvG (ctK .snil)) w2, .p (o1 mvG (ctK (.int .i64 (Int.ofNat 3)))) w3])
 .ret)
 .skip))
 (.seq
 (.reg [.p (o1 mvG r4) w68, .p (o1 mvG r68) w2, .p (o1 mvG (ctK (.int .i64 (Int.ofNat 0)))) w3])
 .ret)))))) }
theorem kf11_ok : (compFn Try.prog Try.f11 [[0], [4], [0, 4, 5], [0, 4, 5], [0, 4, 5, 6], [0, 4, 5], [0, 4, 5, 6], [4]]).bind (toKFn 1) = some kf11 := by kernel_rfl
noncomputable def kf17 : KFn := { params := [w0], res := [(.s r2)], body :=
 (.seq
 (.reg [.p (o1 mvG (ctK (.int .i64 (Int.ofNat 0)))) w2])
 (.seq
 (.reg [.p (o1 mvG (ctK (.bool false))) w3, .p (o1 mvG (ctK (.int .i64 (Int.ofNat 0)))) w4])
 (.seq
 (.seq
 (.reg [.p (o1 mvG r0) w6, .p (o1 lenSG r6) w7, .p (o1 mvG (ctK (.int .i64 (Int.ofNat 0)))) w8])
 (.block 0
 (.loop
 (.seq
 (.reg [.p (o2 (binG (cmpB .lss ltI)) r8 r7) w9])
 (.seq
 (.cond r9
 .skip
 (.exit 0))
 (.seq
 (.block 1
 (.seq
 (.reg [.p (o1 mvG r8) w10, .p (o1 mvG r10) w5])
 (.seq
 (.block 2
 (.seq
 (.reg [.p (o1 mvG r0) w12, .p (o1 mvG r5) w13, .p (o2 idxG r12 r13) w14, .p (o2 (eqG eqIV false) r14 (ctK (.int .u8 (Int.ofNat 34)))) w15, .p (o1 mvG r15) w16, .g r16 true false none (o1 mvG r3) w17, .g r16 true false none (o1 notG r17) w18, .g r16 true false none (o1 mvG r18) w19, .g r19 false false none (o1 mvG r4) w20, .g r19 false false none (o2 (binG (slowBin .rem)) r20 (ctK (.int .i64 (Int.ofNat 2)))) w21, .g r19 false false none (o2 (eqG eqIV false) r21 (ctK (.int .i64 (Int.ofNat 0)))) w22, .g r16 true false none (o3 pickG r19 (ctK (.bool true)) r22) w23, .p (o3 pickG r16 r23 (ctK (.bool false))) w24, .p (o1 mvG r24) w11])
 (.cond r11
 (.reg [.p (o1 mvG r3) w25, .p (o1 notG r25) w26, .p (o1 mvG r26) w3])
 (.seq
 (.reg [.p (o1 mvG r3) w28, .p (o1 notG r28) w29, .p (o1 mvG r29) w30, .g r30 true false none (o1 mvG r0) w31, .g r30 true false none (o1 mvG r5) w32, .g r30 true false none (cutSO r31 (some r32) none) w33, .g r30 true false none (callO 20 [r33, (ctK (.str 2 32125))]) w34, .p (o3 pickG r30 r34 (ctK (.bool false))) w35, .p (o1 mvG r35) w27])
 (.cond r27
 (.seq
 (.reg [.p (o1 mvG r5) w36, .p (o1 mvG r36) w2])
 .ret)
 .skip)))))
 (.seq
 (.reg [.p (o1 mvG r0) w37, .p (o1 mvG r5) w38, .p (o2 idxG r37 r38) w39, .p (o2 (eqG eqIV false) r39 (ctK (.int .u8 (Int.ofNat 92)))) w40])
 (.cond r40
 (.reg [.p (o1 mvG r4) w41, .p (o2 (binG addB) r41 (ctK (.int .i64 (Int.ofNat 1)))) w42, .p (o1 mvG r42) w4])
 (.reg [.p (o1 mvG (ctK (.int .i64 (Int.ofNat 0)))) w4]))))))
 (.reg [.p (o2 (binG addB) r8 (ctK (.int .i64 (Int.ofNat 1)))) w43, .p (o1 mvG r43) w8])))))))
 (.seq
 (.reg [.p (o1 mvG (ctK (.int .i64 (Int.negSucc 0)))) w2])
 .ret)))) }
theorem kf17_ok : (compFn Try.prog Try.f17 [[], [0, 3, 4, 7, 8], [0, 3, 4, 7, 8], [0, 3, 4, 7, 8], [0, 3, 4, 5, 7, 8]]).bind (toKFn 1) = some kf17 := by kernel_rfl
noncomputable def kf20 : KFn := { params := [w0, w1], res := [(.s r4)], body :=
 (.seq
 (.reg [.p (o1 mvG (ctK (.bool false))) w4])
 (.seq
 (.reg [.p (o1 mvG r0) w5, .p (o1 mvG r1) w6, .p (callO 25 [r5, r6]) w7, .p (o1 mvG r7) w4])
 .ret)) }
theorem kf20_ok : (compFn Try.prog Try.f20 []).bind (toKFn 2) = some kf20 := by kernel_rfl
noncomputable def kf25 : KFn := { params := [w0, w1], res := [(.s r4)], body :=
 (.seq
 (.reg [.p (o1 mvG (ctK (.bool false))) w4])
 (.seq
 (.reg [.p (o1 mvG r0) w5, .p (o1 lenSG r5) w6, .p (o1 mvG r1) w7, .p (o1 lenSG r7) w8, .p (o2 (binG (cmpB .geq geI)) r6 r8) w9, .p (o1 mvG r9) w10, .g r10 true false none (o1 mvG r0) w11, .g r10 true false none (o1 mvG r1) w12, .g r10 true false none (o1 lenSG r12) w13, .g r10 true false none (cutSO r11 none (some r13)) w14, .g r10 true false none (o1 mvG r1) w15, .g r10 true false none (o2 (eqG eqSV false) r14 r15) w16, .p (o3 pickG r10 r16 (ctK (.bool false))) w17, .p (o1 mvG r17) w4])
 .ret)) }
theorem kf25_ok : (compFn Try.prog Try.f25 []).bind (toKFn 2) = some kf25 := by kernel_rfl

theorem within13_calls (a n : Int) (w : World) (h0 : 0 < n) (h1 : n < 1000000) : Calls Try.prog 13 #[.int .i64 a, .int .i64 n] w fun e w' => e = .returned (.int .i64 (a % n)) ∧ Below w.heap.size w w' := by
  have hn : ¬n = 0 := by omega
  go_enter Try.func13, Try.ntmps13
  go_wp2
  all_goals go_ret
  all_goals refine ⟨?_, Below.refl _ _⟩
  all_goals have hb1 := Int.emod_nonneg a hn
  all_goals have hb2 := Int.emod_lt_of_pos a h0
  all_goals have hw : wrap64 (a % n) = a % n := by unfold wrap64; omega
  all_goals rename_i hc
  all_goals rcases tmod_cases a h0 with ⟨h3, h4⟩ | ⟨h3, h4⟩
  · exact absurd hc (by omega)
  · show Ending.returned (.int .i64 (wrap64 (a.tmod n + n))) = _
    rw [h4, hw]
  · show Ending.returned (.int .i64 (a.tmod n)) = _
    rw [h4]
  · exact absurd hc (by omega)
theorem mixed : Try.prog.follows .mixedOrders = true := by kernel_rfl
noncomputable def tabA : BT :=
  (.node 16 (.node 9 (.leaf 9 (compE 100000 Try.prog Try.f9 [] kf9))
  (.node 11 (.leaf 11 (compE 100000 Try.prog Try.f11 [[0], [4], [0, 4, 5], [0, 4, 5], [0, 4, 5, 6], [0, 4, 5], [0, 4, 5, 6], [4]] kf11))
  (.leaf 16 indexE)))
  (.node 17 (.leaf 17 (compE 100000 Try.prog Try.f17 [[], [0, 3, 4, 7, 8], [0, 3, 4, 7, 8], [0, 3, 4, 7, 8], [0, 3, 4, 5, 7, 8]] kf17))
  (.node 20 (.leaf 20 (compE 100000 Try.prog Try.f20 [] kf20))
  (.leaf 25 (compE 100000 Try.prog Try.f25 [] kf25)))))
theorem tabA_K : tabA.all fun _ e => BodyKOK e.k e.b := ⟨⟨compE_K kf9_ok, ⟨compE_K kf11_ok, indexE_K⟩⟩, ⟨compE_K kf17_ok, ⟨compE_K kf20_ok, compE_K kf25_ok⟩⟩⟩
theorem tabA_B {ρ : Nat → Value} {W : World} (hρ : ∀ i, (ρ i).oneCell' = true) (hm : hasM 0 W) : tabA.all fun i e => BodyOK Try.prog ρ ⟨W.heap.size, W⟩ i e.b :=
  have hh : HypOK ρ [] := hyp_nil ρ
  ⟨⟨compE_B kf9_ok Try.func9 (by decide) hρ mixed, ⟨compE_B kf11_ok Try.func11 (by decide) hρ mixed, indexE_B Try.func16 (by kernel_rfl) (by decide) hm fun s sub m w hs hm => Try.strings_Index s sub m w hs hm⟩⟩, ⟨compE_B kf17_ok Try.func17 (by decide) hρ mixed, ⟨compE_B kf20_ok Try.func20 (by decide) hρ mixed, compE_B kf25_ok Try.func25 (by decide) hρ mixed⟩⟩⟩
theorem known_check : check tabA 1000 9 [] = true := by kernel_rfl
theorem known_calls (w : World) (hm : hasM 0 w) : Calls Try.prog 9 #[] w fun e w' => e = .returned (.bool true) ∧ Below w.heap.size w w' :=
  check_call (ρ := fun _ => .bool false) tabA_K (tabA_B (fun _ => rfl) hm) known_check (xs := []) rfl
noncomputable def tab (hyp : List (Nat × Nat × Nat)) : BT :=
  (.node 13 (.node 9 (.node 4 (.leaf 4 (compE 100000 Try.prog Try.f4 [[0, 1], [0, 5, 6], [0, 5, 6, 7], [0, 5, 6, 7], [0, 5, 6, 7], [0, 5, 6, 8], [0, 5, 6, 8], [0, 5, 6, 8]] kf4))
  (.leaf 9 (hookE trueG)))
  (.node 11 (.leaf 11 (compE 100000 Try.prog Try.f11 [[0], [4], [0, 4, 5], [0, 4, 5], [0, 4, 5, 6], [0, 4, 5], [0, 4, 5, 6], [4]] kf11))
  (.leaf 13 (hookE (withinG hyp)))))
  (.node 17 (.node 16 (.leaf 16 indexE)
  (.leaf 17 (compE 100000 Try.prog Try.f17 [[], [0, 3, 4, 7, 8], [0, 3, 4, 7, 8], [0, 3, 4, 7, 8], [0, 3, 4, 5, 7, 8]] kf17)))
  (.node 20 (.leaf 20 (compE 100000 Try.prog Try.f20 [] kf20))
  (.leaf 25 (compE 100000 Try.prog Try.f25 [] kf25)))))
theorem tab_K (hyp : List (Nat × Nat × Nat)) : (tab hyp).all fun _ e => BodyKOK e.k e.b := ⟨⟨⟨compE_K kf4_ok, hookE_K _⟩, ⟨compE_K kf11_ok, hookE_K _⟩⟩, ⟨⟨indexE_K, compE_K kf17_ok⟩, ⟨compE_K kf20_ok, compE_K kf25_ok⟩⟩⟩
theorem tab_B {ρ : Nat → Value} {W : World} {hyp : List (Nat × Nat × Nat)} (hρ : ∀ i, (ρ i).oneCell' = true) (hm : hasM 0 W) (hh : HypOK ρ hyp) : (tab hyp).all fun i e => BodyOK Try.prog ρ ⟨W.heap.size, W⟩ i e.b :=
  ⟨⟨⟨compE_B kf4_ok Try.func4 (by decide) hρ mixed, trueE_B Try.func9 (by kernel_rfl) (by decide) hm known_calls⟩, ⟨compE_B kf11_ok Try.func11 (by decide) hρ mixed, withinE_B Try.func13 (by kernel_rfl) (by decide) hh within13_calls⟩⟩, ⟨⟨indexE_B Try.func16 (by kernel_rfl) (by decide) hm fun s sub m w hs hm => Try.strings_Index s sub m w hs hm, compE_B kf17_ok Try.func17 (by decide) hρ mixed⟩, ⟨compE_B kf20_ok Try.func20 (by decide) hρ mixed, compE_B kf25_ok Try.func25 (by decide) hρ mixed⟩⟩⟩
end Go.Proofs.Ytfcdghdipkgpfaa
