/- 'known' is true, by the kernel's evaluator. No condition. -/
import Derived.Test.YtfcdghdipkgpfaaRows
import Derived.Test.YtfcdghdipkgpfaaShelf
import Derived.WalkKit
import Derived.Test.YtfcdghdipkgpfaaEvd8
namespace Go.Proofs.Ytfcdghdipkgpfaa
open Eva Go.RowKit
set_option linter.unusedVariables false
noncomputable def kf9 : KFn := { params := [], res := [(.s r0)], body :=
 (.seq
 (.reg [.p (o1 mvG (ctK (.bool false))) w0])
 (.seq
 (.reg [.p (callO 11 [(ctK (.str 12 30481237578535094601129884513))]) pushW, .p (o1 (extG 0) l0) pushW, .p (o1 (extG 1) l1) pushW, .p (o1 mvG l1) w1, .p (o1 mvG l0) w2])
 (.seq
 (.reg [.p (o2 (eqG eqIV false) r2 (ctK (.int .i64 (Int.ofNat 0)))) pushW, .g l0 true false none (o1 mvG r1) pushW, .g l1 true false none (o1 lenLG l0) pushW, .g l2 true false none (o2 (eqG eqIV false) l0 (ctK (.int .i64 (Int.ofNat 3)))) pushW, .p (o3 pickG l3 l0 (ctK (.bool false))) pushW, .g l0 true false none (o1 mvG r1) pushW, .g l1 true false none (o2 (iaddrG 3) l0 (ctK (.int .i64 (Int.ofNat 1)))) pushW, .g l2 true false none (o1 (faddrG 0) l0) pushW, .g l3 true false none (o1 load1G l0) pushW, .p (o3 pickG l4 l0 (ctK (.bool false))) pushW, .g l0 true false none (o1 mvG r1) pushW, .g l1 true false none (o2 (iaddrG 3) l0 (ctK (.int .i64 (Int.ofNat 1)))) pushW, .g l2 true false none (o1 (faddrG 1) l0) pushW, .g l3 true false none (o1 load1G l0) pushW, .g l4 true false none (o2 (eqG eqSV false) l0 (ctK (.str 6 35332506329632))) pushW, .p (o3 pickG l5 l0 (ctK (.bool false))) pushW, .g l0 true false none (o1 mvG r1) pushW, .g l1 true false none (o2 (iaddrG 3) l0 (ctK (.int .i64 (Int.ofNat 2)))) pushW, .g l2 true false none (o1 (faddrG 2) l0) pushW, .g l3 true false none (o1 load1G l0) pushW, .g l4 true false none (o2 (eqG eqIV false) l0 (ctK (.int .i64 (Int.ofNat 11)))) pushW, .p (o3 pickG l5 l0 (ctK (.bool false))) pushW, .p (o1 mvG l0) w0])
 .ret))) }
theorem kf9_ok : (compFn Try.prog Try.f9 []).bind (toKFn [3, 4, 5, 6, 7, 8, 9, 10, 11, 12, 13, 14, 15, 16, 17, 18, 19, 20, 21, 22, 23, 24, 25, 26, 27, 28, 29, 30, 31, 32, 33] 0) = some kf9 := by kernel_rfl
noncomputable def kf11 : KFn := { params := [w0], res := [(.s r2), (.s r3)], body :=
 (.seq
 (.reg [.p (o1 mvG (ctK .snil)) w2, .p (o1 mvG (ctK (.int .i64 (Int.ofNat 0)))) w3])
 (.seq
 (.seq
 (.reg [.p (o1 lenSG r0) pushW, .p (o2 (binG (cmpB .gtr gtI)) l0 (ctK (.int .i64 (Int.ofNat 1500)))) w9])
 (.cond r9
 (.seq
 (.reg [.p (o1 mvG (ctK .snil)) w2, .p (o1 mvG (ctK (.int .i64 (Int.ofNat 4)))) w3])
 .ret)
 .skip))
 (.seq
 (.reg [.p (o1 mvG (ctK .snil)) w4])
 (.seq
 (.seq
 (.reg [.p (o1 mvG (ctK (.int .i64 (Int.ofNat 0)))) w5])
 (.block 0
 (.loop
 (.seq
 (.seq
 (.reg [.p (o1 lenSG r0) pushW, .p (o2 (binG (cmpB .lss ltI)) r5 l0) w13])
 (.cond r13
 .skip
 (.exit 0)))
 (.block 1
 (.seq
 (.reg [.p (cutSO r0 (some r5) none) pushW, .p (callO 16 [l0, (ctK (.str 2 31611))]) pushW, .p (o1 mvG l0) w6])
 (.seq
 (.seq
 (.reg [.p (o2 (binG (cmpB .lss ltI)) r6 (ctK (.int .i64 (Int.ofNat 0)))) w19])
 (.cond r19
 (.reg [.p (o1 lenSG r0) pushW, .p (o2 (binG subB) l0 r5) pushW, .p (o1 mvG l0) w6])
 .skip))
 (.seq
 (.seq
 (.reg [.p (o2 (binG (cmpB .gtr gtI)) r6 (ctK (.int .i64 (Int.ofNat 0)))) w25])
 (.cond r25
 (.seq
 (.reg [.p (o1 mvG r4) pushW, .p (o2 (binG addB) r5 r6) pushW, .p (cutSO r0 (some r5) (some l0)) pushW, .p (buildO [(.bool false), (.str 0 0), (.int .i64 (Int.ofNat 0))] [(1, 1, l0), (2, 1, r5)]) pushW, .p (bslO 3 1 [(.bool false), (.str 0 0), (.int .i64 (Int.ofNat 0))] [(0, 3, l0)]) pushW, .p (o2 (appG 3) l4 l0) pushW, .p (o1 mvG l0) w4])
 (.seq
 (.reg [.p (o1 mvG r5) pushW, .p (o2 (binG addB) l0 r6) pushW, .p (o1 mvG l0) w5])
 (.exit 1)))
 .skip))
 (.seq
 (.reg [.p (o2 (binG addB) r5 (ctK (.int .i64 (Int.ofNat 2)))) pushW, .p (cutSO r0 (some l0) none) pushW, .p (callO 17 [l0]) pushW, .p (o1 mvG l0) w6])
 (.seq
 (.seq
 (.reg [.p (o2 (binG (cmpB .lss ltI)) r6 (ctK (.int .i64 (Int.ofNat 0)))) w46])
 (.cond r46
 (.seq
 (.reg [.p (o1 mvG (ctK .snil)) w2, .p (o1 mvG (ctK (.int .i64 (Int.ofNat 11)))) w3])
 .ret)
 .skip))
 (.seq
 (.reg [.p (o1 mvG r4) pushW, .p (o2 (binG addB) r5 (ctK (.int .i64 (Int.ofNat 2)))) pushW, .p (o2 (binG addB) r5 (ctK (.int .i64 (Int.ofNat 2)))) pushW, .p (o2 (binG addB) l0 r6) pushW, .p (cutSO r0 (some l2) (some l0)) pushW, .p (buildO [(.bool false), (.str 0 0), (.int .i64 (Int.ofNat 0))] [(0, 1, (ctK (.bool true))), (1, 1, l0), (2, 1, r5)]) pushW, .p (bslO 3 1 [(.bool false), (.str 0 0), (.int .i64 (Int.ofNat 0))] [(0, 3, l0)]) pushW, .p (o2 (appG 3) l6 l0) pushW, .p (o1 mvG l0) w4])
 (.reg [.p (o1 mvG r5) pushW, .p (o2 (binG addB) (ctK (.int .i64 (Int.ofNat 2))) r6) pushW, .p (o2 (binG addB) l0 (ctK (.int .i64 (Int.ofNat 2)))) pushW, .p (o2 (binG addB) l2 l0) pushW, .p (o1 mvG l0) w5]))))))))))))
 (.seq
 (.seq
 (.reg [.p (o1 lenLG r4) pushW, .p (o2 (binG (cmpB .gtr gtI)) l0 (ctK (.int .i64 (Int.ofNat 200)))) w67])
 (.cond r67
 (.seq
 (.reg [.p (o1 mvG (ctK .snil)) w2, .p (o1 mvG (ctK (.int .i64 (Int.ofNat 3)))) w3])
 .ret)
 .skip))
 (.seq
 (.reg [.p (o1 mvG r4) w2, .p (o1 mvG (ctK (.int .i64 (Int.ofNat 0)))) w3])
 .ret)))))) }
theorem kf11_ok : (compFn Try.prog Try.f11 [[0], [4], [0, 4, 5], [0, 4, 5], [0, 4, 5, 6], [0, 4, 5], [0, 4, 5, 6], [4]]).bind (toKFn [7, 8, 10, 11, 12, 14, 15, 16, 17, 18, 20, 21, 22, 23, 24, 26, 27, 28, 29, 30, 31, 32, 33, 34, 35, 36, 37, 38, 39, 40, 41, 42, 43, 44, 45, 47, 48, 49, 50, 51, 52, 53, 54, 55, 56, 57, 58, 59, 60, 61, 62, 63, 64, 65, 66, 68] 1) = some kf11 := by kernel_rfl
noncomputable def kf17 : KFn := { params := [w0], res := [(.s r2)], body :=
 (.seq
 (.reg [.p (o1 mvG (ctK (.int .i64 (Int.ofNat 0)))) w2])
 (.seq
 (.reg [.p (o1 mvG (ctK (.bool false))) w3, .p (o1 mvG (ctK (.int .i64 (Int.ofNat 0)))) w4])
 (.seq
 (.seq
 (.reg [.p (o1 lenSG r0) w7, .p (o1 mvG (ctK (.int .i64 (Int.ofNat 0)))) w8])
 (.block 0
 (.loop
 (.seq
 (.reg [.p (o2 (binG (cmpB .lss ltI)) r8 r7) w9])
 (.seq
 (.cond r9
 .skip
 (.exit 0))
 (.seq
 (.block 1
 (.seq
 (.reg [.p (o1 mvG r8) w5])
 (.seq
 (.block 2
 (.seq
 (.reg [.p (o2 idxG r0 r5) pushW, .p (o2 (eqG eqIV false) l0 (ctK (.int .u8 (Int.ofNat 34)))) pushW, .g l0 true false none (o1 mvG r3) pushW, .g l1 true false none (o1 notG l0) pushW, .g l2 true false none (o1 mvG l0) pushW, .g l0 false false none (o1 mvG r4) pushW, .g l1 false false none (o2 (binG (slowBin .rem)) l0 (ctK (.int .i64 (Int.ofNat 2)))) pushW, .g l2 false false none (o2 (eqG eqIV false) l0 (ctK (.int .i64 (Int.ofNat 0)))) pushW, .g l6 true false none (o3 pickG l3 (ctK (.bool true)) l0) pushW, .p (o3 pickG l7 l0 (ctK (.bool false))) pushW, .p (o1 mvG l0) w11])
 (.cond r11
 (.reg [.p (o1 mvG r3) pushW, .p (o1 notG l0) pushW, .p (o1 mvG l0) w3])
 (.seq
 (.reg [.p (o1 notG r3) pushW, .g l0 true false none (o1 mvG r0) pushW, .g l1 true false none (o1 mvG r5) pushW, .g l2 true false none (cutSO l1 (some l0) none) pushW, .g l3 true false none (callO 20 [l0, (ctK (.str 2 32125))]) pushW, .p (o3 pickG l4 l0 (ctK (.bool false))) pushW, .p (o1 mvG l0) w27])
 (.cond r27
 (.seq
 (.reg [.p (o1 mvG r5) w2])
 .ret)
 .skip)))))
 (.seq
 (.reg [.p (o2 idxG r0 r5) pushW, .p (o2 (eqG eqIV false) l0 (ctK (.int .u8 (Int.ofNat 92)))) w40])
 (.cond r40
 (.reg [.p (o1 mvG r4) pushW, .p (o2 (binG addB) l0 (ctK (.int .i64 (Int.ofNat 1)))) pushW, .p (o1 mvG l0) w4])
 (.reg [.p (o1 mvG (ctK (.int .i64 (Int.ofNat 0)))) w4]))))))
 (.reg [.p (o2 (binG addB) r8 (ctK (.int .i64 (Int.ofNat 1)))) pushW, .p (o1 mvG l0) w8])))))))
 (.seq
 (.reg [.p (o1 mvG (ctK (.int .i64 (Int.negSucc 0)))) w2])
 .ret)))) }
theorem kf17_ok : (compFn Try.prog Try.f17 [[], [0, 3, 4, 7, 8], [0, 3, 4, 7, 8], [0, 3, 4, 7, 8], [0, 3, 4, 5, 7, 8]]).bind (toKFn [6, 10, 12, 13, 14, 15, 16, 17, 18, 19, 20, 21, 22, 23, 24, 25, 26, 28, 29, 30, 31, 32, 33, 34, 35, 36, 37, 38, 39, 41, 42, 43] 1) = some kf17 := by kernel_rfl
noncomputable def kf20 : KFn := { params := [w0, w1], res := [(.s r4)], body :=
 (.seq
 (.reg [.p (o1 mvG (ctK (.bool false))) w4])
 (.seq
 (.reg [.p (callO 25 [r0, r1]) pushW, .p (o1 mvG l0) w4])
 .ret)) }
theorem kf20_ok : (compFn Try.prog Try.f20 []).bind (toKFn [5, 6, 7] 2) = some kf20 := by kernel_rfl
noncomputable def kf25 : KFn := { params := [w0, w1], res := [(.s r4)], body :=
 (.seq
 (.reg [.p (o1 mvG (ctK (.bool false))) w4])
 (.seq
 (.reg [.p (o1 lenSG r0) pushW, .p (o1 lenSG r1) pushW, .p (o2 (binG (cmpB .geq geI)) l1 l0) pushW, .g l0 true false none (o1 mvG r0) pushW, .g l1 true false none (o1 mvG r1) pushW, .g l2 true false none (o1 lenSG l0) pushW, .g l3 true false none (cutSO l2 none (some l0)) pushW, .g l4 true false none (o1 mvG r1) pushW, .g l5 true false none (o2 (eqG eqSV false) l1 l0) pushW, .p (o3 pickG l6 l0 (ctK (.bool false))) pushW, .p (o1 mvG l0) w4])
 .ret)) }
theorem kf25_ok : (compFn Try.prog Try.f25 []).bind (toKFn [5, 6, 7, 8, 9, 10, 11, 12, 13, 14, 15, 16, 17] 2) = some kf25 := by kernel_rfl
theorem mixed : Try.prog.follows .mixedOrders = true := by kernel_rfl
noncomputable def tabA : BT :=
  (.node 16 (.node 9 (.leaf 9 (compE 100000 Try.prog Try.f9 [] kf9))
  (.node 11 (.leaf 11 (compE 100000 Try.prog Try.f11 [[0], [4], [0, 4, 5], [0, 4, 5], [0, 4, 5, 6], [0, 4, 5], [0, 4, 5, 6], [4]] kf11))
  (.leaf 16 indexE)))
  (.node 17 (.leaf 17 (compE 100000 Try.prog Try.f17 [[], [0, 3, 4, 7, 8], [0, 3, 4, 7, 8], [0, 3, 4, 7, 8], [0, 3, 4, 5, 7, 8]] kf17))
  (.node 20 (.leaf 20 (compE 100000 Try.prog Try.f20 [] kf20))
  (.leaf 25 (compE 100000 Try.prog Try.f25 [] kf25)))))
theorem tabA_K : tabA.all fun _ e => BodyKOK e.k e.b := ⟨⟨compE_K kf9_ok, ⟨compE_K kf11_ok, indexE_K⟩⟩, ⟨compE_K kf17_ok, ⟨compE_K kf20_ok, compE_K kf25_ok⟩⟩⟩
theorem tabA_B {ρ : Nat → Value} {W : World} (hρ : ∀ i, (ρ i).oneCell' = true) (hm : hasM 0 W) : tabA.all fun i e => BodyOK Try.prog ρ ⟨W.heap.size, W⟩ i e.b :=
  ⟨⟨compE_B kf9_ok Try.func9 (by decide) hρ mixed, ⟨compE_B kf11_ok Try.func11 (by decide) hρ mixed, indexE_B Try.func16 (by kernel_rfl) (by decide) hm fun s sub m w hs hm => Try.strings_Index s sub m w hs hm⟩⟩, ⟨compE_B kf17_ok Try.func17 (by decide) hρ mixed, ⟨compE_B kf20_ok Try.func20 (by decide) hρ mixed, compE_B kf25_ok Try.func25 (by decide) hρ mixed⟩⟩⟩
theorem known_check : check tabA 1000 9 [] = true := by kernel_rfl
theorem known_calls (w : World) (hm : hasM 0 w) : Calls Try.prog 9 #[] w fun e w' => e = .returned (.bool true) ∧ Below w.heap.size w w' :=
  check_call (ρ := fun _ => .bool false) tabA_K (tabA_B (fun _ => rfl) hm) known_check (xs := []) rfl
end Go.Proofs.Ytfcdghdipkgpfaa
