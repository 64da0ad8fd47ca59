/- 'known' of chapter 6 is true, by its contracts. -/
import Derived.Test.YtjblgoefcobkgaaUse2
namespace Go.Proofs.Ytjblgoefcobkgaa
open Eva Go.RowKit
set_option maxRecDepth 100000
set_option linter.unusedSimpArgs false
set_option linter.unusedVariables false
def knA : Ty := .mk 7 [] [[97], [98]] [.mk 2 [] [] [], .mk 2 [] [] []]
def knB : Ty := .mk 7 [] [[97]] [.mk 6 [] [] [.mk 2 [] [] []]]
def knT : Tb := ⟨[⟨2, [], [], []⟩, ⟨7, [], [[97], [98]], [0, 0]⟩], [], 1, []⟩
def knU : Tb := ⟨[⟨2, [], [], []⟩, ⟨7, [], [[97], [98]], [0, 0]⟩, ⟨6, [], [], [0]⟩, ⟨7, [], [[97]], [2]⟩], [], 1, []⟩
theorem kn_new : newS ⟨knA, [], []⟩ = (some knT, 0) := by kernel_rfl
theorem kn_add : addT knB 400 knT = (knU, 3, 0, 397) := by kernel_rfl
theorem map_fst {α β : Type} {o : Option (α × β)} {x : α} (h : o.map (·.1) = some x) : ∃ y, o = some (x, y) := by
  cases o with
  | none => cases h
  | some p => injection h with h; exact ⟨p.2, by rw [← h]⟩
theorem kn_is : ∃ V, fitsS knU 10 [] 1 3 = some (true, V) := map_fst (by kernel_rfl)
theorem kn_no : ∃ V, fitsS knU 10 [] 3 1 = some (false, V) := map_fst (by kernel_rfl)
theorem knownC (st : St) (hw : WF st) : Does (tabT tabD) n_spruelaw6_known [] st fun v S => Gr st S ∧ v = .bool true := by
  refine does_fnG tabM at_spruelaw6_known rfl hw fun K fin => ?_
  obtain ⟨n, hn0⟩ : ∃ n, st.nx = up 0 n := ⟨_, up0 _⟩
  obtain ⟨I, hI⟩ : ∃ I : Fr → St → Prop, ∀ fr S, I fr S ↔ (Gr st S ∧ fr 2 = .ptr (up 3 n) 0 ∧ fr 3 = .ptr (up 7 n) 0 ∧ (∃ t, S.row (up 3 n) = .cells t [.int .i64 7, ofL [], .slx (up 1 n) 0 2 1 2, .slx (up 2 n) 0 2 4 2]) ∧ (∃ t, S.row (up 7 n) = .cells t [.int .i64 7, ofL [], .slx (up 4 n) 0 1 1 1, .slx (up 6 n) 0 1 4 1]) ∧
    TyC (fun _ => True) S [.int .i64 7, ofL [], .slx (up 1 n) 0 2 1 2, .slx (up 2 n) 0 2 4 2] knA ∧ TyC (fun _ => True) S [.int .i64 7, ofL [], .slx (up 4 n) 0 1 1 1, .slx (up 6 n) 0 1 4 1] knB) := ⟨_, fun _ _ => Iff.rfl⟩
  simp only [cf_spruelaw6_known, XX, splice_def, Nat.reduceEqDiff, ↓reduceIte, reduceCtorEq, Int.reduceToNat, Nat.reduceAdd, Nat.reduceMul, Int.reduceAdd, Int.reduceSub, Int.reduceLE, Int.reduceLT, Int.reduceNeg, Int.reduceMul, Int.reduceEq, Int.reduceNe, Nat.reduceLeDiff, Nat.reduceSub]
  rw [wC_seq]; simp only [XX, splice_def, Nat.reduceEqDiff, ↓reduceIte, reduceCtorEq, Int.reduceToNat, Nat.reduceAdd, Nat.reduceMul, Int.reduceAdd, Int.reduceSub, Int.reduceLE, Int.reduceLT, Int.reduceNeg, Int.reduceMul, Int.reduceEq, Int.reduceNe, Nat.reduceLeDiff, Nat.reduceSub]
  rw [wC_seq]; simp only [XX, splice_def, Nat.reduceEqDiff, ↓reduceIte, reduceCtorEq, Int.reduceToNat, Nat.reduceAdd, Nat.reduceMul, Int.reduceAdd, Int.reduceSub, Int.reduceLE, Int.reduceLT, Int.reduceNeg, Int.reduceMul, Int.reduceEq, Int.reduceNe, Nat.reduceLeDiff, Nat.reduceSub, hn0]
  rw [wC_seq]; simp only [XX, splice_def, Nat.reduceEqDiff, ↓reduceIte, reduceCtorEq, Int.reduceToNat, Nat.reduceAdd, Nat.reduceMul, Int.reduceAdd, Int.reduceSub, Int.reduceLE, Int.reduceLT, Int.reduceNeg, Int.reduceMul, Int.reduceEq, Int.reduceNe, Nat.reduceLeDiff, Nat.reduceSub, hn0]
  refine wC_scut I ?_ ?_
  · simp only [XX, wC_seq, wC_seqj, splice_def, Nat.reduceEqDiff, ↓reduceIte, reduceCtorEq, Int.reduceToNat, Nat.reduceAdd, Nat.reduceMul, Int.reduceAdd, Int.reduceSub, Int.reduceLE, Int.reduceLT, Int.reduceNeg, Int.reduceMul, Int.reduceEq, Int.reduceNe, Nat.reduceLeDiff, Nat.reduceSub, hn0]
    refine (hI _ _).2 ⟨(((((((Gr.refl hw).nw hn0 (good_cells _) (good_cells _)).nn (good_cells _)).nn (good_cells _)).nw (by simp only [XX, wC_seq, wC_seqj, splice_def, Nat.reduceEqDiff, ↓reduceIte, reduceCtorEq, Int.reduceToNat, Nat.reduceAdd, Nat.reduceMul, Int.reduceAdd, Int.reduceSub, Int.reduceLE, Int.reduceLT, Int.reduceNeg, Int.reduceMul, Int.reduceEq, Int.reduceNe, Nat.reduceLeDiff, Nat.reduceSub, hn0]) (good_cells _) (good_cells _)).nn (good_cells _)).nn (good_cells _)).nn (good_cells _) |>.nw (by simp only [XX, wC_seq, wC_seqj, splice_def, Nat.reduceEqDiff, ↓reduceIte, reduceCtorEq, Int.reduceToNat, Nat.reduceAdd, Nat.reduceMul, Int.reduceAdd, Int.reduceSub, Int.reduceLE, Int.reduceLT, Int.reduceNeg, Int.reduceMul, Int.reduceEq, Int.reduceNe, Nat.reduceLeDiff, Nat.reduceSub, hn0]) (good_cells _) (good_cells _), by simp only [XX, wC_seq, wC_seqj, splice_def, Nat.reduceEqDiff, ↓reduceIte, reduceCtorEq, Int.reduceToNat, Nat.reduceAdd, Nat.reduceMul, Int.reduceAdd, Int.reduceSub, Int.reduceLE, Int.reduceLT, Int.reduceNeg, Int.reduceMul, Int.reduceEq, Int.reduceNe, Nat.reduceLeDiff, Nat.reduceSub], by simp only [XX, wC_seq, wC_seqj, splice_def, Nat.reduceEqDiff, ↓reduceIte, reduceCtorEq, Int.reduceToNat, Nat.reduceAdd, Nat.reduceMul, Int.reduceAdd, Int.reduceSub, Int.reduceLE, Int.reduceLT, Int.reduceNeg, Int.reduceMul, Int.reduceEq, Int.reduceNe, Nat.reduceLeDiff, Nat.reduceSub], ⟨_, by simp only [XX, wC_seq, wC_seqj, splice_def, Nat.reduceEqDiff, ↓reduceIte, reduceCtorEq, Int.reduceToNat, Nat.reduceAdd, Nat.reduceMul, Int.reduceAdd, Int.reduceSub, Int.reduceLE, Int.reduceLT, Int.reduceNeg, Int.reduceMul, Int.reduceEq, Int.reduceNe, Nat.reduceLeDiff, Nat.reduceSub, hn0]; rfl⟩, ⟨_, by simp only [XX, wC_seq, wC_seqj, splice_def, Nat.reduceEqDiff, ↓reduceIte, reduceCtorEq, Int.reduceToNat, Nat.reduceAdd, Nat.reduceMul, Int.reduceAdd, Int.reduceSub, Int.reduceLE, Int.reduceLT, Int.reduceNeg, Int.reduceMul, Int.reduceEq, Int.reduceNe, Nat.reduceLeDiff, Nat.reduceSub, hn0]; rfl⟩, ?_, ?_⟩
    · refine .mk (es := [[.int .i64 2, ofL [], .snil, .snil], [.int .i64 2, ofL [], .snil, .snil]]) (SlAt.freshx (es := [[ofL [97]], [ofL [98]]]) (by simp only [XX, wC_seq, wC_seqj, splice_def, Nat.reduceEqDiff, ↓reduceIte, reduceCtorEq, Int.reduceToNat, Nat.reduceAdd, Nat.reduceMul, Int.reduceAdd, Int.reduceSub, Int.reduceLE, Int.reduceLT, Int.reduceNeg, Int.reduceMul, Int.reduceEq, Int.reduceNe, Nat.reduceLeDiff, Nat.reduceSub, hn0]; rfl) trivial (by simp)) (SlAt.freshx (es := [[.int .i64 2, ofL [], .snil, .snil], [.int .i64 2, ofL [], .snil, .snil]]) (by simp only [XX, wC_seq, wC_seqj, splice_def, Nat.reduceEqDiff, ↓reduceIte, reduceCtorEq, Int.reduceToNat, Nat.reduceAdd, Nat.reduceMul, Int.reduceAdd, Int.reduceSub, Int.reduceLE, Int.reduceLT, Int.reduceNeg, Int.reduceMul, Int.reduceEq, Int.reduceNe, Nat.reduceLeDiff, Nat.reduceSub, hn0]; rfl) trivial (by simp)) rfl fun i h h' => ?_
      have : i = 0 ∨ i = 1 := by simp at h; omega
      rcases this with rfl | rfl <;> exact base_at _ _ _
    · refine .mk (es := [[.int .i64 6, ofL [], .snil, .slx (up 5 n) 0 1 4 1]]) (SlAt.freshx (es := [[ofL [97]]]) (by simp only [XX, wC_seq, wC_seqj, splice_def, Nat.reduceEqDiff, ↓reduceIte, reduceCtorEq, Int.reduceToNat, Nat.reduceAdd, Nat.reduceMul, Int.reduceAdd, Int.reduceSub, Int.reduceLE, Int.reduceLT, Int.reduceNeg, Int.reduceMul, Int.reduceEq, Int.reduceNe, Nat.reduceLeDiff, Nat.reduceSub, hn0]; rfl) trivial (by simp)) (SlAt.freshx (es := [[.int .i64 6, ofL [], .snil, .slx (up 5 n) 0 1 4 1]]) (by simp only [XX, wC_seq, wC_seqj, splice_def, Nat.reduceEqDiff, ↓reduceIte, reduceCtorEq, Int.reduceToNat, Nat.reduceAdd, Nat.reduceMul, Int.reduceAdd, Int.reduceSub, Int.reduceLE, Int.reduceLT, Int.reduceNeg, Int.reduceMul, Int.reduceEq, Int.reduceNe, Nat.reduceLeDiff, Nat.reduceSub, hn0]; rfl) trivial (by simp)) rfl fun i h h' => ?_
      have : i = 0 := by simp at h; omega
      subst this
      refine .mk (es := [[.int .i64 2, ofL [], .snil, .snil]]) (SlAt.nil _ _ _) (SlAt.freshx (es := [[.int .i64 2, ofL [], .snil, .snil]]) (by simp only [XX, wC_seq, wC_seqj, splice_def, Nat.reduceEqDiff, ↓reduceIte, reduceCtorEq, Int.reduceToNat, Nat.reduceAdd, Nat.reduceMul, Int.reduceAdd, Int.reduceSub, Int.reduceLE, Int.reduceLT, Int.reduceNeg, Int.reduceMul, Int.reduceEq, Int.reduceNe, Nat.reduceLeDiff, Nat.reduceSub, hn0]; rfl) trivial (by simp)) rfl fun i h h' => ?_
      have : i = 0 := by simp at h; omega
      subst this
      exact base_at _ _ _
  intro fr S hIf
  obtain ⟨G0, f2, f3, ⟨t3, r3⟩, ⟨t7, r7⟩, tA, tB⟩ := (hI _ _).1 hIf
  rw [wC_seq]; simp only [XX, splice_def, Nat.reduceEqDiff, ↓reduceIte, reduceCtorEq, Int.reduceToNat, Nat.reduceAdd, Nat.reduceMul, Int.reduceAdd, Int.reduceSub, Int.reduceLE, Int.reduceLT, Int.reduceNeg, Int.reduceMul, Int.reduceEq, Int.reduceNe, Nat.reduceLeDiff, Nat.reduceSub, f2, r3]
  refine wCall_plain (newX1 G0.wf tA) ?_
  rintro v S1 ⟨G1, hp⟩
  rw [kn_new] at hp
  obtain ⟨rt, W, rfl, T1, K1⟩ := hp
  simp only [XX, splice_def, Nat.reduceEqDiff, ↓reduceIte, reduceCtorEq, Int.reduceToNat, Nat.reduceAdd, Nat.reduceMul, Int.reduceAdd, Int.reduceSub, Int.reduceLE, Int.reduceLT, Int.reduceNeg, Int.reduceMul, Int.reduceEq, Int.reduceNe, Nat.reduceLeDiff, Nat.reduceSub]
  have r7' := K1.row r7 fun h => h
  have tB' := K1.ty (tB.imp fun r _ _ => ⟨fun h => h, rfl⟩)
  rw [wC_seqj, wC_seq]; simp only [XX, splice_def, Nat.reduceEqDiff, ↓reduceIte, reduceCtorEq, Int.reduceToNat, Nat.reduceAdd, Nat.reduceMul, Int.reduceAdd, Int.reduceSub, Int.reduceLE, Int.reduceLT, Int.reduceNeg, Int.reduceMul, Int.reduceEq, Int.reduceNe, Nat.reduceLeDiff, Nat.reduceSub, eqV_pn]
  rw [wC_seq]; simp only [XX, splice_def, Nat.reduceEqDiff, ↓reduceIte, reduceCtorEq, Int.reduceToNat, Nat.reduceAdd, Nat.reduceMul, Int.reduceAdd, Int.reduceSub, Int.reduceLE, Int.reduceLT, Int.reduceNeg, Int.reduceMul, Int.reduceEq, Int.reduceNe, Nat.reduceLeDiff, Nat.reduceSub, f3, r7']
  refine wCall_plain (addX T1 tB') ?_
  rw [kn_add]
  rintro _ S2 ⟨W2, T2, K2, rfl⟩
  simp only [XX, splice_def, Nat.reduceEqDiff, ↓reduceIte, reduceCtorEq, Int.reduceToNat, Nat.reduceAdd, Nat.reduceMul, Int.reduceAdd, Int.reduceSub, Int.reduceLE, Int.reduceLT, Int.reduceNeg, Int.reduceMul, Int.reduceEq, Int.reduceNe, Nat.reduceLeDiff, Nat.reduceSub]
  rw [wC_seq]; simp only [XX, splice_def, Nat.reduceEqDiff, ↓reduceIte, reduceCtorEq, Int.reduceToNat, Nat.reduceAdd, Nat.reduceMul, Int.reduceAdd, Int.reduceSub, Int.reduceLE, Int.reduceLT, Int.reduceNeg, Int.reduceMul, Int.reduceEq, Int.reduceNe, Nat.reduceLeDiff, Nat.reduceSub]
  refine wCall_plain (mainX T2) ?_
  rintro _ _ ⟨rfl, rfl⟩
  simp only [XX, splice_def, Nat.reduceEqDiff, ↓reduceIte, reduceCtorEq, Int.reduceToNat, Nat.reduceAdd, Nat.reduceMul, Int.reduceAdd, Int.reduceSub, Int.reduceLE, Int.reduceLT, Int.reduceNeg, Int.reduceMul, Int.reduceEq, Int.reduceNe, Nat.reduceLeDiff, Nat.reduceSub]
  refine wCall_plain (leX T2 (a := 1) (b := 3) (by decide) (by decide) ⟨10, kn_is⟩) ?_
  rintro _ S3 ⟨T3, K3, n3, rfl⟩
  simp only [XX, splice_def, Nat.reduceEqDiff, ↓reduceIte, reduceCtorEq, Int.reduceToNat, Nat.reduceAdd, Nat.reduceMul, Int.reduceAdd, Int.reduceSub, Int.reduceLE, Int.reduceLT, Int.reduceNeg, Int.reduceMul, Int.reduceEq, Int.reduceNe, Nat.reduceLeDiff, Nat.reduceSub]
  rw [wC_seq]; simp only [XX, splice_def, Nat.reduceEqDiff, ↓reduceIte, reduceCtorEq, Int.reduceToNat, Nat.reduceAdd, Nat.reduceMul, Int.reduceAdd, Int.reduceSub, Int.reduceLE, Int.reduceLT, Int.reduceNeg, Int.reduceMul, Int.reduceEq, Int.reduceNe, Nat.reduceLeDiff, Nat.reduceSub]
  refine wCall_plain (mainX T3) ?_
  rintro _ _ ⟨rfl, rfl⟩
  simp only [XX, splice_def, Nat.reduceEqDiff, ↓reduceIte, reduceCtorEq, Int.reduceToNat, Nat.reduceAdd, Nat.reduceMul, Int.reduceAdd, Int.reduceSub, Int.reduceLE, Int.reduceLT, Int.reduceNeg, Int.reduceMul, Int.reduceEq, Int.reduceNe, Nat.reduceLeDiff, Nat.reduceSub]
  refine wCall_plain (leX T3 (a := 3) (b := 1) (by decide) (by decide) ⟨10, kn_no⟩) ?_
  rintro _ S4 ⟨T4, K4, n4, rfl⟩
  simp only [XX, wC_seq, wC_seqj, splice_def, Nat.reduceEqDiff, ↓reduceIte, reduceCtorEq, Int.reduceToNat, Nat.reduceAdd, Nat.reduceMul, Int.reduceAdd, Int.reduceSub, Int.reduceLE, Int.reduceLT, Int.reduceNeg, Int.reduceMul, Int.reduceEq, Int.reduceNe, Nat.reduceLeDiff, Nat.reduceSub]
  exact fin _ _ (fun r e => by
    have e0 : S.row r ≠ .none := by rw [G0.same r e]; exact e
    rw [((((K1.trans K2).trans K3).trans K4) r e0 fun h => h).1, G0.same r e]) fun _ => rfl
end Go.Proofs.Ytjblgoefcobkgaa
