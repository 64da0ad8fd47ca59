/- The type that a raw tree is made into. -/
import Derived.Test.YtajifckdgaoncaaPut
namespace Go.Proofs.Ytajifckdgaoncaa
open Eva Go.RowKit
set_option maxRecDepth 100000
set_option linter.unusedSimpArgs false
set_option linter.unusedVariables false
def TreeAt (nms : List Str) (d : Nat) : Prop := ∀ {P Q : Pt → Prop} {st : St} {e : List V} {r : Rw} {nv : V}, WF st → RwC P st e r → SlAt Q st nv 1 (strs nms) →
  Does (tabT tabD) n_spruelaw3_Tree [.agg e, .int .i64 d, nv] st fun v st' => Gr st st' ∧ ∃ e', v = .agg e' ∧ TyC (fun r => st.row r = .none) st' e' (treeS nms d r)
theorem kindR_mem (nms : List Str) (d : Nat) (r : Rw) : kindR nms d r = 1 ∨ kindR nms d r = 2 ∨ kindR nms d r = 3 ∨ kindR nms d r = 4 ∨ kindR nms d r = 5 ∨ kindR nms d r = 6 ∨ kindR nms d r = 7 ∨ kindR nms d r = 8 ∨ kindR nms d r = 9 := by
  have e1 := Int.emod_nonneg r.kind (show (9 : Int) ≠ 0 by decide)
  have e2 := Int.emod_lt_of_pos r.kind (show (0 : Int) < 9 by decide)
  unfold kindR
  split
  · omega
  · omega
theorem putS_len {t x : Ty} {n : Str} {i : Nat} (h1 : t.kids.length = t.names.length) (h2 : t.names.length ≤ i) : (putS t n x).kids.length = (putS t n x).names.length ∧ (putS t n x).names.length ≤ i + 1 := by
  unfold putS
  split
  · exact ⟨h1, by omega⟩
  · have := placeS_le n t.names
    simp [Ty.kids, Ty.names] at *
    omega
set_option maxHeartbeats 4000000 in
theorem treeCore (nms : List Str) (hnm : nms.length < 1000) (d : Nat) (hd : d < 1000) (ih : d ≠ 0 → TreeAt nms d) : TreeAt nms (d + 1) := by
  intro P Q st e r nv hw h hn
  refine does_fn at_spruelaw3_Tree rfl ?_
  have hr := h
  obtain ⟨rnv, rkv, es, rfl, hk, hnn, hz, h1, h2, h3, ⟨hl1, hl2⟩, h4⟩ := h.inv
  obtain ⟨n0, hn0⟩ : ∃ n, st.nx = up 0 n := ⟨_, up0 _⟩
  obtain ⟨b, hb⟩ : ∃ b, b = up 0 n0 := ⟨_, rfl⟩
  obtain ⟨b2, hb2⟩ : ∃ b, b = up 1 n0 := ⟨_, rfl⟩
  have c1 := h1.cells
  have s1 := h1.sc
  have c2 := h2.cells
  have s2 := h2.sc
  have lenN := hn.len
  rw [strs_len] at lenN
  have e1 := Int.emod_nonneg r.kind (show (9 : Int) ≠ 0 by decide)
  have e2 := Int.emod_lt_of_pos r.kind (show (0 : Int) < 9 by decide)
  simp only [cf_spruelaw3_Tree, XX, splice_def, Nat.reduceEqDiff, ↓reduceIte, reduceCtorEq, Int.reduceToNat, Nat.reduceAdd, Nat.reduceMul, Int.reduceAdd, Int.reduceSub, Int.reduceLE, Int.reduceLT, Int.reduceNeg, Int.reduceMul, Int.reduceEq, Int.reduceNe, Nat.reduceLeDiff, Nat.reduceSub]
  rw [wC_seq]; simp only [XX, splice_def, Nat.reduceEqDiff, ↓reduceIte, reduceCtorEq, Int.reduceToNat, Nat.reduceAdd, Nat.reduceMul, Int.reduceAdd, Int.reduceSub, Int.reduceLE, Int.reduceLT, Int.reduceNeg, Int.reduceMul, Int.reduceEq, Int.reduceNe, Nat.reduceLeDiff, Nat.reduceSub, hn0, c1, s1, c2, s2]
  have hd1 : (((d + 1 : Nat) : Int)) = (d : Int) + 1 := by omega
  obtain ⟨S0, hS0⟩ : ∃ S0, S0 = ((st.new fun t => .cells t [.int .i64 r.kind, .int .i64 r.n, rnv, rkv]).new fun t => .cells t [.int .i64 0, ofL [], .snil, .snil]) := ⟨_, rfl⟩
  have g0 : Gr st S0 := by rw [hS0]; exact ((Gr.refl hw).nn (good_cells _)).nn (good_cells _)
  have r1 : S0.row b = .cells st.t [.int .i64 r.kind, .int .i64 r.n, rnv, rkv] := by rw [hS0, hb]; simp only [XX, wC_seq, wC_seqj, splice_def, Nat.reduceEqDiff, ↓reduceIte, reduceCtorEq, Int.reduceToNat, Nat.reduceAdd, Nat.reduceMul, Int.reduceAdd, Int.reduceSub, Int.reduceLE, Int.reduceLT, Int.reduceNeg, Int.reduceMul, Int.reduceEq, Int.reduceNe, Nat.reduceLeDiff, Nat.reduceSub, hn0]
  have r2 : ∃ t, S0.row b2 = .cells t [.int .i64 0, ofL [], .snil, .snil] := ⟨_, by rw [hS0, hb2]; simp only [XX, wC_seq, wC_seqj, splice_def, Nat.reduceEqDiff, ↓reduceIte, reduceCtorEq, Int.reduceToNat, Nat.reduceAdd, Nat.reduceMul, Int.reduceAdd, Int.reduceSub, Int.reduceLE, Int.reduceLT, Int.reduceNeg, Int.reduceMul, Int.reduceEq, Int.reduceNe, Nat.reduceLeDiff, Nat.reduceSub, hn0]; rfl⟩
  rw [← hb, ← hb2, ← hS0]
  have w0 := g0.wf
  have nb1 : st.row b = .none := by rw [hb]; exact nx0 hw hn0 0
  have nb2 : st.row b2 = .none := by rw [hb2]; exact nx0 hw hn0 1
  have b12 : b ≠ b2 := by
    rw [hb, hb2]
    simp only [XX, wC_seq, wC_seqj, splice_def, Nat.reduceEqDiff, ↓reduceIte, reduceCtorEq, Int.reduceToNat, Nat.reduceAdd, Nat.reduceMul, Int.reduceAdd, Int.reduceSub, Int.reduceLE, Int.reduceLT, Int.reduceNeg, Int.reduceMul, Int.reduceEq, Int.reduceNe, Nat.reduceLeDiff, Nat.reduceSub]
  clear hS0
  obtain ⟨t2, r2⟩ := r2
  obtain ⟨K, hK⟩ : ∃ K, K = 1 + r.kind % 9 := ⟨_, rfl⟩
  have hKw : IntKind.i64.wrap (1 + r.kind % 9) = K := by rw [hK]; exact i64_in (by omega) (by omega)
  rw [wC_seq]; simp only [XX, splice_def, Nat.reduceEqDiff, ↓reduceIte, reduceCtorEq, Int.reduceToNat, Nat.reduceAdd, Nat.reduceMul, Int.reduceAdd, Int.reduceSub, Int.reduceLE, Int.reduceLT, Int.reduceNeg, Int.reduceMul, Int.reduceEq, Int.reduceNe, Nat.reduceLeDiff, Nat.reduceSub, r1]
  refine wCall_plain (within3C r.kind 9 _ (by decide) (by decide)) ?_
  rintro _ _ ⟨rfl, rfl⟩
  simp only [XX, splice_def, Nat.reduceEqDiff, ↓reduceIte, reduceCtorEq, Int.reduceToNat, Nat.reduceAdd, Nat.reduceMul, Int.reduceAdd, Int.reduceSub, Int.reduceLE, Int.reduceLT, Int.reduceNeg, Int.reduceMul, Int.reduceEq, Int.reduceNe, Nat.reduceLeDiff, Nat.reduceSub, hKw]
  obtain ⟨k, hkk⟩ : ∃ k, k = kindR nms (d + 1) r := ⟨_, rfl⟩
  obtain ⟨B, hB⟩ : ∃ B : Fr → Prop, ∀ fr, B fr ↔ (fr 1 = .int .i64 ((d + 1 : Nat) : Int) ∧ fr 2 = nv ∧ fr 3 = .ptr b 0 ∧ fr 6 = .ptr b2 0 ∧ fr 7 = .int .i64 k) := ⟨_, fun _ => Iff.rfl⟩
  obtain ⟨I, hI⟩ : ∃ I : Fr → St → Prop, ∀ fr S, I fr S ↔ (S0 = S ∧ B fr) := ⟨_, fun _ _ => Iff.rfl⟩
  have hkd : k = if (K = 9 ∧ nms = []) ∨ (d + 1 ≤ 1 ∧ 4 ≤ K ∧ K ≤ 8) then 2 else K := by rw [hkk, hK]; rfl
  refine wC_cut I ?_ ?_
  · by_cases k9 : K = 9
    · by_cases hnn0 : nms = []
      · have hk2 : k = 2 := by rw [hkd, if_pos (.inl ⟨k9, hnn0⟩)]
        rw [hnn0] at lenN
        simp only [XX, wC_seq, wC_seqj, splice_def, Nat.reduceEqDiff, ↓reduceIte, reduceCtorEq, Int.reduceToNat, Nat.reduceAdd, Nat.reduceMul, Int.reduceAdd, Int.reduceSub, Int.reduceLE, Int.reduceLT, Int.reduceNeg, Int.reduceMul, Int.reduceEq, Int.reduceNe, Nat.reduceLeDiff, Nat.reduceSub, k9, lenN, Int.natCast_zero]
        exact (hI _ _).2 ⟨rfl, (hB _).2 (by simp only [XX, wC_seq, wC_seqj, splice_def, Nat.reduceEqDiff, ↓reduceIte, reduceCtorEq, Int.reduceToNat, Nat.reduceAdd, Nat.reduceMul, Int.reduceAdd, Int.reduceSub, Int.reduceLE, Int.reduceLT, Int.reduceNeg, Int.reduceMul, Int.reduceEq, Int.reduceNe, Nat.reduceLeDiff, Nat.reduceSub, hk2, and_self])⟩
      · have hk2 : k = 9 := by rw [hkd, if_neg (by rintro (⟨_, h⟩ | ⟨_, _, h⟩); exact hnn0 h; omega), k9]
        have hl0 : ((nms.length : Nat) : Int) ≠ 0 := fun e => hnn0 (List.length_eq_zero_iff.1 (by omega))
        by_cases h1d : ((d + 1 : Nat) : Int) ≤ 1
        · simp only [XX, wC_seq, wC_seqj, splice_def, Nat.reduceEqDiff, ↓reduceIte, reduceCtorEq, Int.reduceToNat, Nat.reduceAdd, Nat.reduceMul, Int.reduceAdd, Int.reduceSub, Int.reduceLE, Int.reduceLT, Int.reduceNeg, Int.reduceMul, Int.reduceEq, Int.reduceNe, Nat.reduceLeDiff, Nat.reduceSub, k9, lenN, hl0, h1d]
          exact (hI _ _).2 ⟨rfl, (hB _).2 (by simp only [XX, wC_seq, wC_seqj, splice_def, Nat.reduceEqDiff, ↓reduceIte, reduceCtorEq, Int.reduceToNat, Nat.reduceAdd, Nat.reduceMul, Int.reduceAdd, Int.reduceSub, Int.reduceLE, Int.reduceLT, Int.reduceNeg, Int.reduceMul, Int.reduceEq, Int.reduceNe, Nat.reduceLeDiff, Nat.reduceSub, hk2, and_self])⟩
        · simp only [XX, wC_seq, wC_seqj, splice_def, Nat.reduceEqDiff, ↓reduceIte, reduceCtorEq, Int.reduceToNat, Nat.reduceAdd, Nat.reduceMul, Int.reduceAdd, Int.reduceSub, Int.reduceLE, Int.reduceLT, Int.reduceNeg, Int.reduceMul, Int.reduceEq, Int.reduceNe, Nat.reduceLeDiff, Nat.reduceSub, k9, lenN, hl0, h1d]
          exact (hI _ _).2 ⟨rfl, (hB _).2 (by simp only [XX, wC_seq, wC_seqj, splice_def, Nat.reduceEqDiff, ↓reduceIte, reduceCtorEq, Int.reduceToNat, Nat.reduceAdd, Nat.reduceMul, Int.reduceAdd, Int.reduceSub, Int.reduceLE, Int.reduceLT, Int.reduceNeg, Int.reduceMul, Int.reduceEq, Int.reduceNe, Nat.reduceLeDiff, Nat.reduceSub, hk2, and_self])⟩
    · by_cases h1d : ((d + 1 : Nat) : Int) ≤ 1
      · by_cases k4 : 4 ≤ K
        · have k8 : K ≤ 8 := by omega
          have hk2 : k = 2 := by rw [hkd, if_pos (.inr ⟨by omega, k4, k8⟩)]
          simp only [XX, wC_seq, wC_seqj, splice_def, Nat.reduceEqDiff, ↓reduceIte, reduceCtorEq, Int.reduceToNat, Nat.reduceAdd, Nat.reduceMul, Int.reduceAdd, Int.reduceSub, Int.reduceLE, Int.reduceLT, Int.reduceNeg, Int.reduceMul, Int.reduceEq, Int.reduceNe, Nat.reduceLeDiff, Nat.reduceSub, k9, h1d, k4, k8]
          exact (hI _ _).2 ⟨rfl, (hB _).2 (by simp only [XX, wC_seq, wC_seqj, splice_def, Nat.reduceEqDiff, ↓reduceIte, reduceCtorEq, Int.reduceToNat, Nat.reduceAdd, Nat.reduceMul, Int.reduceAdd, Int.reduceSub, Int.reduceLE, Int.reduceLT, Int.reduceNeg, Int.reduceMul, Int.reduceEq, Int.reduceNe, Nat.reduceLeDiff, Nat.reduceSub, hk2, and_self])⟩
        · have hk2 : k = K := by rw [hkd, if_neg (by rintro (⟨h, _⟩ | ⟨_, h, _⟩); exact k9 h; exact k4 h)]
          simp only [XX, wC_seq, wC_seqj, splice_def, Nat.reduceEqDiff, ↓reduceIte, reduceCtorEq, Int.reduceToNat, Nat.reduceAdd, Nat.reduceMul, Int.reduceAdd, Int.reduceSub, Int.reduceLE, Int.reduceLT, Int.reduceNeg, Int.reduceMul, Int.reduceEq, Int.reduceNe, Nat.reduceLeDiff, Nat.reduceSub, k9, h1d, k4]
          exact (hI _ _).2 ⟨rfl, (hB _).2 (by simp only [XX, wC_seq, wC_seqj, splice_def, Nat.reduceEqDiff, ↓reduceIte, reduceCtorEq, Int.reduceToNat, Nat.reduceAdd, Nat.reduceMul, Int.reduceAdd, Int.reduceSub, Int.reduceLE, Int.reduceLT, Int.reduceNeg, Int.reduceMul, Int.reduceEq, Int.reduceNe, Nat.reduceLeDiff, Nat.reduceSub, hk2, and_self])⟩
      · have hk2 : k = K := by rw [hkd, if_neg (by rintro (⟨h, _⟩ | ⟨h, _⟩); exact k9 h; omega)]
        simp only [XX, wC_seq, wC_seqj, splice_def, Nat.reduceEqDiff, ↓reduceIte, reduceCtorEq, Int.reduceToNat, Nat.reduceAdd, Nat.reduceMul, Int.reduceAdd, Int.reduceSub, Int.reduceLE, Int.reduceLT, Int.reduceNeg, Int.reduceMul, Int.reduceEq, Int.reduceNe, Nat.reduceLeDiff, Nat.reduceSub, k9, h1d]
        exact (hI _ _).2 ⟨rfl, (hB _).2 (by simp only [XX, wC_seq, wC_seqj, splice_def, Nat.reduceEqDiff, ↓reduceIte, reduceCtorEq, Int.reduceToNat, Nat.reduceAdd, Nat.reduceMul, Int.reduceAdd, Int.reduceSub, Int.reduceLE, Int.reduceLT, Int.reduceNeg, Int.reduceMul, Int.reduceEq, Int.reduceNe, Nat.reduceLeDiff, Nat.reduceSub, hk2, and_self])⟩
  intro fr S hIf
  obtain ⟨rfl, hBf⟩ := (hI _ _).1 hIf
  obtain ⟨f1, f2, f3, f6, f7⟩ := (hB _).1 hBf
  obtain ⟨m0, hm0⟩ : ∃ n, S0.nx = up 0 n := ⟨_, up0 _⟩
  obtain ⟨bt, hbt⟩ : ∃ b, b = up 0 m0 := ⟨_, rfl⟩
  rw [wC_seq]; simp only [XX, splice_def, Nat.reduceEqDiff, ↓reduceIte, reduceCtorEq, Int.reduceToNat, Nat.reduceAdd, Nat.reduceMul, Int.reduceAdd, Int.reduceSub, Int.reduceLE, Int.reduceLT, Int.reduceNeg, Int.reduceMul, Int.reduceEq, Int.reduceNe, Nat.reduceLeDiff, Nat.reduceSub, f7, hm0]
  rw [← hbt]
  have nbt0 : S0.row bt = .none := by rw [hbt]; exact nx0 w0 hm0 0
  have nbt : st.row bt = .none := Ch.fresh (Ch.of (fun _ => False) g0) nbt0
  obtain ⟨S1, hS1⟩ : ∃ S1, S1 = ((S0.new fun t => .cells t [.int .i64 0, ofL [], .snil, .snil]).wr bt S0.t fun u => .cells u [.int .i64 k, ofL [], .snil, .snil]) := ⟨_, rfl⟩
  have g01 : Gr S0 S1 := by rw [hS1, hbt]; exact (Gr.refl w0).nw hm0 (good_cells _) (good_cells _)
  have rt : S1.row bt = .cells S0.t.succ [.int .i64 k, ofL [], .snil, .snil] := by rw [hS1]; exact row_wr_same _ _ _ _
  rw [← hS1]
  clear hS1
  have g1 : Gr st S1 := g0.trans g01
  have b2t : b2 ≠ bt := fun e => by rw [e, nbt0] at r2; cases r2
  have bbt : b ≠ bt := fun e => by rw [e, nbt0] at r1; cases r1
  have r1 := g01.cells r1
  have r2 := g01.cells r2
  obtain ⟨J, hJ⟩ : ∃ J : Fr → St → Prop, ∀ fr S, J fr S ↔ (∃ T te t, treeS nms (d + 1) r = T ∧ fr 6 = .ptr b2 0 ∧ fr 8 = .ptr bt 0 ∧ Gr st S ∧ S.row bt = .cells t te ∧ S.row b2 = .cells t2 [.int .i64 0, ofL [], .snil, .snil] ∧ TyC (fun r => S1.row r = .none) S te T) := ⟨_, fun _ _ => Iff.rfl⟩
  have hmem := kindR_mem nms (d + 1) r
  rw [← hkk] at hmem
  have flat : ∀ (P : Pt → Prop) (S : St) (k : Int) (n : Str), TyC P S [.int .i64 k, ofL n, .snil, .snil] (.mk k n [] []) := fun P S k n => .mk (es := []) (SlAt.nil _ _ _) (SlAt.nil _ _ _) rfl fun i h => absurd h (by simp)
  have hd0 : 4 ≤ k → k ≤ 8 → d ≠ 0 := fun a b e => by
    subst e
    by_cases c : (K = 9 ∧ nms = []) ∨ (0 + 1 ≤ 1 ∧ 4 ≤ K ∧ K ≤ 8)
    · rw [if_pos c] at hkd; omega
    · rw [if_neg c] at hkd; exact c (.inr ⟨by omega, by omega, by omega⟩)
  have hsubd : IntKind.i64.wrap (((d + 1 : Nat) : Int) - 1) = (d : Int) := by rw [i64_in (by omega) (by omega)]; omega
  have st1 : ∀ r, S1.row r = .none → st.row r = .none := fun r h => Ch.fresh (Ch.of (fun _ => False) g1) h
  refine wC_cut J ?_ ?_
  · rcases hmem with rfl | rfl | rfl | rfl | rfl | rfl | rfl | rfl | rfl
    · simp only [XX, wC_seq, wC_seqj, splice_def, Nat.reduceEqDiff, ↓reduceIte, reduceCtorEq, Int.reduceToNat, Nat.reduceAdd, Nat.reduceMul, Int.reduceAdd, Int.reduceSub, Int.reduceLE, Int.reduceLT, Int.reduceNeg, Int.reduceMul, Int.reduceEq, Int.reduceNe, Nat.reduceLeDiff, Nat.reduceSub, f7]
      exact (hJ _ _).2 ⟨_, _, _, by rw [treeS]; simp only [← hkk]; rfl, by simp only [XX, wC_seq, wC_seqj, splice_def, Nat.reduceEqDiff, ↓reduceIte, reduceCtorEq, Int.reduceToNat, Nat.reduceAdd, Nat.reduceMul, Int.reduceAdd, Int.reduceSub, Int.reduceLE, Int.reduceLT, Int.reduceNeg, Int.reduceMul, Int.reduceEq, Int.reduceNe, Nat.reduceLeDiff, Nat.reduceSub, f6], by simp only [XX, wC_seq, wC_seqj, splice_def, Nat.reduceEqDiff, ↓reduceIte, reduceCtorEq, Int.reduceToNat, Nat.reduceAdd, Nat.reduceMul, Int.reduceAdd, Int.reduceSub, Int.reduceLE, Int.reduceLT, Int.reduceNeg, Int.reduceMul, Int.reduceEq, Int.reduceNe, Nat.reduceLeDiff, Nat.reduceSub], g1, rt, r2, flat _ _ _ _⟩
    · simp only [XX, wC_seq, wC_seqj, splice_def, Nat.reduceEqDiff, ↓reduceIte, reduceCtorEq, Int.reduceToNat, Nat.reduceAdd, Nat.reduceMul, Int.reduceAdd, Int.reduceSub, Int.reduceLE, Int.reduceLT, Int.reduceNeg, Int.reduceMul, Int.reduceEq, Int.reduceNe, Nat.reduceLeDiff, Nat.reduceSub, f7]
      exact (hJ _ _).2 ⟨_, _, _, by rw [treeS]; simp only [← hkk]; rfl, by simp only [XX, wC_seq, wC_seqj, splice_def, Nat.reduceEqDiff, ↓reduceIte, reduceCtorEq, Int.reduceToNat, Nat.reduceAdd, Nat.reduceMul, Int.reduceAdd, Int.reduceSub, Int.reduceLE, Int.reduceLT, Int.reduceNeg, Int.reduceMul, Int.reduceEq, Int.reduceNe, Nat.reduceLeDiff, Nat.reduceSub, f6], by simp only [XX, wC_seq, wC_seqj, splice_def, Nat.reduceEqDiff, ↓reduceIte, reduceCtorEq, Int.reduceToNat, Nat.reduceAdd, Nat.reduceMul, Int.reduceAdd, Int.reduceSub, Int.reduceLE, Int.reduceLT, Int.reduceNeg, Int.reduceMul, Int.reduceEq, Int.reduceNe, Nat.reduceLeDiff, Nat.reduceSub], g1, rt, r2, flat _ _ _ _⟩
    · simp only [XX, wC_seq, wC_seqj, splice_def, Nat.reduceEqDiff, ↓reduceIte, reduceCtorEq, Int.reduceToNat, Nat.reduceAdd, Nat.reduceMul, Int.reduceAdd, Int.reduceSub, Int.reduceLE, Int.reduceLT, Int.reduceNeg, Int.reduceMul, Int.reduceEq, Int.reduceNe, Nat.reduceLeDiff, Nat.reduceSub, f7]
      exact (hJ _ _).2 ⟨_, _, _, by rw [treeS]; simp only [← hkk]; rfl, by simp only [XX, wC_seq, wC_seqj, splice_def, Nat.reduceEqDiff, ↓reduceIte, reduceCtorEq, Int.reduceToNat, Nat.reduceAdd, Nat.reduceMul, Int.reduceAdd, Int.reduceSub, Int.reduceLE, Int.reduceLT, Int.reduceNeg, Int.reduceMul, Int.reduceEq, Int.reduceNe, Nat.reduceLeDiff, Nat.reduceSub, f6], by simp only [XX, wC_seq, wC_seqj, splice_def, Nat.reduceEqDiff, ↓reduceIte, reduceCtorEq, Int.reduceToNat, Nat.reduceAdd, Nat.reduceMul, Int.reduceAdd, Int.reduceSub, Int.reduceLE, Int.reduceLT, Int.reduceNeg, Int.reduceMul, Int.reduceEq, Int.reduceNe, Nat.reduceLeDiff, Nat.reduceSub], g1, rt, r2, flat _ _ _ _⟩
    · have hd0' := hd0 (by decide) (by decide)
      simp only [XX, wC_seq, wC_seqj, splice_def, Nat.reduceEqDiff, ↓reduceIte, reduceCtorEq, Int.reduceToNat, Nat.reduceAdd, Nat.reduceMul, Int.reduceAdd, Int.reduceSub, Int.reduceLE, Int.reduceLT, Int.reduceNeg, Int.reduceMul, Int.reduceEq, Int.reduceNe, Nat.reduceLeDiff, Nat.reduceSub, f1, f2, f3, f7, r1, c1, s1, c2, s2]
      refine wCall_plain (kidC g1.wf (hr.gr g1) 0 (by decide)) ?_
      rintro _ S2 ⟨g2, ke, rfl, hke⟩
      simp only [XX, wC_seq, wC_seqj, splice_def, Nat.reduceEqDiff, ↓reduceIte, reduceCtorEq, Int.reduceToNat, Nat.reduceAdd, Nat.reduceMul, Int.reduceAdd, Int.reduceSub, Int.reduceLE, Int.reduceLT, Int.reduceNeg, Int.reduceMul, Int.reduceEq, Int.reduceNe, Nat.reduceLeDiff, Nat.reduceSub, f1, f2, hsubd]
      refine wCall_plain (ih hd0' g2.wf hke (hn.gr (g1.trans g2))) ?_
      rintro _ S3 ⟨g3, ce, rfl, hce⟩
      obtain ⟨cnv, ckv, ces, rfl, y1, y3, y4, y5⟩ := hce.inv
      have d1 := y1.cells
      have d2 := y1.sc
      have d3 := y3.cells
      have d4 := y3.sc
      have rt3 := g3.cells (g2.cells rt)
      obtain ⟨m3, hm3⟩ : ∃ n, S3.nx = up 0 n := ⟨_, up0 _⟩
      have ot := fun j => nes (ne_up g3.wf hm3 (ne_cells rt3) j)
      simp only [XX, wC_seq, wC_seqj, splice_def, Nat.reduceEqDiff, ↓reduceIte, reduceCtorEq, Int.reduceToNat, Nat.reduceAdd, Nat.reduceMul, Int.reduceAdd, Int.reduceSub, Int.reduceLE, Int.reduceLT, Int.reduceNeg, Int.reduceMul, Int.reduceEq, Int.reduceNe, Nat.reduceLeDiff, Nat.reduceSub, f7, hm3, ot, rt3, d1, d2, d3, d4]
      obtain ⟨S4, hS4⟩ : ∃ S4, S4 = ((S3.new fun t => .cells t [.int .i64 (treeS nms d (kidS r 0)).kind, ofL (treeS nms d (kidS r 0)).name, cnv, ckv]).wr bt S0.t.succ fun u => .cells u [.int .i64 4, ofL [], .snil, .slx (up 0 m3) 0 1 4 1]) := ⟨_, rfl⟩
      rw [← hS4]
      have gN : Gr S3 (S3.new fun t => .cells t [.int .i64 (treeS nms d (kidS r 0)).kind, ofL (treeS nms d (kidS r 0)).name, cnv, ckv]) := Gr.new g3.wf (good_cells _)
      have g13 : Gr st S3 := g1.trans (g2.trans g3)
      have g4 : Gr st S4 := by rw [hS4]; exact (g13.trans gN).wr nbt (ne_cells (gN.cells rt3)) (by rw [gN.cells rt3]; rfl) (good_cells _)
      have qt : up 0 m3 ≠ bt := fun e => by have := nx0 g3.wf hm3 0; rw [e, rt3] at this; cases this
      have rq : S4.row (up 0 m3) = .cells S3.t [.int .i64 (treeS nms d (kidS r 0)).kind, ofL (treeS nms d (kidS r 0)).name, cnv, ckv] := by rw [hS4, row_wr_ne _ _ _ qt, ← hm3]; exact row_new_nx _ _
      have rb4 : S4.row b2 = .cells t2 [.int .i64 0, ofL [], .snil, .snil] := by rw [hS4, row_wr_ne _ _ _ b2t]; exact gN.cells (g3.cells (g2.cells r2))
      have rt4 : ∃ t, S4.row bt = .cells t [.int .i64 4, ofL [], .snil, .slx (up 0 m3) 0 1 4 1] := ⟨_, by rw [hS4]; exact row_wr_same _ _ _ _⟩
      obtain ⟨t4, rt4⟩ := rt4
      have q1 : S1.row (up 0 m3) = .none := Ch.fresh (Ch.of (fun _ => False) (g2.trans g3)) (nx0 g3.wf hm3 0)
      have hce4 : TyC (fun r => S1.row r = .none) S4 [.int .i64 (treeS nms d (kidS r 0)).kind, ofL (treeS nms d (kidS r 0)).name, cnv, ckv] (treeS nms d (kidS r 0)) := hce.imp fun r p e => ⟨Ch.fresh (Ch.of (fun _ => False) g2) p, by
        rw [hS4, row_wr_ne _ _ _ fun k => by rw [k, g2.cells rt] at p; cases p]
        exact gN.same r e⟩
      have hall : TyC (fun r => S1.row r = .none) S4 [.int .i64 4, ofL [], .snil, .slx (up 0 m3) 0 1 4 1] (.mk 4 [] [] [treeS nms d (kidS r 0)]) :=
        .mk (es := [[.int .i64 (treeS nms d (kidS r 0)).kind, ofL (treeS nms d (kidS r 0)).name, cnv, ckv]]) (SlAt.nil _ _ _) ⟨fun e he => by rw [List.mem_singleton.1 he]; rfl, .inr ⟨up 0 m3, 0, q1, .inr ⟨1, Nat.le_refl 1, rfl⟩, _, .inl ⟨_, rq⟩, by simp, by simp⟩⟩ rfl fun i h h' => by
          have : i = 0 := by simp at h; omega
          subst this
          exact hce4
      clear hS4
      exact (hJ _ _).2 ⟨_, _, _, by rw [treeS]; simp only [← hkk]; rfl, by simp only [XX, wC_seq, wC_seqj, splice_def, Nat.reduceEqDiff, ↓reduceIte, reduceCtorEq, Int.reduceToNat, Nat.reduceAdd, Nat.reduceMul, Int.reduceAdd, Int.reduceSub, Int.reduceLE, Int.reduceLT, Int.reduceNeg, Int.reduceMul, Int.reduceEq, Int.reduceNe, Nat.reduceLeDiff, Nat.reduceSub, f6], by simp only [XX, wC_seq, wC_seqj, splice_def, Nat.reduceEqDiff, ↓reduceIte, reduceCtorEq, Int.reduceToNat, Nat.reduceAdd, Nat.reduceMul, Int.reduceAdd, Int.reduceSub, Int.reduceLE, Int.reduceLT, Int.reduceNeg, Int.reduceMul, Int.reduceEq, Int.reduceNe, Nat.reduceLeDiff, Nat.reduceSub], g4, rt4, rb4, hall⟩
    · have hd0' := hd0 (by decide) (by decide)
      simp only [XX, wC_seq, wC_seqj, splice_def, Nat.reduceEqDiff, ↓reduceIte, reduceCtorEq, Int.reduceToNat, Nat.reduceAdd, Nat.reduceMul, Int.reduceAdd, Int.reduceSub, Int.reduceLE, Int.reduceLT, Int.reduceNeg, Int.reduceMul, Int.reduceEq, Int.reduceNe, Nat.reduceLeDiff, Nat.reduceSub, f1, f2, f3, f7, r1, c1, s1, c2, s2]
      refine wCall_plain (kidC g1.wf (hr.gr g1) 0 (by decide)) ?_
      rintro _ S2 ⟨g2, ke, rfl, hke⟩
      simp only [XX, wC_seq, wC_seqj, splice_def, Nat.reduceEqDiff, ↓reduceIte, reduceCtorEq, Int.reduceToNat, Nat.reduceAdd, Nat.reduceMul, Int.reduceAdd, Int.reduceSub, Int.reduceLE, Int.reduceLT, Int.reduceNeg, Int.reduceMul, Int.reduceEq, Int.reduceNe, Nat.reduceLeDiff, Nat.reduceSub, f1, f2, hsubd]
      refine wCall_plain (ih hd0' g2.wf hke (hn.gr (g1.trans g2))) ?_
      rintro _ S3 ⟨g3, ce, rfl, hce⟩
      obtain ⟨cnv, ckv, ces, rfl, y1, y3, y4, y5⟩ := hce.inv
      have d1 := y1.cells
      have d2 := y1.sc
      have d3 := y3.cells
      have d4 := y3.sc
      have rt3 := g3.cells (g2.cells rt)
      obtain ⟨m3, hm3⟩ : ∃ n, S3.nx = up 0 n := ⟨_, up0 _⟩
      have ot := fun j => nes (ne_up g3.wf hm3 (ne_cells rt3) j)
      simp only [XX, wC_seq, wC_seqj, splice_def, Nat.reduceEqDiff, ↓reduceIte, reduceCtorEq, Int.reduceToNat, Nat.reduceAdd, Nat.reduceMul, Int.reduceAdd, Int.reduceSub, Int.reduceLE, Int.reduceLT, Int.reduceNeg, Int.reduceMul, Int.reduceEq, Int.reduceNe, Nat.reduceLeDiff, Nat.reduceSub, f7, hm3, ot, rt3, d1, d2, d3, d4]
      obtain ⟨S4, hS4⟩ : ∃ S4, S4 = ((S3.new fun t => .cells t [.int .i64 (treeS nms d (kidS r 0)).kind, ofL (treeS nms d (kidS r 0)).name, cnv, ckv]).wr bt S0.t.succ fun u => .cells u [.int .i64 5, ofL [], .snil, .slx (up 0 m3) 0 1 4 1]) := ⟨_, rfl⟩
      rw [← hS4]
      have gN : Gr S3 (S3.new fun t => .cells t [.int .i64 (treeS nms d (kidS r 0)).kind, ofL (treeS nms d (kidS r 0)).name, cnv, ckv]) := Gr.new g3.wf (good_cells _)
      have g13 : Gr st S3 := g1.trans (g2.trans g3)
      have g4 : Gr st S4 := by rw [hS4]; exact (g13.trans gN).wr nbt (ne_cells (gN.cells rt3)) (by rw [gN.cells rt3]; rfl) (good_cells _)
      have qt : up 0 m3 ≠ bt := fun e => by have := nx0 g3.wf hm3 0; rw [e, rt3] at this; cases this
      have rq : S4.row (up 0 m3) = .cells S3.t [.int .i64 (treeS nms d (kidS r 0)).kind, ofL (treeS nms d (kidS r 0)).name, cnv, ckv] := by rw [hS4, row_wr_ne _ _ _ qt, ← hm3]; exact row_new_nx _ _
      have rb4 : S4.row b2 = .cells t2 [.int .i64 0, ofL [], .snil, .snil] := by rw [hS4, row_wr_ne _ _ _ b2t]; exact gN.cells (g3.cells (g2.cells r2))
      have rt4 : ∃ t, S4.row bt = .cells t [.int .i64 5, ofL [], .snil, .slx (up 0 m3) 0 1 4 1] := ⟨_, by rw [hS4]; exact row_wr_same _ _ _ _⟩
      obtain ⟨t4, rt4⟩ := rt4
      have q1 : S1.row (up 0 m3) = .none := Ch.fresh (Ch.of (fun _ => False) (g2.trans g3)) (nx0 g3.wf hm3 0)
      have hce4 : TyC (fun r => S1.row r = .none) S4 [.int .i64 (treeS nms d (kidS r 0)).kind, ofL (treeS nms d (kidS r 0)).name, cnv, ckv] (treeS nms d (kidS r 0)) := hce.imp fun r p e => ⟨Ch.fresh (Ch.of (fun _ => False) g2) p, by
        rw [hS4, row_wr_ne _ _ _ fun k => by rw [k, g2.cells rt] at p; cases p]
        exact gN.same r e⟩
      have hall : TyC (fun r => S1.row r = .none) S4 [.int .i64 5, ofL [], .snil, .slx (up 0 m3) 0 1 4 1] (.mk 5 [] [] [treeS nms d (kidS r 0)]) :=
        .mk (es := [[.int .i64 (treeS nms d (kidS r 0)).kind, ofL (treeS nms d (kidS r 0)).name, cnv, ckv]]) (SlAt.nil _ _ _) ⟨fun e he => by rw [List.mem_singleton.1 he]; rfl, .inr ⟨up 0 m3, 0, q1, .inr ⟨1, Nat.le_refl 1, rfl⟩, _, .inl ⟨_, rq⟩, by simp, by simp⟩⟩ rfl fun i h h' => by
          have : i = 0 := by simp at h; omega
          subst this
          exact hce4
      clear hS4
      exact (hJ _ _).2 ⟨_, _, _, by rw [treeS]; simp only [← hkk]; rfl, by simp only [XX, wC_seq, wC_seqj, splice_def, Nat.reduceEqDiff, ↓reduceIte, reduceCtorEq, Int.reduceToNat, Nat.reduceAdd, Nat.reduceMul, Int.reduceAdd, Int.reduceSub, Int.reduceLE, Int.reduceLT, Int.reduceNeg, Int.reduceMul, Int.reduceEq, Int.reduceNe, Nat.reduceLeDiff, Nat.reduceSub, f6], by simp only [XX, wC_seq, wC_seqj, splice_def, Nat.reduceEqDiff, ↓reduceIte, reduceCtorEq, Int.reduceToNat, Nat.reduceAdd, Nat.reduceMul, Int.reduceAdd, Int.reduceSub, Int.reduceLE, Int.reduceLT, Int.reduceNeg, Int.reduceMul, Int.reduceEq, Int.reduceNe, Nat.reduceLeDiff, Nat.reduceSub], g4, rt4, rb4, hall⟩
    · have hd0' := hd0 (by decide) (by decide)
      simp only [XX, wC_seq, wC_seqj, splice_def, Nat.reduceEqDiff, ↓reduceIte, reduceCtorEq, Int.reduceToNat, Nat.reduceAdd, Nat.reduceMul, Int.reduceAdd, Int.reduceSub, Int.reduceLE, Int.reduceLT, Int.reduceNeg, Int.reduceMul, Int.reduceEq, Int.reduceNe, Nat.reduceLeDiff, Nat.reduceSub, f1, f2, f3, f7, r1, c1, s1, c2, s2]
      refine wCall_plain (kidC g1.wf (hr.gr g1) 0 (by decide)) ?_
      rintro _ S2 ⟨g2, ke, rfl, hke⟩
      simp only [XX, wC_seq, wC_seqj, splice_def, Nat.reduceEqDiff, ↓reduceIte, reduceCtorEq, Int.reduceToNat, Nat.reduceAdd, Nat.reduceMul, Int.reduceAdd, Int.reduceSub, Int.reduceLE, Int.reduceLT, Int.reduceNeg, Int.reduceMul, Int.reduceEq, Int.reduceNe, Nat.reduceLeDiff, Nat.reduceSub, f1, f2, hsubd]
      refine wCall_plain (ih hd0' g2.wf hke (hn.gr (g1.trans g2))) ?_
      rintro _ S3 ⟨g3, ce, rfl, hce⟩
      obtain ⟨cnv, ckv, ces, rfl, y1, y3, y4, y5⟩ := hce.inv
      have d1 := y1.cells
      have d2 := y1.sc
      have d3 := y3.cells
      have d4 := y3.sc
      have rt3 := g3.cells (g2.cells rt)
      obtain ⟨m3, hm3⟩ : ∃ n, S3.nx = up 0 n := ⟨_, up0 _⟩
      have ot := fun j => nes (ne_up g3.wf hm3 (ne_cells rt3) j)
      simp only [XX, wC_seq, wC_seqj, splice_def, Nat.reduceEqDiff, ↓reduceIte, reduceCtorEq, Int.reduceToNat, Nat.reduceAdd, Nat.reduceMul, Int.reduceAdd, Int.reduceSub, Int.reduceLE, Int.reduceLT, Int.reduceNeg, Int.reduceMul, Int.reduceEq, Int.reduceNe, Nat.reduceLeDiff, Nat.reduceSub, f7, hm3, ot, rt3, d1, d2, d3, d4]
      obtain ⟨S4, hS4⟩ : ∃ S4, S4 = ((S3.new fun t => .cells t [.int .i64 (treeS nms d (kidS r 0)).kind, ofL (treeS nms d (kidS r 0)).name, cnv, ckv]).wr bt S0.t.succ fun u => .cells u [.int .i64 6, ofL [], .snil, .slx (up 0 m3) 0 1 4 1]) := ⟨_, rfl⟩
      rw [← hS4]
      have gN : Gr S3 (S3.new fun t => .cells t [.int .i64 (treeS nms d (kidS r 0)).kind, ofL (treeS nms d (kidS r 0)).name, cnv, ckv]) := Gr.new g3.wf (good_cells _)
      have g13 : Gr st S3 := g1.trans (g2.trans g3)
      have g4 : Gr st S4 := by rw [hS4]; exact (g13.trans gN).wr nbt (ne_cells (gN.cells rt3)) (by rw [gN.cells rt3]; rfl) (good_cells _)
      have qt : up 0 m3 ≠ bt := fun e => by have := nx0 g3.wf hm3 0; rw [e, rt3] at this; cases this
      have rq : S4.row (up 0 m3) = .cells S3.t [.int .i64 (treeS nms d (kidS r 0)).kind, ofL (treeS nms d (kidS r 0)).name, cnv, ckv] := by rw [hS4, row_wr_ne _ _ _ qt, ← hm3]; exact row_new_nx _ _
      have rb4 : S4.row b2 = .cells t2 [.int .i64 0, ofL [], .snil, .snil] := by rw [hS4, row_wr_ne _ _ _ b2t]; exact gN.cells (g3.cells (g2.cells r2))
      have rt4 : ∃ t, S4.row bt = .cells t [.int .i64 6, ofL [], .snil, .slx (up 0 m3) 0 1 4 1] := ⟨_, by rw [hS4]; exact row_wr_same _ _ _ _⟩
      obtain ⟨t4, rt4⟩ := rt4
      have q1 : S1.row (up 0 m3) = .none := Ch.fresh (Ch.of (fun _ => False) (g2.trans g3)) (nx0 g3.wf hm3 0)
      have hce4 : TyC (fun r => S1.row r = .none) S4 [.int .i64 (treeS nms d (kidS r 0)).kind, ofL (treeS nms d (kidS r 0)).name, cnv, ckv] (treeS nms d (kidS r 0)) := hce.imp fun r p e => ⟨Ch.fresh (Ch.of (fun _ => False) g2) p, by
        rw [hS4, row_wr_ne _ _ _ fun k => by rw [k, g2.cells rt] at p; cases p]
        exact gN.same r e⟩
      have hall : TyC (fun r => S1.row r = .none) S4 [.int .i64 6, ofL [], .snil, .slx (up 0 m3) 0 1 4 1] (.mk 6 [] [] [treeS nms d (kidS r 0)]) :=
        .mk (es := [[.int .i64 (treeS nms d (kidS r 0)).kind, ofL (treeS nms d (kidS r 0)).name, cnv, ckv]]) (SlAt.nil _ _ _) ⟨fun e he => by rw [List.mem_singleton.1 he]; rfl, .inr ⟨up 0 m3, 0, q1, .inr ⟨1, Nat.le_refl 1, rfl⟩, _, .inl ⟨_, rq⟩, by simp, by simp⟩⟩ rfl fun i h h' => by
          have : i = 0 := by simp at h; omega
          subst this
          exact hce4
      clear hS4
      refine ⟨by decide, ?_⟩
      have htree : treeS nms (d + 1) r = if (6 : Int) = 6 ∧ (treeS nms d (kidS r 0)).kind = 6 then treeS nms d (kidS r 0) else .mk 6 [] [] [treeS nms d (kidS r 0)] := by rw [treeS]; simp only [← hkk]; rfl
      by_cases h6 : (treeS nms d (kidS r 0)).kind = 6
      · rw [if_pos ⟨rfl, h6⟩] at htree
        have hdec : decide ((treeS nms d (kidS r 0)).kind = 6) = true := decide_eq_true h6
        rw [hdec]
        simp only [XX, wC_seq, wC_seqj, splice_def, Nat.reduceEqDiff, ↓reduceIte, reduceCtorEq, Int.reduceToNat, Nat.reduceAdd, Nat.reduceMul, Int.reduceAdd, Int.reduceSub, Int.reduceLE, Int.reduceLT, Int.reduceNeg, Int.reduceMul, Int.reduceEq, Int.reduceNe, Nat.reduceLeDiff, Nat.reduceSub, f6, rt4, rq, rb4, d1, d2, d3, d4]
        refine ⟨by decide, g4.wr nb2 (ne_cells rb4) (by first | (rw [rb4]; done) | (rw [rb4]; rfl)) (good_cells _), _, rfl, ?_⟩
        rw [htree]
        exact hce4.imp fun r p _ => ⟨st1 r p, row_wr_ne _ _ _ fun e => by rw [e] at p; rw [p] at r2; cases r2⟩
      · rw [if_neg fun e => h6 e.2] at htree
        have hdec : decide ((treeS nms d (kidS r 0)).kind = 6) = false := decide_eq_false h6
        rw [hdec]
        simp only [XX, wC_seq, wC_seqj, splice_def, Nat.reduceEqDiff, ↓reduceIte, reduceCtorEq, Int.reduceToNat, Nat.reduceAdd, Nat.reduceMul, Int.reduceAdd, Int.reduceSub, Int.reduceLE, Int.reduceLT, Int.reduceNeg, Int.reduceMul, Int.reduceEq, Int.reduceNe, Nat.reduceLeDiff, Nat.reduceSub]
        exact (hJ _ _).2 ⟨_, _, _, htree, by simp only [XX, wC_seq, wC_seqj, splice_def, Nat.reduceEqDiff, ↓reduceIte, reduceCtorEq, Int.reduceToNat, Nat.reduceAdd, Nat.reduceMul, Int.reduceAdd, Int.reduceSub, Int.reduceLE, Int.reduceLT, Int.reduceNeg, Int.reduceMul, Int.reduceEq, Int.reduceNe, Nat.reduceLeDiff, Nat.reduceSub, f6], by simp only [XX, wC_seq, wC_seqj, splice_def, Nat.reduceEqDiff, ↓reduceIte, reduceCtorEq, Int.reduceToNat, Nat.reduceAdd, Nat.reduceMul, Int.reduceAdd, Int.reduceSub, Int.reduceLE, Int.reduceLT, Int.reduceNeg, Int.reduceMul, Int.reduceEq, Int.reduceNe, Nat.reduceLeDiff, Nat.reduceSub], g4, rt4, rb4, hall⟩
    · have hd0' := hd0 (by decide) (by decide)
      have lenR := h1.len
      rw [cellsI_len] at lenR
      obtain ⟨cnt, hcnt⟩ : ∃ c, c = countR 7 r := ⟨_, rfl⟩
      have hcv : cnt = max (min r.names.length 4) 0 := by rw [hcnt]; rfl
      obtain ⟨Ti, hTi⟩ : ∃ Ti : Nat → Ty, Ti = fun i => (List.range i).foldl (fun t i => putS t (nameAt r i) (treeS nms d (kidS r i))) (.mk 7 [] [] []) := ⟨_, rfl⟩
      have hT0 : Ti 0 = .mk 7 [] [] [] := by rw [hTi]; rfl
      have hTs : ∀ i, Ti (i + 1) = putS (Ti i) (nameAt r i) (treeS nms d (kidS r i)) := fun i => by rw [hTi]; simp only [List.range_succ, List.foldl_append]; rfl
      have hTl : ∀ i, (Ti i).kids.length = (Ti i).names.length ∧ (Ti i).names.length ≤ i := fun i => by
        induction i with
        | zero => rw [hT0]; exact ⟨rfl, Nat.le_refl _⟩
        | succ i ihi => rw [hTs]; exact putS_len ihi.1 ihi.2
      have htree : treeS nms (d + 1) r = Ti cnt := by rw [treeS, hTi, hcnt]; simp only [← hkk]; rfl
      obtain ⟨L, hL⟩ : ∃ L : Nat → Fr → St → Prop, ∀ j fr S, L j fr S ↔ ∃ (i : Nat) (te : List V) (t : Nat), j + i = cnt ∧ B fr ∧ fr 8 = .ptr bt 0 ∧ fr 9 = .int .i64 i ∧ Gr st S ∧ (∀ r, S.row r = .none → S1.row r = .none) ∧ S.row b = .cells st.t [.int .i64 r.kind, .int .i64 r.n, rnv, rkv] ∧ S.row b2 = .cells t2 [.int .i64 0, ofL [], .snil, .snil] ∧ S.row bt = .cells t te ∧ TyC (fun r => S1.row r = .none) S te (Ti i) := ⟨_, fun _ _ _ => Iff.rfl⟩
      simp only [XX, wC_seq, wC_seqj, splice_def, Nat.reduceEqDiff, ↓reduceIte, reduceCtorEq, Int.reduceToNat, Nat.reduceAdd, Nat.reduceMul, Int.reduceAdd, Int.reduceSub, Int.reduceLE, Int.reduceLT, Int.reduceNeg, Int.reduceMul, Int.reduceEq, Int.reduceNe, Nat.reduceLeDiff, Nat.reduceSub, f7]
      refine wC_loop L cnt (by omega) ((hL _ _ _).2 ⟨0, _, _, by omega, (hB _).2 (by simp only [XX, wC_seq, wC_seqj, splice_def, Nat.reduceEqDiff, ↓reduceIte, reduceCtorEq, Int.reduceToNat, Nat.reduceAdd, Nat.reduceMul, Int.reduceAdd, Int.reduceSub, Int.reduceLE, Int.reduceLT, Int.reduceNeg, Int.reduceMul, Int.reduceEq, Int.reduceNe, Nat.reduceLeDiff, Nat.reduceSub, f1, f2, f3, f6, f7, and_self]), by simp only [XX, wC_seq, wC_seqj, splice_def, Nat.reduceEqDiff, ↓reduceIte, reduceCtorEq, Int.reduceToNat, Nat.reduceAdd, Nat.reduceMul, Int.reduceAdd, Int.reduceSub, Int.reduceLE, Int.reduceLT, Int.reduceNeg, Int.reduceMul, Int.reduceEq, Int.reduceNe, Nat.reduceLeDiff, Nat.reduceSub], by simp only [XX, wC_seq, wC_seqj, splice_def, Nat.reduceEqDiff, ↓reduceIte, reduceCtorEq, Int.reduceToNat, Nat.reduceAdd, Nat.reduceMul, Int.reduceAdd, Int.reduceSub, Int.reduceLE, Int.reduceLT, Int.reduceNeg, Int.reduceMul, Int.reduceEq, Int.reduceNe, Nat.reduceLeDiff, Nat.reduceSub]; rfl, g1, fun r h => h, r1, r2, rt, by rw [hT0]; exact flat _ _ _ _⟩) ?_
      clear f1 f2 f3 f6 f7 hBf
      intro j fr S hLj
      obtain ⟨i, te, t, hj, hBf, f8, f9, hg, hfresh, q1, q2, q3, hte⟩ := (hL _ _ _).1 hLj
      obtain ⟨f1, f2, f3, f6, f7⟩ := (hB _).1 hBf
      have hadd1 : IntKind.i64.wrap ((i : Int) + 1) = ((i + 1 : Nat) : Int) := by rw [i64_in (by omega) (by omega)]; rfl
      have done : ∀ {fr : Fr}, i = cnt → fr 6 = .ptr b2 0 → fr 8 = .ptr bt 0 → J fr S := fun e a c => (hJ _ _).2 ⟨Ti cnt, te, t, htree, a, c, hg, q3, q2, by rw [← e]; exact hte⟩
      have hte0 := hte
      obtain ⟨tnv, tkv, tes, rfl, y1, y3, y4, y5⟩ := hte.inv
      have d1 := y1.cells
      have d2 := y1.sc
      have d3 := y3.cells
      have d4 := y3.sc
      by_cases hA : i < r.names.length
      · have hA' : (i : Int) < r.names.length := by omega
        by_cases h4i : i < 4
        · have h4' : (i : Int) < 4 := by omega
          obtain ⟨zq, zo, z1, z2, z3, z4, z5⟩ := (h1.gr hg).elem (i := i) (by rw [cellsI_len]; exact hA)
          have zl : (cellsI r.names)[i]'(by rw [cellsI_len]; exact hA) = [.int .i64 r.names[i]] := by simp [cellsI]
          have z6 : ld1 (S.row zq) zo = some (.int .i64 r.names[i], .no) := by
            have := z5 0 (by rw [zl]; simp)
            simp only [zl] at this
            exact this
          simp only [XX, wC_seq, wC_seqj, splice_def, Nat.reduceEqDiff, ↓reduceIte, reduceCtorEq, Int.reduceToNat, Nat.reduceAdd, Nat.reduceMul, Int.reduceAdd, Int.reduceSub, Int.reduceLE, Int.reduceLT, Int.reduceNeg, Int.reduceMul, Int.reduceEq, Int.reduceNe, Nat.reduceLeDiff, Nat.reduceSub, f1, f2, f3, f6, f7, f8, f9, q1, lenR, hA', h4', z1, z6]
          refine wCall_plain (nameC _ _ hg.wf) ?_
          rintro _ S2 ⟨g2, rfl⟩
          have hnm : nameS r.names[i] = nameAt r i := by unfold nameAt; rw [List.getElem?_eq_getElem hA]
          rw [hnm]
          have q1' := q1
          have q2' := q2
          have q3' := q3
          have q1 := g2.cells q1
          have q2 := g2.cells q2
          have q3 := g2.cells q3
          simp only [XX, wC_seq, wC_seqj, splice_def, Nat.reduceEqDiff, ↓reduceIte, reduceCtorEq, Int.reduceToNat, Nat.reduceAdd, Nat.reduceMul, Int.reduceAdd, Int.reduceSub, Int.reduceLE, Int.reduceLT, Int.reduceNeg, Int.reduceMul, Int.reduceEq, Int.reduceNe, Nat.reduceLeDiff, Nat.reduceSub, f1, f2, f3, f6, f7, f8, f9, q1, q3, c1, s1, c2, s2, d1, d2, d3, d4]
          refine wCall_marked (kidC (wf_low g2.wf S2.t) (((hr.gr hg).gr g2).imp fun r p _ => ⟨p, rfl⟩) i (by omega)) ?_
          rintro _ S3 g3 ⟨ke, rfl, hke⟩
          simp only [XX, wC_seq, wC_seqj, splice_def, Nat.reduceEqDiff, ↓reduceIte, reduceCtorEq, Int.reduceToNat, Nat.reduceAdd, Nat.reduceMul, Int.reduceAdd, Int.reduceSub, Int.reduceLE, Int.reduceLT, Int.reduceNeg, Int.reduceMul, Int.reduceEq, Int.reduceNe, Nat.reduceLeDiff, Nat.reduceSub, f1, f2, f3, f6, f7, f8, f9, hsubd]
          refine wCall_marked (ih hd0' (wf_low g3.wf S3.t) (hke.imp fun r p _ => ⟨p, rfl⟩) ((((hn.gr hg).gr g2).gr g3).imp fun r p _ => ⟨p, rfl⟩)) ?_
          rintro _ S4 g4 ⟨ce, rfl, hce⟩
          simp only [XX, wC_seq, wC_seqj, splice_def, Nat.reduceEqDiff, ↓reduceIte, reduceCtorEq, Int.reduceToNat, Nat.reduceAdd, Nat.reduceMul, Int.reduceAdd, Int.reduceSub, Int.reduceLE, Int.reduceLT, Int.reduceNeg, Int.reduceMul, Int.reduceEq, Int.reduceNe, Nat.reduceLeDiff, Nat.reduceSub, f1, f2, f3, f6, f7, f8, f9]
          have gA : Gr S S4 := g2.trans (g3.trans g4)
          have fr4 : ∀ r, S4.row r = .none → S1.row r = .none := fun r h => hfresh r (Ch.fresh (Ch.of (fun _ => False) gA) h)
          have fr3 : ∀ r, S3.row r = .none → S1.row r = .none := fun r h => hfresh r (Ch.fresh (Ch.of (fun _ => False) (g2.trans g3)) h)
          refine wCall_marked (putC (P := fun r => S1.row r = .none) (t := Ti i) (x := treeS nms d (kidS r i)) (nameAt r i) (wf_low g4.wf S4.t) ((hte0.gr gA).imp fun r p _ => ⟨p, rfl⟩) (hce.imp fun r p _ => ⟨fr3 r p, rfl⟩) (by have := (hTl i).2; omega) (hTl i).1 fr4) ?_
          rintro _ S5 g5 ⟨e5, rfl, he5⟩
          have he5' : TyC (fun r => S1.row r = .none) S5 e5 (Ti (i + 1)) := by rw [hTs]; exact he5.imp fun r p _ => ⟨p, rfl⟩
          have he6 := he5'
          obtain ⟨xnv, xkv, xes, rfl, x1, x3, x4, x5⟩ := he5'.inv
          have m1 := x1.cells
          have m2 := x1.sc
          have m3 := x3.cells
          have m4 := x3.sc
          have gB : Gr S S5 := gA.trans g5
          have q1 := gB.cells q1'
          have q2 := gB.cells q2'
          have q3 := gB.cells q3'
          simp only [XX, wC_seq, wC_seqj, splice_def, Nat.reduceEqDiff, ↓reduceIte, reduceCtorEq, Int.reduceToNat, Nat.reduceAdd, Nat.reduceMul, Int.reduceAdd, Int.reduceSub, Int.reduceLE, Int.reduceLT, Int.reduceNeg, Int.reduceMul, Int.reduceEq, Int.reduceNe, Nat.reduceLeDiff, Nat.reduceSub, f1, f2, f3, f6, f7, f8, f9, q3, m1, m2, m3, m4, hadd1, apartAll_nil]
          have bne : b ≠ bt := bbt
          have g6 := (hg.trans gB).wr (f := fun u => .cells u [.int .i64 (Ti (i + 1)).kind, ofL (Ti (i + 1)).name, xnv, xkv]) nbt (ne_cells q3) (by first | (rw [q3]; done) | (rw [q3]; rfl)) (good_cells _)
          refine ⟨cnt - (i + 1), by omega, (hL _ _ _).2 ⟨i + 1, _, _, by omega, (hB _).2 (by simp only [XX, wC_seq, wC_seqj, splice_def, Nat.reduceEqDiff, ↓reduceIte, reduceCtorEq, Int.reduceToNat, Nat.reduceAdd, Nat.reduceMul, Int.reduceAdd, Int.reduceSub, Int.reduceLE, Int.reduceLT, Int.reduceNeg, Int.reduceMul, Int.reduceEq, Int.reduceNe, Nat.reduceLeDiff, Nat.reduceSub, f1, f2, f3, f6, f7, and_self]), by simp only [XX, wC_seq, wC_seqj, splice_def, Nat.reduceEqDiff, ↓reduceIte, reduceCtorEq, Int.reduceToNat, Nat.reduceAdd, Nat.reduceMul, Int.reduceAdd, Int.reduceSub, Int.reduceLE, Int.reduceLT, Int.reduceNeg, Int.reduceMul, Int.reduceEq, Int.reduceNe, Nat.reduceLeDiff, Nat.reduceSub, f8], by simp only [XX, wC_seq, wC_seqj, splice_def, Nat.reduceEqDiff, ↓reduceIte, reduceCtorEq, Int.reduceToNat, Nat.reduceAdd, Nat.reduceMul, Int.reduceAdd, Int.reduceSub, Int.reduceLE, Int.reduceLT, Int.reduceNeg, Int.reduceMul, Int.reduceEq, Int.reduceNe, Nat.reduceLeDiff, Nat.reduceSub], g6, fun r h => ?_, by rw [row_wr_ne _ _ _ bne]; exact q1, by rw [row_wr_ne _ _ _ b2t]; exact q2, row_wr_same _ _ _ _, he6.imp fun r p _ => ⟨p, row_wr_ne _ _ _ fun e => by rw [e] at p; rw [p] at rt; cases rt⟩⟩⟩
          refine hfresh r (Ch.fresh (Ch.of (fun _ => False) gB) ?_)
          by_cases e : r = bt
          · rw [e, row_wr_same] at h; cases h
          · rwa [row_wr_ne _ _ _ e] at h
        · have h4' : ¬ (i : Int) < 4 := by omega
          have hi0 : ¬ (i : Int) = 0 := by omega
          simp only [XX, wC_seq, wC_seqj, splice_def, Nat.reduceEqDiff, ↓reduceIte, reduceCtorEq, Int.reduceToNat, Nat.reduceAdd, Nat.reduceMul, Int.reduceAdd, Int.reduceSub, Int.reduceLE, Int.reduceLT, Int.reduceNeg, Int.reduceMul, Int.reduceEq, Int.reduceNe, Nat.reduceLeDiff, Nat.reduceSub, f1, f2, f3, f6, f7, f8, f9, q1, lenR, hA', h4', hi0]
          exact done (by omega) (by simp only [XX, wC_seq, wC_seqj, splice_def, Nat.reduceEqDiff, ↓reduceIte, reduceCtorEq, Int.reduceToNat, Nat.reduceAdd, Nat.reduceMul, Int.reduceAdd, Int.reduceSub, Int.reduceLE, Int.reduceLT, Int.reduceNeg, Int.reduceMul, Int.reduceEq, Int.reduceNe, Nat.reduceLeDiff, Nat.reduceSub, f6]) (by simp only [XX, wC_seq, wC_seqj, splice_def, Nat.reduceEqDiff, ↓reduceIte, reduceCtorEq, Int.reduceToNat, Nat.reduceAdd, Nat.reduceMul, Int.reduceAdd, Int.reduceSub, Int.reduceLE, Int.reduceLT, Int.reduceNeg, Int.reduceMul, Int.reduceEq, Int.reduceNe, Nat.reduceLeDiff, Nat.reduceSub, f8])
      · have hA' : ¬ (i : Int) < r.names.length := by omega
        by_cases hi0 : i = 0
        · have hi0' : ((i : Int) = 0) = True := eq_true (by omega)
          by_cases hone : 0 = 1
          · first
            | exact absurd hone (by decide)
            | simp only [XX, wC_seq, wC_seqj, splice_def, Nat.reduceEqDiff, ↓reduceIte, reduceCtorEq, Int.reduceToNat, Nat.reduceAdd, Nat.reduceMul, Int.reduceAdd, Int.reduceSub, Int.reduceLE, Int.reduceLT, Int.reduceNeg, Int.reduceMul, Int.reduceEq, Int.reduceNe, Nat.reduceLeDiff, Nat.reduceSub, f1, f2, f3, f6, f7, f8, f9, q1, q3, lenR, hA', hi0', c1, s1, c2, s2, d1, d2, d3, d4]
              have g2 : Gr S S := Gr.refl hg.wf
              have hnm : ([117] : Str) = nameAt r i := by unfold nameAt; rw [List.getElem?_eq_none (by omega)]
              rw [hnm]
              have q1' := q1
              have q2' := q2
              have q3' := q3
              refine wCall_marked (kidC (wf_low g2.wf S.t) (((hr.gr hg).gr g2).imp fun r p _ => ⟨p, rfl⟩) i (by omega)) ?_
              rintro _ S3 g3 ⟨ke, rfl, hke⟩
              simp only [XX, wC_seq, wC_seqj, splice_def, Nat.reduceEqDiff, ↓reduceIte, reduceCtorEq, Int.reduceToNat, Nat.reduceAdd, Nat.reduceMul, Int.reduceAdd, Int.reduceSub, Int.reduceLE, Int.reduceLT, Int.reduceNeg, Int.reduceMul, Int.reduceEq, Int.reduceNe, Nat.reduceLeDiff, Nat.reduceSub, f1, f2, f3, f6, f7, f8, f9, hsubd]
              refine wCall_marked (ih hd0' (wf_low g3.wf S3.t) (hke.imp fun r p _ => ⟨p, rfl⟩) ((((hn.gr hg).gr g2).gr g3).imp fun r p _ => ⟨p, rfl⟩)) ?_
              rintro _ S4 g4 ⟨ce, rfl, hce⟩
              simp only [XX, wC_seq, wC_seqj, splice_def, Nat.reduceEqDiff, ↓reduceIte, reduceCtorEq, Int.reduceToNat, Nat.reduceAdd, Nat.reduceMul, Int.reduceAdd, Int.reduceSub, Int.reduceLE, Int.reduceLT, Int.reduceNeg, Int.reduceMul, Int.reduceEq, Int.reduceNe, Nat.reduceLeDiff, Nat.reduceSub, f1, f2, f3, f6, f7, f8, f9]
              have gA : Gr S S4 := g2.trans (g3.trans g4)
              have fr4 : ∀ r, S4.row r = .none → S1.row r = .none := fun r h => hfresh r (Ch.fresh (Ch.of (fun _ => False) gA) h)
              have fr3 : ∀ r, S3.row r = .none → S1.row r = .none := fun r h => hfresh r (Ch.fresh (Ch.of (fun _ => False) (g2.trans g3)) h)
              refine wCall_marked (putC (P := fun r => S1.row r = .none) (t := Ti i) (x := treeS nms d (kidS r i)) (nameAt r i) (wf_low g4.wf S4.t) ((hte0.gr gA).imp fun r p _ => ⟨p, rfl⟩) (hce.imp fun r p _ => ⟨fr3 r p, rfl⟩) (by have := (hTl i).2; omega) (hTl i).1 fr4) ?_
              rintro _ S5 g5 ⟨e5, rfl, he5⟩
              have he5' : TyC (fun r => S1.row r = .none) S5 e5 (Ti (i + 1)) := by rw [hTs]; exact he5.imp fun r p _ => ⟨p, rfl⟩
              have he6 := he5'
              obtain ⟨xnv, xkv, xes, rfl, x1, x3, x4, x5⟩ := he5'.inv
              have m1 := x1.cells
              have m2 := x1.sc
              have m3 := x3.cells
              have m4 := x3.sc
              have gB : Gr S S5 := gA.trans g5
              have q1 := gB.cells q1'
              have q2 := gB.cells q2'
              have q3 := gB.cells q3'
              simp only [XX, wC_seq, wC_seqj, splice_def, Nat.reduceEqDiff, ↓reduceIte, reduceCtorEq, Int.reduceToNat, Nat.reduceAdd, Nat.reduceMul, Int.reduceAdd, Int.reduceSub, Int.reduceLE, Int.reduceLT, Int.reduceNeg, Int.reduceMul, Int.reduceEq, Int.reduceNe, Nat.reduceLeDiff, Nat.reduceSub, f1, f2, f3, f6, f7, f8, f9, q3, m1, m2, m3, m4, hadd1, apartAll_nil]
              have bne : b ≠ bt := bbt
              have g6 := (hg.trans gB).wr (f := fun u => .cells u [.int .i64 (Ti (i + 1)).kind, ofL (Ti (i + 1)).name, xnv, xkv]) nbt (ne_cells q3) (by first | (rw [q3]; done) | (rw [q3]; rfl)) (good_cells _)
              refine ⟨cnt - (i + 1), by omega, (hL _ _ _).2 ⟨i + 1, _, _, by omega, (hB _).2 (by simp only [XX, wC_seq, wC_seqj, splice_def, Nat.reduceEqDiff, ↓reduceIte, reduceCtorEq, Int.reduceToNat, Nat.reduceAdd, Nat.reduceMul, Int.reduceAdd, Int.reduceSub, Int.reduceLE, Int.reduceLT, Int.reduceNeg, Int.reduceMul, Int.reduceEq, Int.reduceNe, Nat.reduceLeDiff, Nat.reduceSub, f1, f2, f3, f6, f7, and_self]), by simp only [XX, wC_seq, wC_seqj, splice_def, Nat.reduceEqDiff, ↓reduceIte, reduceCtorEq, Int.reduceToNat, Nat.reduceAdd, Nat.reduceMul, Int.reduceAdd, Int.reduceSub, Int.reduceLE, Int.reduceLT, Int.reduceNeg, Int.reduceMul, Int.reduceEq, Int.reduceNe, Nat.reduceLeDiff, Nat.reduceSub, f8], by simp only [XX, wC_seq, wC_seqj, splice_def, Nat.reduceEqDiff, ↓reduceIte, reduceCtorEq, Int.reduceToNat, Nat.reduceAdd, Nat.reduceMul, Int.reduceAdd, Int.reduceSub, Int.reduceLE, Int.reduceLT, Int.reduceNeg, Int.reduceMul, Int.reduceEq, Int.reduceNe, Nat.reduceLeDiff, Nat.reduceSub], g6, fun r h => ?_, by rw [row_wr_ne _ _ _ bne]; exact q1, by rw [row_wr_ne _ _ _ b2t]; exact q2, row_wr_same _ _ _ _, he6.imp fun r p _ => ⟨p, row_wr_ne _ _ _ fun e => by rw [e] at p; rw [p] at rt; cases rt⟩⟩⟩
              refine hfresh r (Ch.fresh (Ch.of (fun _ => False) gB) ?_)
              by_cases e : r = bt
              · rw [e, row_wr_same] at h; cases h
              · rwa [row_wr_ne _ _ _ e] at h
          · first
            | exact absurd rfl hone
            | simp only [XX, wC_seq, wC_seqj, splice_def, Nat.reduceEqDiff, ↓reduceIte, reduceCtorEq, Int.reduceToNat, Nat.reduceAdd, Nat.reduceMul, Int.reduceAdd, Int.reduceSub, Int.reduceLE, Int.reduceLT, Int.reduceNeg, Int.reduceMul, Int.reduceEq, Int.reduceNe, Nat.reduceLeDiff, Nat.reduceSub, f1, f2, f3, f6, f7, f8, f9, q1, lenR, hA', hi0']
              exact done (by omega) (by simp only [XX, wC_seq, wC_seqj, splice_def, Nat.reduceEqDiff, ↓reduceIte, reduceCtorEq, Int.reduceToNat, Nat.reduceAdd, Nat.reduceMul, Int.reduceAdd, Int.reduceSub, Int.reduceLE, Int.reduceLT, Int.reduceNeg, Int.reduceMul, Int.reduceEq, Int.reduceNe, Nat.reduceLeDiff, Nat.reduceSub, f6]) (by simp only [XX, wC_seq, wC_seqj, splice_def, Nat.reduceEqDiff, ↓reduceIte, reduceCtorEq, Int.reduceToNat, Nat.reduceAdd, Nat.reduceMul, Int.reduceAdd, Int.reduceSub, Int.reduceLE, Int.reduceLT, Int.reduceNeg, Int.reduceMul, Int.reduceEq, Int.reduceNe, Nat.reduceLeDiff, Nat.reduceSub, f8])
        · have hi0' : ¬ (i : Int) = 0 := by omega
          simp only [XX, wC_seq, wC_seqj, splice_def, Nat.reduceEqDiff, ↓reduceIte, reduceCtorEq, Int.reduceToNat, Nat.reduceAdd, Nat.reduceMul, Int.reduceAdd, Int.reduceSub, Int.reduceLE, Int.reduceLT, Int.reduceNeg, Int.reduceMul, Int.reduceEq, Int.reduceNe, Nat.reduceLeDiff, Nat.reduceSub, f1, f2, f3, f6, f7, f8, f9, q1, lenR, hA', hi0']
          exact done (by omega) (by simp only [XX, wC_seq, wC_seqj, splice_def, Nat.reduceEqDiff, ↓reduceIte, reduceCtorEq, Int.reduceToNat, Nat.reduceAdd, Nat.reduceMul, Int.reduceAdd, Int.reduceSub, Int.reduceLE, Int.reduceLT, Int.reduceNeg, Int.reduceMul, Int.reduceEq, Int.reduceNe, Nat.reduceLeDiff, Nat.reduceSub, f6]) (by simp only [XX, wC_seq, wC_seqj, splice_def, Nat.reduceEqDiff, ↓reduceIte, reduceCtorEq, Int.reduceToNat, Nat.reduceAdd, Nat.reduceMul, Int.reduceAdd, Int.reduceSub, Int.reduceLE, Int.reduceLT, Int.reduceNeg, Int.reduceMul, Int.reduceEq, Int.reduceNe, Nat.reduceLeDiff, Nat.reduceSub, f8])
    · have hd0' := hd0 (by decide) (by decide)
      have lenR := h1.len
      rw [cellsI_len] at lenR
      obtain ⟨cnt, hcnt⟩ : ∃ c, c = countR 8 r := ⟨_, rfl⟩
      have hcv : cnt = max (min r.names.length 4) 1 := by rw [hcnt]; rfl
      obtain ⟨Ti, hTi⟩ : ∃ Ti : Nat → Ty, Ti = fun i => (List.range i).foldl (fun t i => putS t (nameAt r i) (treeS nms d (kidS r i))) (.mk 8 [] [] []) := ⟨_, rfl⟩
      have hT0 : Ti 0 = .mk 8 [] [] [] := by rw [hTi]; rfl
      have hTs : ∀ i, Ti (i + 1) = putS (Ti i) (nameAt r i) (treeS nms d (kidS r i)) := fun i => by rw [hTi]; simp only [List.range_succ, List.foldl_append]; rfl
      have hTl : ∀ i, (Ti i).kids.length = (Ti i).names.length ∧ (Ti i).names.length ≤ i := fun i => by
        induction i with
        | zero => rw [hT0]; exact ⟨rfl, Nat.le_refl _⟩
        | succ i ihi => rw [hTs]; exact putS_len ihi.1 ihi.2
      have htree : treeS nms (d + 1) r = Ti cnt := by rw [treeS, hTi, hcnt]; simp only [← hkk]; rfl
      obtain ⟨L, hL⟩ : ∃ L : Nat → Fr → St → Prop, ∀ j fr S, L j fr S ↔ ∃ (i : Nat) (te : List V) (t : Nat), j + i = cnt ∧ B fr ∧ fr 8 = .ptr bt 0 ∧ fr 9 = .int .i64 i ∧ Gr st S ∧ (∀ r, S.row r = .none → S1.row r = .none) ∧ S.row b = .cells st.t [.int .i64 r.kind, .int .i64 r.n, rnv, rkv] ∧ S.row b2 = .cells t2 [.int .i64 0, ofL [], .snil, .snil] ∧ S.row bt = .cells t te ∧ TyC (fun r => S1.row r = .none) S te (Ti i) := ⟨_, fun _ _ _ => Iff.rfl⟩
      simp only [XX, wC_seq, wC_seqj, splice_def, Nat.reduceEqDiff, ↓reduceIte, reduceCtorEq, Int.reduceToNat, Nat.reduceAdd, Nat.reduceMul, Int.reduceAdd, Int.reduceSub, Int.reduceLE, Int.reduceLT, Int.reduceNeg, Int.reduceMul, Int.reduceEq, Int.reduceNe, Nat.reduceLeDiff, Nat.reduceSub, f7]
      refine wC_loop L cnt (by omega) ((hL _ _ _).2 ⟨0, _, _, by omega, (hB _).2 (by simp only [XX, wC_seq, wC_seqj, splice_def, Nat.reduceEqDiff, ↓reduceIte, reduceCtorEq, Int.reduceToNat, Nat.reduceAdd, Nat.reduceMul, Int.reduceAdd, Int.reduceSub, Int.reduceLE, Int.reduceLT, Int.reduceNeg, Int.reduceMul, Int.reduceEq, Int.reduceNe, Nat.reduceLeDiff, Nat.reduceSub, f1, f2, f3, f6, f7, and_self]), by simp only [XX, wC_seq, wC_seqj, splice_def, Nat.reduceEqDiff, ↓reduceIte, reduceCtorEq, Int.reduceToNat, Nat.reduceAdd, Nat.reduceMul, Int.reduceAdd, Int.reduceSub, Int.reduceLE, Int.reduceLT, Int.reduceNeg, Int.reduceMul, Int.reduceEq, Int.reduceNe, Nat.reduceLeDiff, Nat.reduceSub], by simp only [XX, wC_seq, wC_seqj, splice_def, Nat.reduceEqDiff, ↓reduceIte, reduceCtorEq, Int.reduceToNat, Nat.reduceAdd, Nat.reduceMul, Int.reduceAdd, Int.reduceSub, Int.reduceLE, Int.reduceLT, Int.reduceNeg, Int.reduceMul, Int.reduceEq, Int.reduceNe, Nat.reduceLeDiff, Nat.reduceSub]; rfl, g1, fun r h => h, r1, r2, rt, by rw [hT0]; exact flat _ _ _ _⟩) ?_
      clear f1 f2 f3 f6 f7 hBf
      intro j fr S hLj
      obtain ⟨i, te, t, hj, hBf, f8, f9, hg, hfresh, q1, q2, q3, hte⟩ := (hL _ _ _).1 hLj
      obtain ⟨f1, f2, f3, f6, f7⟩ := (hB _).1 hBf
      have hadd1 : IntKind.i64.wrap ((i : Int) + 1) = ((i + 1 : Nat) : Int) := by rw [i64_in (by omega) (by omega)]; rfl
      have done : ∀ {fr : Fr}, i = cnt → fr 6 = .ptr b2 0 → fr 8 = .ptr bt 0 → J fr S := fun e a c => (hJ _ _).2 ⟨Ti cnt, te, t, htree, a, c, hg, q3, q2, by rw [← e]; exact hte⟩
      have hte0 := hte
      obtain ⟨tnv, tkv, tes, rfl, y1, y3, y4, y5⟩ := hte.inv
      have d1 := y1.cells
      have d2 := y1.sc
      have d3 := y3.cells
      have d4 := y3.sc
      by_cases hA : i < r.names.length
      · have hA' : (i : Int) < r.names.length := by omega
        by_cases h4i : i < 4
        · have h4' : (i : Int) < 4 := by omega
          obtain ⟨zq, zo, z1, z2, z3, z4, z5⟩ := (h1.gr hg).elem (i := i) (by rw [cellsI_len]; exact hA)
          have zl : (cellsI r.names)[i]'(by rw [cellsI_len]; exact hA) = [.int .i64 r.names[i]] := by simp [cellsI]
          have z6 : ld1 (S.row zq) zo = some (.int .i64 r.names[i], .no) := by
            have := z5 0 (by rw [zl]; simp)
            simp only [zl] at this
            exact this
          simp only [XX, wC_seq, wC_seqj, splice_def, Nat.reduceEqDiff, ↓reduceIte, reduceCtorEq, Int.reduceToNat, Nat.reduceAdd, Nat.reduceMul, Int.reduceAdd, Int.reduceSub, Int.reduceLE, Int.reduceLT, Int.reduceNeg, Int.reduceMul, Int.reduceEq, Int.reduceNe, Nat.reduceLeDiff, Nat.reduceSub, f1, f2, f3, f6, f7, f8, f9, q1, lenR, hA', h4', z1, z6]
          refine wCall_plain (nameC _ _ hg.wf) ?_
          rintro _ S2 ⟨g2, rfl⟩
          have hnm : nameS r.names[i] = nameAt r i := by unfold nameAt; rw [List.getElem?_eq_getElem hA]
          rw [hnm]
          have q1' := q1
          have q2' := q2
          have q3' := q3
          have q1 := g2.cells q1
          have q2 := g2.cells q2
          have q3 := g2.cells q3
          simp only [XX, wC_seq, wC_seqj, splice_def, Nat.reduceEqDiff, ↓reduceIte, reduceCtorEq, Int.reduceToNat, Nat.reduceAdd, Nat.reduceMul, Int.reduceAdd, Int.reduceSub, Int.reduceLE, Int.reduceLT, Int.reduceNeg, Int.reduceMul, Int.reduceEq, Int.reduceNe, Nat.reduceLeDiff, Nat.reduceSub, f1, f2, f3, f6, f7, f8, f9, q1, q3, c1, s1, c2, s2, d1, d2, d3, d4]
          refine wCall_marked (kidC (wf_low g2.wf S2.t) (((hr.gr hg).gr g2).imp fun r p _ => ⟨p, rfl⟩) i (by omega)) ?_
          rintro _ S3 g3 ⟨ke, rfl, hke⟩
          simp only [XX, wC_seq, wC_seqj, splice_def, Nat.reduceEqDiff, ↓reduceIte, reduceCtorEq, Int.reduceToNat, Nat.reduceAdd, Nat.reduceMul, Int.reduceAdd, Int.reduceSub, Int.reduceLE, Int.reduceLT, Int.reduceNeg, Int.reduceMul, Int.reduceEq, Int.reduceNe, Nat.reduceLeDiff, Nat.reduceSub, f1, f2, f3, f6, f7, f8, f9, hsubd]
          refine wCall_marked (ih hd0' (wf_low g3.wf S3.t) (hke.imp fun r p _ => ⟨p, rfl⟩) ((((hn.gr hg).gr g2).gr g3).imp fun r p _ => ⟨p, rfl⟩)) ?_
          rintro _ S4 g4 ⟨ce, rfl, hce⟩
          simp only [XX, wC_seq, wC_seqj, splice_def, Nat.reduceEqDiff, ↓reduceIte, reduceCtorEq, Int.reduceToNat, Nat.reduceAdd, Nat.reduceMul, Int.reduceAdd, Int.reduceSub, Int.reduceLE, Int.reduceLT, Int.reduceNeg, Int.reduceMul, Int.reduceEq, Int.reduceNe, Nat.reduceLeDiff, Nat.reduceSub, f1, f2, f3, f6, f7, f8, f9]
          have gA : Gr S S4 := g2.trans (g3.trans g4)
          have fr4 : ∀ r, S4.row r = .none → S1.row r = .none := fun r h => hfresh r (Ch.fresh (Ch.of (fun _ => False) gA) h)
          have fr3 : ∀ r, S3.row r = .none → S1.row r = .none := fun r h => hfresh r (Ch.fresh (Ch.of (fun _ => False) (g2.trans g3)) h)
          refine wCall_marked (putC (P := fun r => S1.row r = .none) (t := Ti i) (x := treeS nms d (kidS r i)) (nameAt r i) (wf_low g4.wf S4.t) ((hte0.gr gA).imp fun r p _ => ⟨p, rfl⟩) (hce.imp fun r p _ => ⟨fr3 r p, rfl⟩) (by have := (hTl i).2; omega) (hTl i).1 fr4) ?_
          rintro _ S5 g5 ⟨e5, rfl, he5⟩
          have he5' : TyC (fun r => S1.row r = .none) S5 e5 (Ti (i + 1)) := by rw [hTs]; exact he5.imp fun r p _ => ⟨p, rfl⟩
          have he6 := he5'
          obtain ⟨xnv, xkv, xes, rfl, x1, x3, x4, x5⟩ := he5'.inv
          have m1 := x1.cells
          have m2 := x1.sc
          have m3 := x3.cells
          have m4 := x3.sc
          have gB : Gr S S5 := gA.trans g5
          have q1 := gB.cells q1'
          have q2 := gB.cells q2'
          have q3 := gB.cells q3'
          simp only [XX, wC_seq, wC_seqj, splice_def, Nat.reduceEqDiff, ↓reduceIte, reduceCtorEq, Int.reduceToNat, Nat.reduceAdd, Nat.reduceMul, Int.reduceAdd, Int.reduceSub, Int.reduceLE, Int.reduceLT, Int.reduceNeg, Int.reduceMul, Int.reduceEq, Int.reduceNe, Nat.reduceLeDiff, Nat.reduceSub, f1, f2, f3, f6, f7, f8, f9, q3, m1, m2, m3, m4, hadd1, apartAll_nil]
          have bne : b ≠ bt := bbt
          have g6 := (hg.trans gB).wr (f := fun u => .cells u [.int .i64 (Ti (i + 1)).kind, ofL (Ti (i + 1)).name, xnv, xkv]) nbt (ne_cells q3) (by first | (rw [q3]; done) | (rw [q3]; rfl)) (good_cells _)
          refine ⟨cnt - (i + 1), by omega, (hL _ _ _).2 ⟨i + 1, _, _, by omega, (hB _).2 (by simp only [XX, wC_seq, wC_seqj, splice_def, Nat.reduceEqDiff, ↓reduceIte, reduceCtorEq, Int.reduceToNat, Nat.reduceAdd, Nat.reduceMul, Int.reduceAdd, Int.reduceSub, Int.reduceLE, Int.reduceLT, Int.reduceNeg, Int.reduceMul, Int.reduceEq, Int.reduceNe, Nat.reduceLeDiff, Nat.reduceSub, f1, f2, f3, f6, f7, and_self]), by simp only [XX, wC_seq, wC_seqj, splice_def, Nat.reduceEqDiff, ↓reduceIte, reduceCtorEq, Int.reduceToNat, Nat.reduceAdd, Nat.reduceMul, Int.reduceAdd, Int.reduceSub, Int.reduceLE, Int.reduceLT, Int.reduceNeg, Int.reduceMul, Int.reduceEq, Int.reduceNe, Nat.reduceLeDiff, Nat.reduceSub, f8], by simp only [XX, wC_seq, wC_seqj, splice_def, Nat.reduceEqDiff, ↓reduceIte, reduceCtorEq, Int.reduceToNat, Nat.reduceAdd, Nat.reduceMul, Int.reduceAdd, Int.reduceSub, Int.reduceLE, Int.reduceLT, Int.reduceNeg, Int.reduceMul, Int.reduceEq, Int.reduceNe, Nat.reduceLeDiff, Nat.reduceSub], g6, fun r h => ?_, by rw [row_wr_ne _ _ _ bne]; exact q1, by rw [row_wr_ne _ _ _ b2t]; exact q2, row_wr_same _ _ _ _, he6.imp fun r p _ => ⟨p, row_wr_ne _ _ _ fun e => by rw [e] at p; rw [p] at rt; cases rt⟩⟩⟩
          refine hfresh r (Ch.fresh (Ch.of (fun _ => False) gB) ?_)
          by_cases e : r = bt
          · rw [e, row_wr_same] at h; cases h
          · rwa [row_wr_ne _ _ _ e] at h
        · have h4' : ¬ (i : Int) < 4 := by omega
          have hi0 : ¬ (i : Int) = 0 := by omega
          simp only [XX, wC_seq, wC_seqj, splice_def, Nat.reduceEqDiff, ↓reduceIte, reduceCtorEq, Int.reduceToNat, Nat.reduceAdd, Nat.reduceMul, Int.reduceAdd, Int.reduceSub, Int.reduceLE, Int.reduceLT, Int.reduceNeg, Int.reduceMul, Int.reduceEq, Int.reduceNe, Nat.reduceLeDiff, Nat.reduceSub, f1, f2, f3, f6, f7, f8, f9, q1, lenR, hA', h4', hi0]
          exact done (by omega) (by simp only [XX, wC_seq, wC_seqj, splice_def, Nat.reduceEqDiff, ↓reduceIte, reduceCtorEq, Int.reduceToNat, Nat.reduceAdd, Nat.reduceMul, Int.reduceAdd, Int.reduceSub, Int.reduceLE, Int.reduceLT, Int.reduceNeg, Int.reduceMul, Int.reduceEq, Int.reduceNe, Nat.reduceLeDiff, Nat.reduceSub, f6]) (by simp only [XX, wC_seq, wC_seqj, splice_def, Nat.reduceEqDiff, ↓reduceIte, reduceCtorEq, Int.reduceToNat, Nat.reduceAdd, Nat.reduceMul, Int.reduceAdd, Int.reduceSub, Int.reduceLE, Int.reduceLT, Int.reduceNeg, Int.reduceMul, Int.reduceEq, Int.reduceNe, Nat.reduceLeDiff, Nat.reduceSub, f8])
      · have hA' : ¬ (i : Int) < r.names.length := by omega
        by_cases hi0 : i = 0
        · have hi0' : ((i : Int) = 0) = True := eq_true (by omega)
          by_cases hone : 1 = 1
          · first
            | exact absurd hone (by decide)
            | simp only [XX, wC_seq, wC_seqj, splice_def, Nat.reduceEqDiff, ↓reduceIte, reduceCtorEq, Int.reduceToNat, Nat.reduceAdd, Nat.reduceMul, Int.reduceAdd, Int.reduceSub, Int.reduceLE, Int.reduceLT, Int.reduceNeg, Int.reduceMul, Int.reduceEq, Int.reduceNe, Nat.reduceLeDiff, Nat.reduceSub, f1, f2, f3, f6, f7, f8, f9, q1, q3, lenR, hA', hi0', c1, s1, c2, s2, d1, d2, d3, d4]
              have g2 : Gr S S := Gr.refl hg.wf
              have hnm : ([117] : Str) = nameAt r i := by unfold nameAt; rw [List.getElem?_eq_none (by omega)]
              rw [hnm]
              have q1' := q1
              have q2' := q2
              have q3' := q3
              refine wCall_marked (kidC (wf_low g2.wf S.t) (((hr.gr hg).gr g2).imp fun r p _ => ⟨p, rfl⟩) i (by omega)) ?_
              rintro _ S3 g3 ⟨ke, rfl, hke⟩
              simp only [XX, wC_seq, wC_seqj, splice_def, Nat.reduceEqDiff, ↓reduceIte, reduceCtorEq, Int.reduceToNat, Nat.reduceAdd, Nat.reduceMul, Int.reduceAdd, Int.reduceSub, Int.reduceLE, Int.reduceLT, Int.reduceNeg, Int.reduceMul, Int.reduceEq, Int.reduceNe, Nat.reduceLeDiff, Nat.reduceSub, f1, f2, f3, f6, f7, f8, f9, hsubd]
              refine wCall_marked (ih hd0' (wf_low g3.wf S3.t) (hke.imp fun r p _ => ⟨p, rfl⟩) ((((hn.gr hg).gr g2).gr g3).imp fun r p _ => ⟨p, rfl⟩)) ?_
              rintro _ S4 g4 ⟨ce, rfl, hce⟩
              simp only [XX, wC_seq, wC_seqj, splice_def, Nat.reduceEqDiff, ↓reduceIte, reduceCtorEq, Int.reduceToNat, Nat.reduceAdd, Nat.reduceMul, Int.reduceAdd, Int.reduceSub, Int.reduceLE, Int.reduceLT, Int.reduceNeg, Int.reduceMul, Int.reduceEq, Int.reduceNe, Nat.reduceLeDiff, Nat.reduceSub, f1, f2, f3, f6, f7, f8, f9]
              have gA : Gr S S4 := g2.trans (g3.trans g4)
              have fr4 : ∀ r, S4.row r = .none → S1.row r = .none := fun r h => hfresh r (Ch.fresh (Ch.of (fun _ => False) gA) h)
              have fr3 : ∀ r, S3.row r = .none → S1.row r = .none := fun r h => hfresh r (Ch.fresh (Ch.of (fun _ => False) (g2.trans g3)) h)
              refine wCall_marked (putC (P := fun r => S1.row r = .none) (t := Ti i) (x := treeS nms d (kidS r i)) (nameAt r i) (wf_low g4.wf S4.t) ((hte0.gr gA).imp fun r p _ => ⟨p, rfl⟩) (hce.imp fun r p _ => ⟨fr3 r p, rfl⟩) (by have := (hTl i).2; omega) (hTl i).1 fr4) ?_
              rintro _ S5 g5 ⟨e5, rfl, he5⟩
              have he5' : TyC (fun r => S1.row r = .none) S5 e5 (Ti (i + 1)) := by rw [hTs]; exact he5.imp fun r p _ => ⟨p, rfl⟩
              have he6 := he5'
              obtain ⟨xnv, xkv, xes, rfl, x1, x3, x4, x5⟩ := he5'.inv
              have m1 := x1.cells
              have m2 := x1.sc
              have m3 := x3.cells
              have m4 := x3.sc
              have gB : Gr S S5 := gA.trans g5
              have q1 := gB.cells q1'
              have q2 := gB.cells q2'
              have q3 := gB.cells q3'
              simp only [XX, wC_seq, wC_seqj, splice_def, Nat.reduceEqDiff, ↓reduceIte, reduceCtorEq, Int.reduceToNat, Nat.reduceAdd, Nat.reduceMul, Int.reduceAdd, Int.reduceSub, Int.reduceLE, Int.reduceLT, Int.reduceNeg, Int.reduceMul, Int.reduceEq, Int.reduceNe, Nat.reduceLeDiff, Nat.reduceSub, f1, f2, f3, f6, f7, f8, f9, q3, m1, m2, m3, m4, hadd1, apartAll_nil]
              have bne : b ≠ bt := bbt
              have g6 := (hg.trans gB).wr (f := fun u => .cells u [.int .i64 (Ti (i + 1)).kind, ofL (Ti (i + 1)).name, xnv, xkv]) nbt (ne_cells q3) (by first | (rw [q3]; done) | (rw [q3]; rfl)) (good_cells _)
              refine ⟨cnt - (i + 1), by omega, (hL _ _ _).2 ⟨i + 1, _, _, by omega, (hB _).2 (by simp only [XX, wC_seq, wC_seqj, splice_def, Nat.reduceEqDiff, ↓reduceIte, reduceCtorEq, Int.reduceToNat, Nat.reduceAdd, Nat.reduceMul, Int.reduceAdd, Int.reduceSub, Int.reduceLE, Int.reduceLT, Int.reduceNeg, Int.reduceMul, Int.reduceEq, Int.reduceNe, Nat.reduceLeDiff, Nat.reduceSub, f1, f2, f3, f6, f7, and_self]), by simp only [XX, wC_seq, wC_seqj, splice_def, Nat.reduceEqDiff, ↓reduceIte, reduceCtorEq, Int.reduceToNat, Nat.reduceAdd, Nat.reduceMul, Int.reduceAdd, Int.reduceSub, Int.reduceLE, Int.reduceLT, Int.reduceNeg, Int.reduceMul, Int.reduceEq, Int.reduceNe, Nat.reduceLeDiff, Nat.reduceSub, f8], by simp only [XX, wC_seq, wC_seqj, splice_def, Nat.reduceEqDiff, ↓reduceIte, reduceCtorEq, Int.reduceToNat, Nat.reduceAdd, Nat.reduceMul, Int.reduceAdd, Int.reduceSub, Int.reduceLE, Int.reduceLT, Int.reduceNeg, Int.reduceMul, Int.reduceEq, Int.reduceNe, Nat.reduceLeDiff, Nat.reduceSub], g6, fun r h => ?_, by rw [row_wr_ne _ _ _ bne]; exact q1, by rw [row_wr_ne _ _ _ b2t]; exact q2, row_wr_same _ _ _ _, he6.imp fun r p _ => ⟨p, row_wr_ne _ _ _ fun e => by rw [e] at p; rw [p] at rt; cases rt⟩⟩⟩
              refine hfresh r (Ch.fresh (Ch.of (fun _ => False) gB) ?_)
              by_cases e : r = bt
              · rw [e, row_wr_same] at h; cases h
              · rwa [row_wr_ne _ _ _ e] at h
          · first
            | exact absurd rfl hone
            | simp only [XX, wC_seq, wC_seqj, splice_def, Nat.reduceEqDiff, ↓reduceIte, reduceCtorEq, Int.reduceToNat, Nat.reduceAdd, Nat.reduceMul, Int.reduceAdd, Int.reduceSub, Int.reduceLE, Int.reduceLT, Int.reduceNeg, Int.reduceMul, Int.reduceEq, Int.reduceNe, Nat.reduceLeDiff, Nat.reduceSub, f1, f2, f3, f6, f7, f8, f9, q1, lenR, hA', hi0']
              exact done (by omega) (by simp only [XX, wC_seq, wC_seqj, splice_def, Nat.reduceEqDiff, ↓reduceIte, reduceCtorEq, Int.reduceToNat, Nat.reduceAdd, Nat.reduceMul, Int.reduceAdd, Int.reduceSub, Int.reduceLE, Int.reduceLT, Int.reduceNeg, Int.reduceMul, Int.reduceEq, Int.reduceNe, Nat.reduceLeDiff, Nat.reduceSub, f6]) (by simp only [XX, wC_seq, wC_seqj, splice_def, Nat.reduceEqDiff, ↓reduceIte, reduceCtorEq, Int.reduceToNat, Nat.reduceAdd, Nat.reduceMul, Int.reduceAdd, Int.reduceSub, Int.reduceLE, Int.reduceLT, Int.reduceNeg, Int.reduceMul, Int.reduceEq, Int.reduceNe, Nat.reduceLeDiff, Nat.reduceSub, f8])
        · have hi0' : ¬ (i : Int) = 0 := by omega
          simp only [XX, wC_seq, wC_seqj, splice_def, Nat.reduceEqDiff, ↓reduceIte, reduceCtorEq, Int.reduceToNat, Nat.reduceAdd, Nat.reduceMul, Int.reduceAdd, Int.reduceSub, Int.reduceLE, Int.reduceLT, Int.reduceNeg, Int.reduceMul, Int.reduceEq, Int.reduceNe, Nat.reduceLeDiff, Nat.reduceSub, f1, f2, f3, f6, f7, f8, f9, q1, lenR, hA', hi0']
          exact done (by omega) (by simp only [XX, wC_seq, wC_seqj, splice_def, Nat.reduceEqDiff, ↓reduceIte, reduceCtorEq, Int.reduceToNat, Nat.reduceAdd, Nat.reduceMul, Int.reduceAdd, Int.reduceSub, Int.reduceLE, Int.reduceLT, Int.reduceNeg, Int.reduceMul, Int.reduceEq, Int.reduceNe, Nat.reduceLeDiff, Nat.reduceSub, f6]) (by simp only [XX, wC_seq, wC_seqj, splice_def, Nat.reduceEqDiff, ↓reduceIte, reduceCtorEq, Int.reduceToNat, Nat.reduceAdd, Nat.reduceMul, Int.reduceAdd, Int.reduceSub, Int.reduceLE, Int.reduceLT, Int.reduceNeg, Int.reduceMul, Int.reduceEq, Int.reduceNe, Nat.reduceLeDiff, Nat.reduceSub, f8])
    · have hne : nms ≠ [] := fun e => by
        rw [hkd] at hkk
        by_cases c : (K = 9 ∧ nms = []) ∨ (d + 1 ≤ 1 ∧ 4 ≤ K ∧ K ≤ 8)
        · rw [if_pos c] at hkd; cases hkd
        · rw [if_neg c] at hkd; exact c (.inl ⟨hkd.symm, e⟩)
      have hpos := List.length_pos_iff.2 hne
      simp only [XX, wC_seq, wC_seqj, splice_def, Nat.reduceEqDiff, ↓reduceIte, reduceCtorEq, Int.reduceToNat, Nat.reduceAdd, Nat.reduceMul, Int.reduceAdd, Int.reduceSub, Int.reduceLE, Int.reduceLT, Int.reduceNeg, Int.reduceMul, Int.reduceEq, Int.reduceNe, Nat.reduceLeDiff, Nat.reduceSub, f1, f2, f3, f7, r1, lenN]
      refine wCall_plain (within3C r.n nms.length _ (by omega) (by omega)) ?_
      rintro _ _ ⟨rfl, rfl⟩
      have q1 := Int.emod_nonneg r.n (show ((nms.length : Nat) : Int) ≠ 0 by omega)
      have q2 := Int.emod_lt_of_pos r.n (show (0 : Int) < ((nms.length : Nat) : Int) by omega)
      obtain ⟨i, hi⟩ : ∃ i : Nat, r.n % nms.length = i := ⟨(r.n % nms.length).toNat, by omega⟩
      rw [hi] at q1 q2
      have hil : i < nms.length := by omega
      obtain ⟨q, o, a1, a2, a3, a4, a5⟩ := (hn.gr g1).elem (i := i) (by rw [strs_len]; exact hil)
      have el : (strs nms)[i]'(by rw [strs_len]; exact hil) = [ofL nms[i]] := by simp [strs]
      have a6 : ld1 (S1.row q) o = some (ofL nms[i], .no) := by
        have := a5 0 (by rw [el]; simp)
        simp only [el] at this
        exact this
      rw [hi]
      simp only [XX, wC_seq, wC_seqj, splice_def, Nat.reduceEqDiff, ↓reduceIte, reduceCtorEq, Int.reduceToNat, Nat.reduceAdd, Nat.reduceMul, Int.reduceAdd, Int.reduceSub, Int.reduceLE, Int.reduceLT, Int.reduceNeg, Int.reduceMul, Int.reduceEq, Int.reduceNe, Nat.reduceLeDiff, Nat.reduceSub, f2, a1, a6, rt]
      refine (hJ _ _).2 ⟨_, _, _, ?_, by simp only [XX, wC_seq, wC_seqj, splice_def, Nat.reduceEqDiff, ↓reduceIte, reduceCtorEq, Int.reduceToNat, Nat.reduceAdd, Nat.reduceMul, Int.reduceAdd, Int.reduceSub, Int.reduceLE, Int.reduceLT, Int.reduceNeg, Int.reduceMul, Int.reduceEq, Int.reduceNe, Nat.reduceLeDiff, Nat.reduceSub, f6], by simp only [XX, wC_seq, wC_seqj, splice_def, Nat.reduceEqDiff, ↓reduceIte, reduceCtorEq, Int.reduceToNat, Nat.reduceAdd, Nat.reduceMul, Int.reduceAdd, Int.reduceSub, Int.reduceLE, Int.reduceLT, Int.reduceNeg, Int.reduceMul, Int.reduceEq, Int.reduceNe, Nat.reduceLeDiff, Nat.reduceSub], g1.wr nbt (ne_cells rt) (by rw [rt]; rfl) (good_cells _), row_wr_same _ _ _ _, by rw [row_wr_ne _ _ _ b2t]; exact r2, flat _ _ _ _⟩
      rw [treeS]
      simp only [← hkk, if_true]
      rw [hi]
      simp [List.getD_eq_getElem?_getD, hil]
  intro fr S hJf
  obtain ⟨T, te, t, hT, f6, f8, gS, rS, rS2, hTy⟩ := (hJ _ _).1 hJf
  have hTy2 := hTy
  obtain ⟨nv', kv', es', rfl, t1, t3, t4, t5⟩ := hTy.inv
  have c3 := t1.cells
  have s3 := t1.sc
  have c4 := t3.cells
  have s4 := t3.sc
  rw [wC_seq]; simp only [XX, wC_seq, wC_seqj, splice_def, Nat.reduceEqDiff, ↓reduceIte, reduceCtorEq, Int.reduceToNat, Nat.reduceAdd, Nat.reduceMul, Int.reduceAdd, Int.reduceSub, Int.reduceLE, Int.reduceLT, Int.reduceNeg, Int.reduceMul, Int.reduceEq, Int.reduceNe, Nat.reduceLeDiff, Nat.reduceSub, f6, f8, rS, rS2, c3, s3, c4, s4]
  have gw := gS.wr (f := fun u => .cells u [.int .i64 T.kind, ofL T.name, nv', kv']) nb2 (ne_cells rS2) (by first | (rw [rS2]; done) | (rw [rS2]; rfl)) (good_cells _)
  refine ⟨gw, _, rfl, ?_⟩
  rw [hT]
  exact hTy2.imp fun r p _ => ⟨st1 r p, row_wr_ne _ _ _ fun e => by rw [e] at p; rw [p] at r2; cases r2⟩
theorem treeC (nms : List Str) (hnm : nms.length < 1000) : ∀ d : Nat, d < 1000 → TreeAt nms (d + 1)
  | 0, h => treeCore nms hnm 0 h fun e => absurd rfl e
  | d + 1, h => treeCore nms hnm (d + 1) h fun _ => treeC nms hnm d (by omega)
end Go.Proofs.Ytajifckdgaoncaa
