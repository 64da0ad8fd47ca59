/- A name and a type put into a type. -/
import Derived.Test.YtajifckdgaoncaaRawk
namespace Go.Proofs.Ytajifckdgaoncaa
open Eva Go.RowKit
set_option maxRecDepth 100000
set_option linter.unusedSimpArgs false
set_option linter.unusedVariables false
theorem idx_ins {α β : Type} {R : α → β → Prop} {x : α} {y : β} (hxy : R x y) : ∀ (k : Nat) {es : List α} {ks : List β}, es.length = ks.length → (∀ i (h : i < es.length) (h' : i < ks.length), R es[i] ks[i]) → ∀ i (h : i < (es.take k ++ x :: es.drop k).length) (h' : i < (ks.take k ++ y :: ks.drop k).length), R (es.take k ++ x :: es.drop k)[i] (ks.take k ++ y :: ks.drop k)[i]
  | 0, es, ks, hl, h, i, h1, h2 => by
    simp only [List.take_zero, List.nil_append, List.drop_zero]
    cases i with
    | zero => exact hxy
    | succ i => exact h i (by simpa using h1) (by simpa using h2)
  | k + 1, [], [], hl, h, i, h1, h2 => by
    cases i with
    | zero => exact hxy
    | succ i => simp at h1
  | k + 1, e :: es, c :: ks, hl, h, i, h1, h2 => by
    cases i with
    | zero => exact h 0 (by simp) (by simp)
    | succ i => exact idx_ins hxy k (by simpa using hl) (fun j a b => h (j + 1) (by simpa using a) (by simpa using b)) i (by simpa using h1) (by simpa using h2)
theorem apart_cons {fr : Fr} {p : List Nat × List Nat} {l : List (List Nat × List Nat)} (h1 : apartAll fr [p] = true) (h2 : apartAll fr l = true) : apartAll fr (p :: l) = true := by
  simp only [apartAll, List.all_cons, List.all_nil, Bool.and_true] at h1 h2 ⊢
  rw [h1, Bool.true_and]; exact h2
set_option maxHeartbeats 4000000 in
theorem putC {P : Pt → Prop} {st : St} {t x : Ty} {te xe : List V} (n : Str) (hw : WF st) (ht : TyC P st te t) (hx : TyC P st xe x) (hlen : t.names.length ≤ 8) (hk : t.kids.length = t.names.length) (hP : ∀ r, st.row r = .none → P r) :
    Does (tabT tabD) n_spruelaw3_put [.agg te, ofL n, .agg xe] st fun v st' => Gr st st' ∧ ∃ e', v = .agg e' ∧ TyC P st' e' (putS t n x) := by
  refine does_fn at_spruelaw3_put rfl ?_
  obtain ⟨n0, hn0⟩ : ∃ n, st.nx = up 0 n := ⟨_, up0 _⟩
  have htt := ht
  have hxx := hx
  cases ht with
  | @mk tk tn ns ks nv kv es h1 h2 h3 h4 =>
  cases hx with
  | @mk xk xn xns xks xnv xkv xes x1 x2 x3 x4 =>
  simp only [Ty.names, Ty.kids] at hlen hk
  have c1 := h1.cells
  have s1 := h1.sc
  have c2 := h2.cells
  have s2 := h2.sc
  have c3 := x1.cells
  have s3 := x1.sc
  have c4 := x2.cells
  have s4 := x2.sc
  have len1 := h1.len
  rw [strs_len] at len1
  obtain ⟨b1, hb1⟩ : ∃ b, b = up 0 n0 := ⟨_, rfl⟩
  obtain ⟨b2, hb2⟩ : ∃ b, b = up 1 n0 := ⟨_, rfl⟩
  obtain ⟨b3, hb3⟩ : ∃ b, b = up 2 n0 := ⟨_, rfl⟩
  obtain ⟨I, hI⟩ : ∃ I : Fr → St → Prop, ∀ fr S, I fr S ↔ (fr 1 = ofL n ∧ fr 3 = .ptr b1 0 ∧ fr 5 = .ptr b2 0 ∧ fr 6 = .ptr b3 0 ∧ Gr st S ∧ (∃ t, S.row b1 = .cells t [.int .i64 tk, ofL tn, nv, kv]) ∧ (∃ t, S.row b2 = .cells t [.int .i64 xk, ofL xn, xnv, xkv]) ∧ (∃ t, S.row b3 = .cells t [.int .i64 0, ofL [], .snil, .snil])) := ⟨_, fun _ _ => Iff.rfl⟩
  have u01 : up 0 n0 ≠ up 1 n0 := by simp only [XX, wC_seq, wC_seqj, splice_def, Nat.reduceEqDiff, ↓reduceIte, reduceCtorEq, Int.reduceToNat, Nat.reduceAdd, Nat.reduceMul, Int.reduceAdd, Int.reduceSub, Int.reduceLE, Int.reduceLT, Int.reduceNeg, Int.reduceMul, Int.reduceEq, Int.reduceNe, Nat.reduceLeDiff, Nat.reduceSub]
  have u02 : up 0 n0 ≠ up 2 n0 := by simp only [XX, wC_seq, wC_seqj, splice_def, Nat.reduceEqDiff, ↓reduceIte, reduceCtorEq, Int.reduceToNat, Nat.reduceAdd, Nat.reduceMul, Int.reduceAdd, Int.reduceSub, Int.reduceLE, Int.reduceLT, Int.reduceNeg, Int.reduceMul, Int.reduceEq, Int.reduceNe, Nat.reduceLeDiff, Nat.reduceSub]
  have u12 : up 1 n0 ≠ up 2 n0 := by simp only [XX, wC_seq, wC_seqj, splice_def, Nat.reduceEqDiff, ↓reduceIte, reduceCtorEq, Int.reduceToNat, Nat.reduceAdd, Nat.reduceMul, Int.reduceAdd, Int.reduceSub, Int.reduceLE, Int.reduceLT, Int.reduceNeg, Int.reduceMul, Int.reduceEq, Int.reduceNe, Nat.reduceLeDiff, Nat.reduceSub]
  simp only [cf_spruelaw3_put, XX, splice_def, Nat.reduceEqDiff, ↓reduceIte, reduceCtorEq, Int.reduceToNat, Nat.reduceAdd, Nat.reduceMul, Int.reduceAdd, Int.reduceSub, Int.reduceLE, Int.reduceLT, Int.reduceNeg, Int.reduceMul, Int.reduceEq, Int.reduceNe, Nat.reduceLeDiff, Nat.reduceSub]
  refine wC_scut I ?_ ?_
  · simp only [XX, wC_seq, wC_seqj, splice_def, Nat.reduceEqDiff, ↓reduceIte, reduceCtorEq, Int.reduceToNat, Nat.reduceAdd, Nat.reduceMul, Int.reduceAdd, Int.reduceSub, Int.reduceLE, Int.reduceLT, Int.reduceNeg, Int.reduceMul, Int.reduceEq, Int.reduceNe, Nat.reduceLeDiff, Nat.reduceSub, hn0, c1, s1, c2, s2, c3, s3, c4, s4]
    refine (hI _ _).2 ⟨by simp only [XX, wC_seq, wC_seqj, splice_def, Nat.reduceEqDiff, ↓reduceIte, reduceCtorEq, Int.reduceToNat, Nat.reduceAdd, Nat.reduceMul, Int.reduceAdd, Int.reduceSub, Int.reduceLE, Int.reduceLT, Int.reduceNeg, Int.reduceMul, Int.reduceEq, Int.reduceNe, Nat.reduceLeDiff, Nat.reduceSub], by simp only [XX, wC_seq, wC_seqj, splice_def, Nat.reduceEqDiff, ↓reduceIte, reduceCtorEq, Int.reduceToNat, Nat.reduceAdd, Nat.reduceMul, Int.reduceAdd, Int.reduceSub, Int.reduceLE, Int.reduceLT, Int.reduceNeg, Int.reduceMul, Int.reduceEq, Int.reduceNe, Nat.reduceLeDiff, Nat.reduceSub, hb1], by simp only [XX, wC_seq, wC_seqj, splice_def, Nat.reduceEqDiff, ↓reduceIte, reduceCtorEq, Int.reduceToNat, Nat.reduceAdd, Nat.reduceMul, Int.reduceAdd, Int.reduceSub, Int.reduceLE, Int.reduceLT, Int.reduceNeg, Int.reduceMul, Int.reduceEq, Int.reduceNe, Nat.reduceLeDiff, Nat.reduceSub, hb2], by simp only [XX, wC_seq, wC_seqj, splice_def, Nat.reduceEqDiff, ↓reduceIte, reduceCtorEq, Int.reduceToNat, Nat.reduceAdd, Nat.reduceMul, Int.reduceAdd, Int.reduceSub, Int.reduceLE, Int.reduceLT, Int.reduceNeg, Int.reduceMul, Int.reduceEq, Int.reduceNe, Nat.reduceLeDiff, Nat.reduceSub, hb3], (((Gr.refl hw).nn (good_cells _)).nn (good_cells _)).nn (good_cells _), ⟨_, by rw [hb1]; simp only [XX, wC_seq, wC_seqj, splice_def, Nat.reduceEqDiff, ↓reduceIte, reduceCtorEq, Int.reduceToNat, Nat.reduceAdd, Nat.reduceMul, Int.reduceAdd, Int.reduceSub, Int.reduceLE, Int.reduceLT, Int.reduceNeg, Int.reduceMul, Int.reduceEq, Int.reduceNe, Nat.reduceLeDiff, Nat.reduceSub, hn0]; rfl⟩, ⟨_, by rw [hb2]; simp only [XX, wC_seq, wC_seqj, splice_def, Nat.reduceEqDiff, ↓reduceIte, reduceCtorEq, Int.reduceToNat, Nat.reduceAdd, Nat.reduceMul, Int.reduceAdd, Int.reduceSub, Int.reduceLE, Int.reduceLT, Int.reduceNeg, Int.reduceMul, Int.reduceEq, Int.reduceNe, Nat.reduceLeDiff, Nat.reduceSub, hn0]; rfl⟩, ⟨_, by rw [hb3]; simp only [XX, wC_seq, wC_seqj, splice_def, Nat.reduceEqDiff, ↓reduceIte, reduceCtorEq, Int.reduceToNat, Nat.reduceAdd, Nat.reduceMul, Int.reduceAdd, Int.reduceSub, Int.reduceLE, Int.reduceLT, Int.reduceNeg, Int.reduceMul, Int.reduceEq, Int.reduceNe, Nat.reduceLeDiff, Nat.reduceSub, hn0]; rfl⟩⟩
  intro fr S1 hIf
  obtain ⟨f1, f3, f5, f6, g1, ⟨t1, r1⟩, ⟨t2, r2⟩, ⟨t3, r3⟩⟩ := (hI _ _).1 hIf
  obtain ⟨k, hkp⟩ : ∃ k, k = placeS n ns := ⟨_, rfl⟩
  have hkl : k ≤ ns.length := by rw [hkp]; exact placeS_le _ _
  have l1 : (strs ns).length = ns.length := strs_len _
  have elem : ∀ i (h : i < ns.length), ∃ q o, iaddrSV 1 nv (.int .i64 i) = some (.ptr q o, .no) ∧ ld1 (S1.row q) o = some (ofL ns[i], .no) := fun i h => by
    obtain ⟨q, o, a1, a2, a3, a4, a5⟩ := (h1.gr g1).elem (i := i) (by omega)
    refine ⟨q, o, a1, ?_⟩
    have e : (strs ns)[i] = [ofL ns[i]] := by simp [strs]
    have := a5 0 (by rw [e]; simp)
    simp only [e] at this
    exact this
  rw [wC_seq]; simp only [XX, splice_def, Nat.reduceEqDiff, ↓reduceIte, reduceCtorEq, Int.reduceToNat, Nat.reduceAdd, Nat.reduceMul, Int.reduceAdd, Int.reduceSub, Int.reduceLE, Int.reduceLT, Int.reduceNeg, Int.reduceMul, Int.reduceEq, Int.reduceNe, Nat.reduceLeDiff, Nat.reduceSub]
  obtain ⟨J, hJ⟩ : ∃ J : Fr → St → Prop, ∀ fr S, J fr S ↔ (S1 = S ∧ fr 1 = ofL n ∧ fr 3 = .ptr b1 0 ∧ fr 5 = .ptr b2 0 ∧ fr 6 = .ptr b3 0 ∧ fr 7 = .int .i64 k) := ⟨_, fun _ _ => Iff.rfl⟩
  refine wC_cut J ?_ ?_
  · simp only [XX, splice_def, Nat.reduceEqDiff, ↓reduceIte, reduceCtorEq, Int.reduceToNat, Nat.reduceAdd, Nat.reduceMul, Int.reduceAdd, Int.reduceSub, Int.reduceLE, Int.reduceLT, Int.reduceNeg, Int.reduceMul, Int.reduceEq, Int.reduceNe, Nat.reduceLeDiff, Nat.reduceSub]
    obtain ⟨L, hL⟩ : ∃ L : Nat → Fr → St → Prop, ∀ j fr S, L j fr S ↔ ∃ i : Nat, j + i = k ∧ S1 = S ∧ fr 1 = ofL n ∧ fr 3 = .ptr b1 0 ∧ fr 5 = .ptr b2 0 ∧ fr 6 = .ptr b3 0 ∧ fr 7 = .int .i64 i := ⟨_, fun _ _ _ => Iff.rfl⟩
    refine wC_loop L k (by omega) ((hL _ _ _).2 ⟨0, by omega, rfl, by simp only [XX, wC_seq, wC_seqj, splice_def, Nat.reduceEqDiff, ↓reduceIte, reduceCtorEq, Int.reduceToNat, Nat.reduceAdd, Nat.reduceMul, Int.reduceAdd, Int.reduceSub, Int.reduceLE, Int.reduceLT, Int.reduceNeg, Int.reduceMul, Int.reduceEq, Int.reduceNe, Nat.reduceLeDiff, Nat.reduceSub, f1], by simp only [XX, wC_seq, wC_seqj, splice_def, Nat.reduceEqDiff, ↓reduceIte, reduceCtorEq, Int.reduceToNat, Nat.reduceAdd, Nat.reduceMul, Int.reduceAdd, Int.reduceSub, Int.reduceLE, Int.reduceLT, Int.reduceNeg, Int.reduceMul, Int.reduceEq, Int.reduceNe, Nat.reduceLeDiff, Nat.reduceSub, f3], by simp only [XX, wC_seq, wC_seqj, splice_def, Nat.reduceEqDiff, ↓reduceIte, reduceCtorEq, Int.reduceToNat, Nat.reduceAdd, Nat.reduceMul, Int.reduceAdd, Int.reduceSub, Int.reduceLE, Int.reduceLT, Int.reduceNeg, Int.reduceMul, Int.reduceEq, Int.reduceNe, Nat.reduceLeDiff, Nat.reduceSub, f5], by simp only [XX, wC_seq, wC_seqj, splice_def, Nat.reduceEqDiff, ↓reduceIte, reduceCtorEq, Int.reduceToNat, Nat.reduceAdd, Nat.reduceMul, Int.reduceAdd, Int.reduceSub, Int.reduceLE, Int.reduceLT, Int.reduceNeg, Int.reduceMul, Int.reduceEq, Int.reduceNe, Nat.reduceLeDiff, Nat.reduceSub, f6], by simp only [XX, wC_seq, wC_seqj, splice_def, Nat.reduceEqDiff, ↓reduceIte, reduceCtorEq, Int.reduceToNat, Nat.reduceAdd, Nat.reduceMul, Int.reduceAdd, Int.reduceSub, Int.reduceLE, Int.reduceLT, Int.reduceNeg, Int.reduceMul, Int.reduceEq, Int.reduceNe, Nat.reduceLeDiff, Nat.reduceSub]; rfl⟩) ?_
    clear f1 f3 f5 f6
    intro j fr S hLj
    obtain ⟨i, hj, rfl, f1, f3, f5, f6, f7⟩ := (hL _ _ _).1 hLj
    by_cases hi : i < ns.length
    · have hi' : (i : Int) < ns.length := by omega
      obtain ⟨q, o, a1, a2⟩ := elem i hi
      by_cases hik : i < k
      · have hlt : Op.bytesLess ns[i] n = true := placeS_lt n ns i hi (by omega)
        have hadd1 : IntKind.i64.wrap ((i : Int) + 1) = ((i + 1 : Nat) : Int) := by rw [i64_in (by omega) (by omega)]; rfl
        simp only [XX, wC_seq, wC_seqj, splice_def, Nat.reduceEqDiff, ↓reduceIte, reduceCtorEq, Int.reduceToNat, Nat.reduceAdd, Nat.reduceMul, Int.reduceAdd, Int.reduceSub, Int.reduceLE, Int.reduceLT, Int.reduceNeg, Int.reduceMul, Int.reduceEq, Int.reduceNe, Nat.reduceLeDiff, Nat.reduceSub, f1, f3, f5, f6, f7, r1, len1, hi', a1, a2, hlt, hadd1]
        exact ⟨k - (i + 1), by omega, (hL _ _ _).2 ⟨i + 1, by omega, rfl, by simp only [XX, wC_seq, wC_seqj, splice_def, Nat.reduceEqDiff, ↓reduceIte, reduceCtorEq, Int.reduceToNat, Nat.reduceAdd, Nat.reduceMul, Int.reduceAdd, Int.reduceSub, Int.reduceLE, Int.reduceLT, Int.reduceNeg, Int.reduceMul, Int.reduceEq, Int.reduceNe, Nat.reduceLeDiff, Nat.reduceSub, f1], by simp only [XX, wC_seq, wC_seqj, splice_def, Nat.reduceEqDiff, ↓reduceIte, reduceCtorEq, Int.reduceToNat, Nat.reduceAdd, Nat.reduceMul, Int.reduceAdd, Int.reduceSub, Int.reduceLE, Int.reduceLT, Int.reduceNeg, Int.reduceMul, Int.reduceEq, Int.reduceNe, Nat.reduceLeDiff, Nat.reduceSub, f3], by simp only [XX, wC_seq, wC_seqj, splice_def, Nat.reduceEqDiff, ↓reduceIte, reduceCtorEq, Int.reduceToNat, Nat.reduceAdd, Nat.reduceMul, Int.reduceAdd, Int.reduceSub, Int.reduceLE, Int.reduceLT, Int.reduceNeg, Int.reduceMul, Int.reduceEq, Int.reduceNe, Nat.reduceLeDiff, Nat.reduceSub, f5], by simp only [XX, wC_seq, wC_seqj, splice_def, Nat.reduceEqDiff, ↓reduceIte, reduceCtorEq, Int.reduceToNat, Nat.reduceAdd, Nat.reduceMul, Int.reduceAdd, Int.reduceSub, Int.reduceLE, Int.reduceLT, Int.reduceNeg, Int.reduceMul, Int.reduceEq, Int.reduceNe, Nat.reduceLeDiff, Nat.reduceSub, f6], by simp only [XX, wC_seq, wC_seqj, splice_def, Nat.reduceEqDiff, ↓reduceIte, reduceCtorEq, Int.reduceToNat, Nat.reduceAdd, Nat.reduceMul, Int.reduceAdd, Int.reduceSub, Int.reduceLE, Int.reduceLT, Int.reduceNeg, Int.reduceMul, Int.reduceEq, Int.reduceNe, Nat.reduceLeDiff, Nat.reduceSub]⟩⟩
      · have hik : i = k := by omega
        subst hik
        have hlt : Op.bytesLess ns[i] n = false := by
          have := placeS_at n ns (by omega)
          simp only [← hkp] at this
          exact this
        simp only [XX, wC_seq, wC_seqj, splice_def, Nat.reduceEqDiff, ↓reduceIte, reduceCtorEq, Int.reduceToNat, Nat.reduceAdd, Nat.reduceMul, Int.reduceAdd, Int.reduceSub, Int.reduceLE, Int.reduceLT, Int.reduceNeg, Int.reduceMul, Int.reduceEq, Int.reduceNe, Nat.reduceLeDiff, Nat.reduceSub, f1, f3, f5, f6, f7, r1, len1, hi', a1, a2, hlt]
        exact (hJ _ _).2 ⟨rfl, by simp only [XX, wC_seq, wC_seqj, splice_def, Nat.reduceEqDiff, ↓reduceIte, reduceCtorEq, Int.reduceToNat, Nat.reduceAdd, Nat.reduceMul, Int.reduceAdd, Int.reduceSub, Int.reduceLE, Int.reduceLT, Int.reduceNeg, Int.reduceMul, Int.reduceEq, Int.reduceNe, Nat.reduceLeDiff, Nat.reduceSub, f1], by simp only [XX, wC_seq, wC_seqj, splice_def, Nat.reduceEqDiff, ↓reduceIte, reduceCtorEq, Int.reduceToNat, Nat.reduceAdd, Nat.reduceMul, Int.reduceAdd, Int.reduceSub, Int.reduceLE, Int.reduceLT, Int.reduceNeg, Int.reduceMul, Int.reduceEq, Int.reduceNe, Nat.reduceLeDiff, Nat.reduceSub, f3], by simp only [XX, wC_seq, wC_seqj, splice_def, Nat.reduceEqDiff, ↓reduceIte, reduceCtorEq, Int.reduceToNat, Nat.reduceAdd, Nat.reduceMul, Int.reduceAdd, Int.reduceSub, Int.reduceLE, Int.reduceLT, Int.reduceNeg, Int.reduceMul, Int.reduceEq, Int.reduceNe, Nat.reduceLeDiff, Nat.reduceSub, f5], by simp only [XX, wC_seq, wC_seqj, splice_def, Nat.reduceEqDiff, ↓reduceIte, reduceCtorEq, Int.reduceToNat, Nat.reduceAdd, Nat.reduceMul, Int.reduceAdd, Int.reduceSub, Int.reduceLE, Int.reduceLT, Int.reduceNeg, Int.reduceMul, Int.reduceEq, Int.reduceNe, Nat.reduceLeDiff, Nat.reduceSub, f6], by simp only [XX, wC_seq, wC_seqj, splice_def, Nat.reduceEqDiff, ↓reduceIte, reduceCtorEq, Int.reduceToNat, Nat.reduceAdd, Nat.reduceMul, Int.reduceAdd, Int.reduceSub, Int.reduceLE, Int.reduceLT, Int.reduceNeg, Int.reduceMul, Int.reduceEq, Int.reduceNe, Nat.reduceLeDiff, Nat.reduceSub, f7]⟩
    · have hi' : ¬ (i : Int) < ns.length := by omega
      have hik : i = k := by omega
      subst hik
      simp only [XX, wC_seq, wC_seqj, splice_def, Nat.reduceEqDiff, ↓reduceIte, reduceCtorEq, Int.reduceToNat, Nat.reduceAdd, Nat.reduceMul, Int.reduceAdd, Int.reduceSub, Int.reduceLE, Int.reduceLT, Int.reduceNeg, Int.reduceMul, Int.reduceEq, Int.reduceNe, Nat.reduceLeDiff, Nat.reduceSub, f1, f3, f5, f6, f7, r1, len1, hi']
      exact (hJ _ _).2 ⟨rfl, by simp only [XX, wC_seq, wC_seqj, splice_def, Nat.reduceEqDiff, ↓reduceIte, reduceCtorEq, Int.reduceToNat, Nat.reduceAdd, Nat.reduceMul, Int.reduceAdd, Int.reduceSub, Int.reduceLE, Int.reduceLT, Int.reduceNeg, Int.reduceMul, Int.reduceEq, Int.reduceNe, Nat.reduceLeDiff, Nat.reduceSub, f1], by simp only [XX, wC_seq, wC_seqj, splice_def, Nat.reduceEqDiff, ↓reduceIte, reduceCtorEq, Int.reduceToNat, Nat.reduceAdd, Nat.reduceMul, Int.reduceAdd, Int.reduceSub, Int.reduceLE, Int.reduceLT, Int.reduceNeg, Int.reduceMul, Int.reduceEq, Int.reduceNe, Nat.reduceLeDiff, Nat.reduceSub, f3], by simp only [XX, wC_seq, wC_seqj, splice_def, Nat.reduceEqDiff, ↓reduceIte, reduceCtorEq, Int.reduceToNat, Nat.reduceAdd, Nat.reduceMul, Int.reduceAdd, Int.reduceSub, Int.reduceLE, Int.reduceLT, Int.reduceNeg, Int.reduceMul, Int.reduceEq, Int.reduceNe, Nat.reduceLeDiff, Nat.reduceSub, f5], by simp only [XX, wC_seq, wC_seqj, splice_def, Nat.reduceEqDiff, ↓reduceIte, reduceCtorEq, Int.reduceToNat, Nat.reduceAdd, Nat.reduceMul, Int.reduceAdd, Int.reduceSub, Int.reduceLE, Int.reduceLT, Int.reduceNeg, Int.reduceMul, Int.reduceEq, Int.reduceNe, Nat.reduceLeDiff, Nat.reduceSub, f6], by simp only [XX, wC_seq, wC_seqj, splice_def, Nat.reduceEqDiff, ↓reduceIte, reduceCtorEq, Int.reduceToNat, Nat.reduceAdd, Nat.reduceMul, Int.reduceAdd, Int.reduceSub, Int.reduceLE, Int.reduceLT, Int.reduceNeg, Int.reduceMul, Int.reduceEq, Int.reduceNe, Nat.reduceLeDiff, Nat.reduceSub, f7]⟩
  clear f1 f3 f5 f6
  intro fr S hJf
  obtain ⟨rfl, f1, f3, f5, f6, f7⟩ := (hJ _ _).1 hJf
  have n3 : st.row b3 = .none := by rw [hb3]; exact nx0 hw hn0 2
  have n1 : st.row b1 = .none := by rw [hb1]; exact nx0 hw hn0 0
  by_cases hsame : ns[k]? = some n
  · have hi : k < ns.length := by
      rcases Nat.lt_or_ge k ns.length with h | h
      · exact h
      · rw [List.getElem?_eq_none h] at hsame; cases hsame
    have hi' : (k : Int) < ns.length := by omega
    obtain ⟨q, o, a1, a2⟩ := elem k hi
    have hnk : ns[k] = n := by rw [List.getElem?_eq_getElem hi] at hsame; injection hsame
    rw [hnk] at a2
    rw [wC_seqj, wC_seq]; simp only [XX, wC_seq, wC_seqj, splice_def, Nat.reduceEqDiff, ↓reduceIte, reduceCtorEq, Int.reduceToNat, Nat.reduceAdd, Nat.reduceMul, Int.reduceAdd, Int.reduceSub, Int.reduceLE, Int.reduceLT, Int.reduceNeg, Int.reduceMul, Int.reduceEq, Int.reduceNe, Nat.reduceLeDiff, Nat.reduceSub, f1, f3, f5, f6, f7, r1, r3, len1, hi', a1, a2, c1, s1, c2, s2]
    have gw := g1.wr (f := fun u => .cells u [.int .i64 tk, ofL tn, nv, kv]) n3 (ne_cells r3) (by rw [r3]) (good_cells _)
    refine ⟨gw, _, rfl, ?_⟩
    have e : putS (.mk tk tn ns ks) n (.mk xk xn xns xks) = .mk tk tn ns ks := by
      rw [putS]
      show (if ns[placeS n ns]? = some n then _ else _) = _
      rw [← hkp, if_pos hsame]
    rw [e]
    exact htt.gr gw
  · skip
    obtain ⟨M, hM⟩ : ∃ M : Fr → St → Prop, ∀ fr S, M fr S ↔ (S1 = S ∧ fr 1 = ofL n ∧ fr 3 = .ptr b1 0 ∧ fr 5 = .ptr b2 0 ∧ fr 6 = .ptr b3 0 ∧ fr 7 = .int .i64 k) := ⟨_, fun _ _ => Iff.rfl⟩
    refine wC_cut M ?_ ?_
    · by_cases hi : k < ns.length
      · have hi' : (k : Int) < ns.length := by omega
        obtain ⟨q, o, a1, a2⟩ := elem k hi
        have hne : (ns[k] = n) = False := eq_false fun e => hsame (by rw [List.getElem?_eq_getElem hi]; exact congrArg some e)
        simp only [XX, wC_seq, wC_seqj, splice_def, Nat.reduceEqDiff, ↓reduceIte, reduceCtorEq, Int.reduceToNat, Nat.reduceAdd, Nat.reduceMul, Int.reduceAdd, Int.reduceSub, Int.reduceLE, Int.reduceLT, Int.reduceNeg, Int.reduceMul, Int.reduceEq, Int.reduceNe, Nat.reduceLeDiff, Nat.reduceSub, f1, f3, f5, f6, f7, r1, len1, hi', a1, a2, str_heq, hne]
        exact (hM _ _).2 ⟨rfl, by simp only [XX, wC_seq, wC_seqj, splice_def, Nat.reduceEqDiff, ↓reduceIte, reduceCtorEq, Int.reduceToNat, Nat.reduceAdd, Nat.reduceMul, Int.reduceAdd, Int.reduceSub, Int.reduceLE, Int.reduceLT, Int.reduceNeg, Int.reduceMul, Int.reduceEq, Int.reduceNe, Nat.reduceLeDiff, Nat.reduceSub, f1], by simp only [XX, wC_seq, wC_seqj, splice_def, Nat.reduceEqDiff, ↓reduceIte, reduceCtorEq, Int.reduceToNat, Nat.reduceAdd, Nat.reduceMul, Int.reduceAdd, Int.reduceSub, Int.reduceLE, Int.reduceLT, Int.reduceNeg, Int.reduceMul, Int.reduceEq, Int.reduceNe, Nat.reduceLeDiff, Nat.reduceSub, f3], by simp only [XX, wC_seq, wC_seqj, splice_def, Nat.reduceEqDiff, ↓reduceIte, reduceCtorEq, Int.reduceToNat, Nat.reduceAdd, Nat.reduceMul, Int.reduceAdd, Int.reduceSub, Int.reduceLE, Int.reduceLT, Int.reduceNeg, Int.reduceMul, Int.reduceEq, Int.reduceNe, Nat.reduceLeDiff, Nat.reduceSub, f5], by simp only [XX, wC_seq, wC_seqj, splice_def, Nat.reduceEqDiff, ↓reduceIte, reduceCtorEq, Int.reduceToNat, Nat.reduceAdd, Nat.reduceMul, Int.reduceAdd, Int.reduceSub, Int.reduceLE, Int.reduceLT, Int.reduceNeg, Int.reduceMul, Int.reduceEq, Int.reduceNe, Nat.reduceLeDiff, Nat.reduceSub, f6], by simp only [XX, wC_seq, wC_seqj, splice_def, Nat.reduceEqDiff, ↓reduceIte, reduceCtorEq, Int.reduceToNat, Nat.reduceAdd, Nat.reduceMul, Int.reduceAdd, Int.reduceSub, Int.reduceLE, Int.reduceLT, Int.reduceNeg, Int.reduceMul, Int.reduceEq, Int.reduceNe, Nat.reduceLeDiff, Nat.reduceSub, f7]⟩
      · have hi' : ¬ (k : Int) < ns.length := by omega
        simp only [XX, wC_seq, wC_seqj, splice_def, Nat.reduceEqDiff, ↓reduceIte, reduceCtorEq, Int.reduceToNat, Nat.reduceAdd, Nat.reduceMul, Int.reduceAdd, Int.reduceSub, Int.reduceLE, Int.reduceLT, Int.reduceNeg, Int.reduceMul, Int.reduceEq, Int.reduceNe, Nat.reduceLeDiff, Nat.reduceSub, f1, f3, f5, f6, f7, r1, len1, hi']
        exact (hM _ _).2 ⟨rfl, by simp only [XX, wC_seq, wC_seqj, splice_def, Nat.reduceEqDiff, ↓reduceIte, reduceCtorEq, Int.reduceToNat, Nat.reduceAdd, Nat.reduceMul, Int.reduceAdd, Int.reduceSub, Int.reduceLE, Int.reduceLT, Int.reduceNeg, Int.reduceMul, Int.reduceEq, Int.reduceNe, Nat.reduceLeDiff, Nat.reduceSub, f1], by simp only [XX, wC_seq, wC_seqj, splice_def, Nat.reduceEqDiff, ↓reduceIte, reduceCtorEq, Int.reduceToNat, Nat.reduceAdd, Nat.reduceMul, Int.reduceAdd, Int.reduceSub, Int.reduceLE, Int.reduceLT, Int.reduceNeg, Int.reduceMul, Int.reduceEq, Int.reduceNe, Nat.reduceLeDiff, Nat.reduceSub, f3], by simp only [XX, wC_seq, wC_seqj, splice_def, Nat.reduceEqDiff, ↓reduceIte, reduceCtorEq, Int.reduceToNat, Nat.reduceAdd, Nat.reduceMul, Int.reduceAdd, Int.reduceSub, Int.reduceLE, Int.reduceLT, Int.reduceNeg, Int.reduceMul, Int.reduceEq, Int.reduceNe, Nat.reduceLeDiff, Nat.reduceSub, f5], by simp only [XX, wC_seq, wC_seqj, splice_def, Nat.reduceEqDiff, ↓reduceIte, reduceCtorEq, Int.reduceToNat, Nat.reduceAdd, Nat.reduceMul, Int.reduceAdd, Int.reduceSub, Int.reduceLE, Int.reduceLT, Int.reduceNeg, Int.reduceMul, Int.reduceEq, Int.reduceNe, Nat.reduceLeDiff, Nat.reduceSub, f6], by simp only [XX, wC_seq, wC_seqj, splice_def, Nat.reduceEqDiff, ↓reduceIte, reduceCtorEq, Int.reduceToNat, Nat.reduceAdd, Nat.reduceMul, Int.reduceAdd, Int.reduceSub, Int.reduceLE, Int.reduceLT, Int.reduceNeg, Int.reduceMul, Int.reduceEq, Int.reduceNe, Nat.reduceLeDiff, Nat.reduceSub, f7]⟩
    clear f1 f3 f5 f6 f7
    intro fr S hMf
    obtain ⟨rfl, f1, f3, f5, f6, f7⟩ := (hM _ _).1 hMf
    have w1 := g1.wf
    have hkl' : k ≤ (strs ns).length := by omega
    have hkl2 : k ≤ es.length := by omega
    obtain ⟨va, hva, sa, _⟩ := cut_hi (h1.gr g1) (k := k) hkl'
    obtain ⟨vb, hvb, sb, _⟩ := cut_lo (h1.gr g1) (k := k) hkl'
    obtain ⟨vc, hvc, sc, _⟩ := cut_hi (h2.gr g1) (k := k) hkl2
    obtain ⟨vd, hvd, sd, _⟩ := cut_lo (h2.gr g1) (k := k) hkl2
    have hva' : ∀ S', cutLV S' 1 nv none (some (.int .i64 (k : Int))) none = some (va, .no) := fun _ => hva
    have hvb' : ∀ S', cutLV S' 1 nv (some (.int .i64 (k : Int))) none none = some (vb, .no) := fun _ => hvb
    have hvc' : ∀ S', cutLV S' 4 kv none (some (.int .i64 (k : Int))) none = some (vc, .no) := fun _ => hvc
    have hvd' : ∀ S', cutLV S' 4 kv (some (.int .i64 (k : Int))) none none = some (vd, .no) := fun _ => hvd
    obtain ⟨m1, hm1⟩ : ∃ n, S1.nx = up 0 n := ⟨_, up0 _⟩
    have ob1 := fun j => nes (ne_up w1 hm1 (ne_cells r1) j)
    have ob2 := fun j => nes (ne_up w1 hm1 (ne_cells r2) j)
    have ob3 := fun j => nes (ne_up w1 hm1 (ne_cells r3) j)
    have okt : ∀ (z : Nat) (l : List (List V)) (q : Nat), okC l → okC (l.take q) := fun _ l q h e he => h e (List.mem_of_mem_take he)
    have okd : ∀ (z : Nat) (l : List (List V)) (q : Nat), okC l → okC (l.drop q) := fun _ l q h e he => h e (List.mem_of_mem_drop he)
    have gn : ∀ S : St, WF S → ∀ l, Gr S (S.new fun t => .cells t l) := fun S w l => Gr.new w (good_cells _)
    have hes : okC es := fun e he => by
      obtain ⟨i, hi, rfl⟩ := List.getElem_of_mem he
      exact (h4 i hi (by omega)).ok
    rw [wC_seq]; simp only [XX, splice_def, Nat.reduceEqDiff, ↓reduceIte, reduceCtorEq, Int.reduceToNat, Nat.reduceAdd, Nat.reduceMul, Int.reduceAdd, Int.reduceSub, Int.reduceLE, Int.reduceLT, Int.reduceNeg, Int.reduceMul, Int.reduceEq, Int.reduceNe, Nat.reduceLeDiff, Nat.reduceSub, f3, f7, r1, hm1, ob1, hva']
    have ga := gn S1 w1 []
    have hq0 : SlF S1 (S1.new fun t => .cells t []) (.slx (up 0 m1) 0 0 1 0) 1 [] := ⟨by simp, .inr ⟨up 0 m1, S1.t, nx0 w1 hm1 0, by simp only [XX, wC_seq, wC_seqj, splice_def, Nat.reduceEqDiff, ↓reduceIte, reduceCtorEq, Int.reduceToNat, Nat.reduceAdd, Nat.reduceMul, Int.reduceAdd, Int.reduceSub, Int.reduceLE, Int.reduceLT, Int.reduceNeg, Int.reduceMul, Int.reduceEq, Int.reduceNe, Nat.reduceLeDiff, Nat.reduceSub, hm1]; rfl, .inr rfl⟩⟩
    refine wW_appF (S0 := S1) ga hq0 (sa.gr ga) (okt 1 _ _ (strs_ok ns)) (by rw [List.length_take]; omega) (by rw [List.length_take]; simp; omega) ?_
    intro S2 v2 g2 h2' _
    rw [List.nil_append] at h2'
    simp only [XX, splice_def, Nat.reduceEqDiff, ↓reduceIte, reduceCtorEq, Int.reduceToNat, Nat.reduceAdd, Nat.reduceMul, Int.reduceAdd, Int.reduceSub, Int.reduceLE, Int.reduceLT, Int.reduceNeg, Int.reduceMul, Int.reduceEq, Int.reduceNe, Nat.reduceLeDiff, Nat.reduceSub]
    have b1at : S2.row b1 = .cells t1 [.int .i64 tk, ofL tn, nv, kv] := g2.cells r1
    obtain ⟨m2, hm2⟩ : ∃ n, S2.nx = up 0 n := ⟨_, up0 _⟩
    have w2 := g2.wf
    have ob1 := fun j => nes (ne_up w2 hm2 (ne_cells b1at) j)
    rw [wC_seq]; simp only [XX, splice_def, Nat.reduceEqDiff, ↓reduceIte, reduceCtorEq, Int.reduceToNat, Nat.reduceAdd, Nat.reduceMul, Int.reduceAdd, Int.reduceSub, Int.reduceLE, Int.reduceLT, Int.reduceNeg, Int.reduceMul, Int.reduceEq, Int.reduceNe, Nat.reduceLeDiff, Nat.reduceSub, f3, f7, b1at, hm2, ob1, hvc']
    have gb := gn S2 w2 []
    have hq1 : SlF S1 (S2.new fun t => .cells t []) (.slx (up 0 m2) 0 0 4 0) 4 [] := ⟨by simp, .inr ⟨up 0 m2, S2.t, by rw [← hm2]; exact g2.fresh, by simp only [XX, wC_seq, wC_seqj, splice_def, Nat.reduceEqDiff, ↓reduceIte, reduceCtorEq, Int.reduceToNat, Nat.reduceAdd, Nat.reduceMul, Int.reduceAdd, Int.reduceSub, Int.reduceLE, Int.reduceLT, Int.reduceNeg, Int.reduceMul, Int.reduceEq, Int.reduceNe, Nat.reduceLeDiff, Nat.reduceSub, hm2]; rfl, .inr rfl⟩⟩
    refine wW_appG (S0 := S1) (g2.trans gb) hq1 ((sc.gr g2).gr gb) (okt 4 _ _ hes) (by rw [List.length_take]; omega) (by rw [List.length_take]; simp; omega) ?_
    intro S3 v3 g3 h3' row3 keep3
    rw [List.nil_append] at h3'
    have v2ex : ∀ {r}, rowOf v2 = some r → S2.row r ≠ .none := fun hr => h2'.some hr
    have h23x : ∀ r, rowOf v3 = some r → S2.row r = .none := fun r hr => by
      rcases row3 with e | e
      · rw [e] at hr; injection hr with hr; rw [← hr]; exact nx0 w2 hm2 0
      · rw [e] at hr; injection hr with hr; rw [← hr]
        have := nx0 w2 hm2 1
        simpa only [XX, wC_seq, wC_seqj, splice_def, Nat.reduceEqDiff, ↓reduceIte, reduceCtorEq, Int.reduceToNat, Nat.reduceAdd, Nat.reduceMul, Int.reduceAdd, Int.reduceSub, Int.reduceLE, Int.reduceLT, Int.reduceNeg, Int.reduceMul, Int.reduceEq, Int.reduceNe, Nat.reduceLeDiff, Nat.reduceSub, hm2] using this
    have h23 : SlF S1 S3 v2 1 ((strs ns).take k) := (h2'.gr gb).keep fun r hr => keep3 r ((h2'.gr gb).some hr) (fun e => by
      injection e with e
      exact ne_up w2 hm2 (v2ex hr) 0 e.symm)
    have x32 : ∀ r, rowOf v3 = some r → rowOf v2 ≠ some r := fun r a b => v2ex b (h23x r a)
    simp only [XX, splice_def, Nat.reduceEqDiff, ↓reduceIte, reduceCtorEq, Int.reduceToNat, Nat.reduceAdd, Nat.reduceMul, Int.reduceAdd, Int.reduceSub, Int.reduceLE, Int.reduceLT, Int.reduceNeg, Int.reduceMul, Int.reduceEq, Int.reduceNe, Nat.reduceLeDiff, Nat.reduceSub]
    have b1at := g3.cells r1
    have b2at := g3.cells r2
    rw [wC_seq]
    simp only [XX, splice_def, Nat.reduceEqDiff, ↓reduceIte, reduceCtorEq, Int.reduceToNat, Nat.reduceAdd, Nat.reduceMul, Int.reduceAdd, Int.reduceSub, Int.reduceLE, Int.reduceLT, Int.reduceNeg, Int.reduceMul, Int.reduceEq, Int.reduceNe, Nat.reduceLeDiff, Nat.reduceSub, f1, f3, f5, f7, b1at, b2at, hvb', hvd', c3, s3, c4, s4]
    have w3 := g3.wf
    have gc := gn S3 w3 [ofL n]
    have ba : S1.row b1 ≠ .none := ne_cells r1
    have bb : S1.row b2 ≠ .none := ne_cells r2
    refine wW_appN (S0 := S1) (g3.trans gc) (h23.gr gc) (one_at rfl) (fun e he => by rw [List.mem_singleton.1 he]; rfl) (by simp) (by simp) (by rw [List.length_take]; simp; omega) ?_
    intro S4 v4 g4 h4' row4 keep4
    have v4n : ∀ r, rowOf v4 = some r → S3.row r = .none := fun r hr => by
      rw [row4] at hr; injection hr with hr; rw [← hr]
      exact Ch.fresh (Ch.of (fun _ => False) gc) (nx_none gc.wf)
    have h34 : SlF S1 S4 v3 4 (es.take k) := (h3'.gr gc).keep fun r hr => keep4 r ((h3'.gr gc).some hr) fun e => x32 r hr e
    have b1at := g4.cells r1
    simp only [XX, splice_def, Nat.reduceEqDiff, ↓reduceIte, reduceCtorEq, Int.reduceToNat, Nat.reduceAdd, Nat.reduceMul, Int.reduceAdd, Int.reduceSub, Int.reduceLE, Int.reduceLT, Int.reduceNeg, Int.reduceMul, Int.reduceEq, Int.reduceNe, Nat.reduceLeDiff, Nat.reduceSub, f1, f3, f5, f7, b1at, hvb']
    refine wW_appG (S0 := S1) g4 h4' (sb.gr g4) (okd 1 _ _ (strs_ok ns)) (by rw [List.length_drop]; omega) (by rw [List.length_drop, List.length_append, List.length_take]; simp; omega) ?_
    intro S5 v5 g5 h5' row5 keep5
    have h35 : SlF S1 S5 v3 4 (es.take k) := h34.keep fun r hr => keep5 r (h34.some hr) fun e => h3'.some hr (v4n r e)
    have b2at := g5.cells r2
    simp only [XX, splice_def, Nat.reduceEqDiff, ↓reduceIte, reduceCtorEq, Int.reduceToNat, Nat.reduceAdd, Nat.reduceMul, Int.reduceAdd, Int.reduceSub, Int.reduceLE, Int.reduceLT, Int.reduceNeg, Int.reduceMul, Int.reduceEq, Int.reduceNe, Nat.reduceLeDiff, Nat.reduceSub, f1, f3, f5, f7, b2at, c3, s3, c4, s4]
    have w5 := g5.wf
    have gd := gn S5 w5 [.int .i64 xk, ofL xn, xnv, xkv]
    have hxok : allSc [V.int .i64 xk, ofL xn, xnv, xkv] = true := hxx.ok
    refine wW_appN (S0 := S1) (g5.trans gd) (h35.gr gd) (one_at rfl) (fun e he => by rw [List.mem_singleton.1 he]; exact hxok) (by simp) (by simp) (by rw [List.length_take]; simp; omega) ?_
    intro S6 v6 g6 h6' row6 keep6
    have v6n : ∀ r, rowOf v6 = some r → S5.row r = .none := fun r hr => by
      rw [row6] at hr; injection hr with hr; rw [← hr]
      exact Ch.fresh (Ch.of (fun _ => False) gd) (nx_none gd.wf)
    have x53 : ∀ r, rowOf v5 = some r → rowOf v3 ≠ some r := fun r a b => by
      rcases row5 with e | e
      · rw [e] at a; exact h3'.some b (v4n r a)
      · rw [e] at a; injection a with a; rw [← a] at b; exact h34.some b (nx_none g4.wf)
    have h56 : SlF S1 S6 v5 1 ((strs ns).take k ++ [[ofL n]] ++ (strs ns).drop k) := (h5'.gr gd).keep fun r hr => keep6 r ((h5'.gr gd).some hr) (x53 r hr)
    have b1at := g6.cells r1
    simp only [XX, splice_def, Nat.reduceEqDiff, ↓reduceIte, reduceCtorEq, Int.reduceToNat, Nat.reduceAdd, Nat.reduceMul, Int.reduceAdd, Int.reduceSub, Int.reduceLE, Int.reduceLT, Int.reduceNeg, Int.reduceMul, Int.reduceEq, Int.reduceNe, Nat.reduceLeDiff, Nat.reduceSub, f1, f3, f5, f7, b1at, hvd']
    refine wW_appG (S0 := S1) g6 h6' (sd.gr g6) (okd 4 _ _ hes) (by rw [List.length_drop]; omega) (by rw [List.length_drop, List.length_append, List.length_take]; simp; omega) ?_
    intro S7 v7 g7 h7' row7 keep7
    have h57 : SlF S1 S7 v5 1 ((strs ns).take k ++ [[ofL n]] ++ (strs ns).drop k) := h56.keep fun r hr => keep7 r (h56.some hr) fun e => h5'.some hr (v6n r e)
    have b1at := g7.cells r1
    have c5 := h57.at.cells
    have s5 := h57.at.sc
    have c6 := h7'.at.cells
    have s6 := h7'.at.sc
    simp only [XX, splice_def, Nat.reduceEqDiff, ↓reduceIte, reduceCtorEq, Int.reduceToNat, Nat.reduceAdd, Nat.reduceMul, Int.reduceAdd, Int.reduceSub, Int.reduceLE, Int.reduceLT, Int.reduceNeg, Int.reduceMul, Int.reduceEq, Int.reduceNe, Nat.reduceLeDiff, Nat.reduceSub, f1, f3, f5, f7, b1at, c5, s5, c6, s6]
    have a2 := slF_apart h2' ba
    have a2' := slF_apart h2' bb
    have a4 := slF_apart h4' ba
    have a4' := slF_apart h4' bb
    have a3 := slF_apart h3' ba
    refine ⟨apart_cons (apartAll_ok (v := v2) (w := .ptr b1 2) (q := b1) (by simp only [XX, wC_seq, wC_seqj, splice_def, Nat.reduceEqDiff, ↓reduceIte, reduceCtorEq, Int.reduceToNat, Nat.reduceAdd, Nat.reduceMul, Int.reduceAdd, Int.reduceSub, Int.reduceLE, Int.reduceLT, Int.reduceNeg, Int.reduceMul, Int.reduceEq, Int.reduceNe, Nat.reduceLeDiff, Nat.reduceSub]) (by simp only [XX, wC_seq, wC_seqj, splice_def, Nat.reduceEqDiff, ↓reduceIte, reduceCtorEq, Int.reduceToNat, Nat.reduceAdd, Nat.reduceMul, Int.reduceAdd, Int.reduceSub, Int.reduceLE, Int.reduceLT, Int.reduceNeg, Int.reduceMul, Int.reduceEq, Int.reduceNe, Nat.reduceLeDiff, Nat.reduceSub]) rfl a2) <| apart_cons (apartAll_ok (v := v2) (w := .ptr b2 0) (q := b2) (by simp only [XX, wC_seq, wC_seqj, splice_def, Nat.reduceEqDiff, ↓reduceIte, reduceCtorEq, Int.reduceToNat, Nat.reduceAdd, Nat.reduceMul, Int.reduceAdd, Int.reduceSub, Int.reduceLE, Int.reduceLT, Int.reduceNeg, Int.reduceMul, Int.reduceEq, Int.reduceNe, Nat.reduceLeDiff, Nat.reduceSub]) (by simp only [XX, wC_seq, wC_seqj, splice_def, Nat.reduceEqDiff, ↓reduceIte, reduceCtorEq, Int.reduceToNat, Nat.reduceAdd, Nat.reduceMul, Int.reduceAdd, Int.reduceSub, Int.reduceLE, Int.reduceLT, Int.reduceNeg, Int.reduceMul, Int.reduceEq, Int.reduceNe, Nat.reduceLeDiff, Nat.reduceSub, f5]) rfl a2') <| apart_cons (apartAll_ok (v := v2) (w := .ptr b1 3) (q := b1) (by simp only [XX, wC_seq, wC_seqj, splice_def, Nat.reduceEqDiff, ↓reduceIte, reduceCtorEq, Int.reduceToNat, Nat.reduceAdd, Nat.reduceMul, Int.reduceAdd, Int.reduceSub, Int.reduceLE, Int.reduceLT, Int.reduceNeg, Int.reduceMul, Int.reduceEq, Int.reduceNe, Nat.reduceLeDiff, Nat.reduceSub]) (by simp only [XX, wC_seq, wC_seqj, splice_def, Nat.reduceEqDiff, ↓reduceIte, reduceCtorEq, Int.reduceToNat, Nat.reduceAdd, Nat.reduceMul, Int.reduceAdd, Int.reduceSub, Int.reduceLE, Int.reduceLT, Int.reduceNeg, Int.reduceMul, Int.reduceEq, Int.reduceNe, Nat.reduceLeDiff, Nat.reduceSub]) rfl a2) <| apart_cons (apartAll_ok (v := v4) (w := .ptr b2 0) (q := b2) (by simp only [XX, wC_seq, wC_seqj, splice_def, Nat.reduceEqDiff, ↓reduceIte, reduceCtorEq, Int.reduceToNat, Nat.reduceAdd, Nat.reduceMul, Int.reduceAdd, Int.reduceSub, Int.reduceLE, Int.reduceLT, Int.reduceNeg, Int.reduceMul, Int.reduceEq, Int.reduceNe, Nat.reduceLeDiff, Nat.reduceSub]) (by simp only [XX, wC_seq, wC_seqj, splice_def, Nat.reduceEqDiff, ↓reduceIte, reduceCtorEq, Int.reduceToNat, Nat.reduceAdd, Nat.reduceMul, Int.reduceAdd, Int.reduceSub, Int.reduceLE, Int.reduceLT, Int.reduceNeg, Int.reduceMul, Int.reduceEq, Int.reduceNe, Nat.reduceLeDiff, Nat.reduceSub, f5]) rfl a4') <| apart_cons (apartAll_ok (v := v4) (w := .ptr b1 3) (q := b1) (by simp only [XX, wC_seq, wC_seqj, splice_def, Nat.reduceEqDiff, ↓reduceIte, reduceCtorEq, Int.reduceToNat, Nat.reduceAdd, Nat.reduceMul, Int.reduceAdd, Int.reduceSub, Int.reduceLE, Int.reduceLT, Int.reduceNeg, Int.reduceMul, Int.reduceEq, Int.reduceNe, Nat.reduceLeDiff, Nat.reduceSub]) (by simp only [XX, wC_seq, wC_seqj, splice_def, Nat.reduceEqDiff, ↓reduceIte, reduceCtorEq, Int.reduceToNat, Nat.reduceAdd, Nat.reduceMul, Int.reduceAdd, Int.reduceSub, Int.reduceLE, Int.reduceLT, Int.reduceNeg, Int.reduceMul, Int.reduceEq, Int.reduceNe, Nat.reduceLeDiff, Nat.reduceSub]) rfl a4) (apartAll_ok (v := v3) (w := .ptr b1 3) (q := b1) (by simp only [XX, wC_seq, wC_seqj, splice_def, Nat.reduceEqDiff, ↓reduceIte, reduceCtorEq, Int.reduceToNat, Nat.reduceAdd, Nat.reduceMul, Int.reduceAdd, Int.reduceSub, Int.reduceLE, Int.reduceLT, Int.reduceNeg, Int.reduceMul, Int.reduceEq, Int.reduceNe, Nat.reduceLeDiff, Nat.reduceSub]) (by simp only [XX, wC_seq, wC_seqj, splice_def, Nat.reduceEqDiff, ↓reduceIte, reduceCtorEq, Int.reduceToNat, Nat.reduceAdd, Nat.reduceMul, Int.reduceAdd, Int.reduceSub, Int.reduceLE, Int.reduceLT, Int.reduceNeg, Int.reduceMul, Int.reduceEq, Int.reduceNe, Nat.reduceLeDiff, Nat.reduceSub]) rfl a3), ?_⟩
    have ga7 : Gr st (S7.wr b1 t1 fun u => .cells u [.int .i64 tk, ofL tn, v5, kv]) := (g1.trans g7).wr n1 (ne_cells b1at) (by rw [b1at]; rfl) (good_cells _)
    have rb : (S7.wr b1 t1 fun u => Row.cells u [V.int .i64 tk, ofL tn, v5, kv]).row b1 = .cells S7.t [.int .i64 tk, ofL tn, v5, kv] := row_wr_same _ _ _ _
    obtain ⟨S8, hS8⟩ : ∃ S8, S8 = ((S7.wr b1 t1 fun u => Row.cells u [V.int .i64 tk, ofL tn, v5, kv]).wr b1 S7.t fun u => Row.cells u [V.int .i64 tk, ofL tn, v5, v7]) := ⟨_, rfl⟩
    have g8 : Gr st S8 := by rw [hS8]; exact ga7.wr n1 (ne_cells rb) (by rw [rb]; rfl) (good_cells _)
    have nb : ∀ p, p ≠ b1 → S8.row p = S7.row p := fun p hp => by rw [hS8, row_wr_ne _ _ _ hp, row_wr_ne _ _ _ hp]
    have rb1 : ∃ t, S8.row b1 = .cells t [.int .i64 tk, ofL tn, v5, v7] := ⟨_, by rw [hS8]; exact row_wr_same _ _ _ _⟩
    rw [← hS8]
    clear hS8 ga7 rb
    obtain ⟨t8, rb1⟩ := rb1
    have b31 : b3 ≠ b1 := by rw [hb1, hb3]; exact fun e => u02 e.symm
    have rb3 : S8.row b3 = .cells t3 [.int .i64 0, ofL [], .snil, .snil] := by rw [nb b3 b31]; exact g7.cells r3
    rw [wC_seq]; simp only [XX, wC_seq, wC_seqj, splice_def, Nat.reduceEqDiff, ↓reduceIte, reduceCtorEq, Int.reduceToNat, Nat.reduceAdd, Nat.reduceMul, Int.reduceAdd, Int.reduceSub, Int.reduceLE, Int.reduceLT, Int.reduceNeg, Int.reduceMul, Int.reduceEq, Int.reduceNe, Nat.reduceLeDiff, Nat.reduceSub, f3, f6, rb1, rb3, c5, s5, c6, s6]
    have g9 : Gr st (S8.wr b3 t3 fun u => .cells u [.int .i64 tk, ofL tn, v5, v7]) := g8.wr n3 (ne_cells rb3) (by rw [rb3]; rfl) (good_cells _)
    refine ⟨g9, _, rfl, ?_⟩
    have e : putS (.mk tk tn ns ks) n (.mk xk xn xns xks) = .mk tk tn (ns.take k ++ n :: ns.drop k) (ks.take k ++ (.mk xk xn xns xks) :: ks.drop k) := by
      rw [putS]
      show (if ns[placeS n ns]? = some n then _ else _) = _
      rw [← hkp, if_neg hsame, hkp]
      rfl
    rw [e]
    have nv5 : ∀ r, rowOf v5 = some r → r ≠ b1 ∧ r ≠ b3 := fun r hr => ⟨fun e => slF_apart h57 ba (by rw [← e]; exact hr), fun e => slF_apart h57 (ne_cells r3) (by rw [← e]; exact hr)⟩
    have nv7 : ∀ r, rowOf v7 = some r → r ≠ b1 ∧ r ≠ b3 := fun r hr => ⟨fun e => slF_apart h7' ba (by rw [← e]; exact hr), fun e => slF_apart h7' (ne_cells r3) (by rw [← e]; exact hr)⟩
    have k5 := h57.keep (st' := (S8.wr b3 t3 fun u => .cells u [.int .i64 tk, ofL tn, v5, v7])) fun r hr => by rw [row_wr_ne _ _ _ (nv5 r hr).2, nb r (nv5 r hr).1]
    have k7 := h7'.keep (st' := (S8.wr b3 t3 fun u => .cells u [.int .i64 tk, ofL tn, v5, v7])) fun r hr => by rw [row_wr_ne _ _ _ (nv7 r hr).2, nb r (nv7 r hr).1]
    have hPS : ∀ r, S1.row r = .none → P r := fun r h => hP r (Ch.fresh (Ch.of (fun _ => False) g1) h)
    have hstr : (strs ns).take k ++ [[ofL n]] ++ (strs ns).drop k = strs (ns.take k ++ n :: ns.drop k) := by simp [strs]
    rw [hstr] at k5
    have hkid : es.take k ++ [[.int .i64 xk, ofL xn, xnv, xkv]] ++ es.drop k = es.take k ++ [.int .i64 xk, ofL xn, xnv, xkv] :: es.drop k := by simp
    rw [hkid] at k7
    refine .mk (es := es.take k ++ [.int .i64 xk, ofL xn, xnv, xkv] :: es.drop k) (k5.at.imp fun r p _ => ⟨hPS r p, rfl⟩) (k7.at.imp fun r p _ => ⟨hPS r p, rfl⟩) (by simp; omega) ?_
    exact idx_ins (R := TyC P (S8.wr b3 t3 fun u => .cells u [.int .i64 tk, ofL tn, v5, v7])) (hxx.gr g9) k h3 fun i a b => (h4 i a b).gr g9
end Go.Proofs.Ytajifckdgaoncaa
