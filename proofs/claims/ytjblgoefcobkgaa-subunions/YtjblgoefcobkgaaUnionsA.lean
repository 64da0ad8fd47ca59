/- 'SubUnions': what it answers. -/
import Derived.Test.YtjblgoefcobkgaaNew0
import Derived.Test.YtjblgoefcobkgaaWithin
import Derived.Test.YtjblgoefcobkgaaEvdY
namespace Go.Proofs.Ytjblgoefcobkgaa
open Eva Go.RowKit
set_option maxRecDepth 100000
set_option linter.unusedSimpArgs false
set_option linter.unusedVariables false
theorem known_of {st : St} {Q : V → St → Prop} (h : Q (.bool true) st) : Does (tabT tabD) n_spruelaw6_known [] st Q := does_hook at_spruelaw6_known rfl h
def f0U (o x y : Pt) : Nat → V := fun i => if i = 4 then .ptr o 0 else if i = 5 then .ptr x 0 else if i = 6 then .ptr y 0 else .snil
theorem f0U_row {o x y : Pt} {i : Nat} {r : Pt} (h : rowOf (f0U o x y i) = some r) : r = o ∨ r = x ∨ r = y := by
  unfold f0U at h
  by_cases h4 : i = 4
  · rw [if_pos h4] at h; injection h with h; exact .inl h.symm
  rw [if_neg h4] at h
  by_cases h5 : i = 5
  · rw [if_pos h5] at h; injection h with h; exact .inr (.inl h.symm)
  rw [if_neg h5] at h
  by_cases h6 : i = 6
  · rw [if_pos h6] at h; injection h with h; exact .inr (.inr h.symm)
  rw [if_neg h6] at h; cases h
theorem f0U_ne {o x y : Pt} {i j : Nat} {r : Pt} (h1 : o ≠ x) (h2 : o ≠ y) (h3 : x ≠ y) (hij : i ≠ j) (hi : rowOf (f0U o x y i) = some r) (hj : rowOf (f0U o x y j) = some r) : False := by
  unfold f0U at hi hj
  repeat' split at hi
  all_goals repeat' split at hj
  all_goals first | omega | (cases hi; done) | (cases hj; done) | skip
  all_goals injection hi with hi
  all_goals injection hj with hj
  all_goals subst hi
  all_goals first | exact h1 hj | exact h2 hj | exact h3 hj | exact h1 hj.symm | exact h2 hj.symm | exact h3 hj.symm
set_option maxHeartbeats 4000000 in
theorem unionsC (st : St) (hw : WF st) (v1 : V) (z1 : List Int) (hv1 : IntsAt st v1 z1) (hz1 : ∀ z ∈ z1, -9223372036854775808 ≤ z ∧ z < 9223372036854775808) (hn1 : z1.length ≤ maxLen) (v2 : V) (z2 : List Int) (hv2 : IntsAt st v2 z2) (hz2 : ∀ z ∈ z2, -9223372036854775808 ≤ z ∧ z < 9223372036854775808) (hn2 : z2.length ≤ maxLen) (wd : Bool) :
    Does (tabT tabD) n_spruelaw6_SubUnions [v1, v2, .bool wd] st fun v' _ => v' = .bool true := by
  refine does_fn at_spruelaw6_SubUnions rfl ?_
  simp only [cf_spruelaw6_SubUnions, XX, splice_def, Nat.reduceEqDiff, ↓reduceIte, reduceCtorEq, Int.reduceToNat, Nat.reduceAdd, Nat.reduceMul, Int.reduceAdd, Int.reduceSub, Int.reduceLE, Int.reduceLT, Int.reduceNeg, Int.reduceMul, Int.reduceEq, Int.reduceNe, Nat.reduceLeDiff, Nat.reduceSub]
  rw [wC_seq]; simp only [XX, splice_def, Nat.reduceEqDiff, ↓reduceIte, reduceCtorEq, Int.reduceToNat, Nat.reduceAdd, Nat.reduceMul, Int.reduceAdd, Int.reduceSub, Int.reduceLE, Int.reduceLT, Int.reduceNeg, Int.reduceMul, Int.reduceEq, Int.reduceNe, Nat.reduceLeDiff, Nat.reduceSub]
  rw [wC_seqj]; simp only [XX, wC_seq, wC_seqj, splice_def, Nat.reduceEqDiff, ↓reduceIte, reduceCtorEq, Int.reduceToNat, Nat.reduceAdd, Nat.reduceMul, Int.reduceAdd, Int.reduceSub, Int.reduceLE, Int.reduceLT, Int.reduceNeg, Int.reduceMul, Int.reduceEq, Int.reduceNe, Nat.reduceLeDiff, Nat.reduceSub]
  refine wCall_plain (known_of (Q := fun v' S => v' = .bool true ∧ st = S) ⟨rfl, rfl⟩) ?_
  rintro _ _ ⟨rfl, rfl⟩
  simp only [XX, splice_def, Nat.reduceEqDiff, ↓reduceIte, reduceCtorEq, Int.reduceToNat, Nat.reduceAdd, Nat.reduceMul, Int.reduceAdd, Int.reduceSub, Int.reduceLE, Int.reduceLT, Int.reduceNeg, Int.reduceMul, Int.reduceEq, Int.reduceNe, Nat.reduceLeDiff, Nat.reduceSub]
  obtain ⟨n1, hn1⟩ : ∃ n, st.nx = up 0 n := ⟨_, up0 _⟩
  rw [wC_seq]; simp only [XX, splice_def, Nat.reduceEqDiff, ↓reduceIte, reduceCtorEq, Int.reduceToNat, Nat.reduceAdd, Nat.reduceMul, Int.reduceAdd, Int.reduceSub, Int.reduceLE, Int.reduceLT, Int.reduceNeg, Int.reduceMul, Int.reduceEq, Int.reduceNe, Nat.reduceLeDiff, Nat.reduceSub, hn1]
  rw [wC_seq]; simp only [XX, splice_def, Nat.reduceEqDiff, ↓reduceIte, reduceCtorEq, Int.reduceToNat, Nat.reduceAdd, Nat.reduceMul, Int.reduceAdd, Int.reduceSub, Int.reduceLE, Int.reduceLT, Int.reduceNeg, Int.reduceMul, Int.reduceEq, Int.reduceNe, Nat.reduceLeDiff, Nat.reduceSub, hn1]
  obtain ⟨o, ho⟩ : ∃ o, o = up 0 n1 := ⟨_, rfl⟩
  obtain ⟨x, hx⟩ : ∃ x, x = up 1 n1 := ⟨_, rfl⟩
  obtain ⟨y, hy⟩ : ∃ y, y = up 2 n1 := ⟨_, rfl⟩
  have u01 : up 0 n1 ≠ up 1 n1 := by simp only [XX, wC_seq, wC_seqj, splice_def, Nat.reduceEqDiff, ↓reduceIte, reduceCtorEq, Int.reduceToNat, Nat.reduceAdd, Nat.reduceMul, Int.reduceAdd, Int.reduceSub, Int.reduceLE, Int.reduceLT, Int.reduceNeg, Int.reduceMul, Int.reduceEq, Int.reduceNe, Nat.reduceLeDiff, Nat.reduceSub]
  have u02 : up 0 n1 ≠ up 2 n1 := by simp only [XX, wC_seq, wC_seqj, splice_def, Nat.reduceEqDiff, ↓reduceIte, reduceCtorEq, Int.reduceToNat, Nat.reduceAdd, Nat.reduceMul, Int.reduceAdd, Int.reduceSub, Int.reduceLE, Int.reduceLT, Int.reduceNeg, Int.reduceMul, Int.reduceEq, Int.reduceNe, Nat.reduceLeDiff, Nat.reduceSub]
  have u12 : up 1 n1 ≠ up 2 n1 := by simp only [XX, wC_seq, wC_seqj, splice_def, Nat.reduceEqDiff, ↓reduceIte, reduceCtorEq, Int.reduceToNat, Nat.reduceAdd, Nat.reduceMul, Int.reduceAdd, Int.reduceSub, Int.reduceLE, Int.reduceLT, Int.reduceNeg, Int.reduceMul, Int.reduceEq, Int.reduceNe, Nat.reduceLeDiff, Nat.reduceSub]
  obtain ⟨I, hI⟩ : ∃ I : Fr → St → Prop, ∀ fr S, I fr S ↔ (fr 0 = v1 ∧ fr 1 = v2 ∧ fr 2 = .bool wd ∧ fr 7 = .ptr o 0 ∧ fr 8 = .ptr x 0 ∧ fr 9 = .ptr y 0 ∧ fr 10 = .bool true ∧ UI st wd o x y S (f0U o x y) [] 0 [] 0 (uW .snil .snil) (uW .snil .snil)) := ⟨_, fun _ _ => Iff.rfl⟩
  refine wC_scut I ?_ ?_
  · simp only [XX, wC_seq, wC_seqj, splice_def, Nat.reduceEqDiff, ↓reduceIte, reduceCtorEq, Int.reduceToNat, Nat.reduceAdd, Nat.reduceMul, Int.reduceAdd, Int.reduceSub, Int.reduceLE, Int.reduceLT, Int.reduceNeg, Int.reduceMul, Int.reduceEq, Int.reduceNe, Nat.reduceLeDiff, Nat.reduceSub]
    refine (hI _ _).2 ⟨by simp only [XX, wC_seq, wC_seqj, splice_def, Nat.reduceEqDiff, ↓reduceIte, reduceCtorEq, Int.reduceToNat, Nat.reduceAdd, Nat.reduceMul, Int.reduceAdd, Int.reduceSub, Int.reduceLE, Int.reduceLT, Int.reduceNeg, Int.reduceMul, Int.reduceEq, Int.reduceNe, Nat.reduceLeDiff, Nat.reduceSub], by simp only [XX, wC_seq, wC_seqj, splice_def, Nat.reduceEqDiff, ↓reduceIte, reduceCtorEq, Int.reduceToNat, Nat.reduceAdd, Nat.reduceMul, Int.reduceAdd, Int.reduceSub, Int.reduceLE, Int.reduceLT, Int.reduceNeg, Int.reduceMul, Int.reduceEq, Int.reduceNe, Nat.reduceLeDiff, Nat.reduceSub], by simp only [XX, wC_seq, wC_seqj, splice_def, Nat.reduceEqDiff, ↓reduceIte, reduceCtorEq, Int.reduceToNat, Nat.reduceAdd, Nat.reduceMul, Int.reduceAdd, Int.reduceSub, Int.reduceLE, Int.reduceLT, Int.reduceNeg, Int.reduceMul, Int.reduceEq, Int.reduceNe, Nat.reduceLeDiff, Nat.reduceSub], by simp only [XX, wC_seq, wC_seqj, splice_def, Nat.reduceEqDiff, ↓reduceIte, reduceCtorEq, Int.reduceToNat, Nat.reduceAdd, Nat.reduceMul, Int.reduceAdd, Int.reduceSub, Int.reduceLE, Int.reduceLT, Int.reduceNeg, Int.reduceMul, Int.reduceEq, Int.reduceNe, Nat.reduceLeDiff, Nat.reduceSub, ho], by simp only [XX, wC_seq, wC_seqj, splice_def, Nat.reduceEqDiff, ↓reduceIte, reduceCtorEq, Int.reduceToNat, Nat.reduceAdd, Nat.reduceMul, Int.reduceAdd, Int.reduceSub, Int.reduceLE, Int.reduceLT, Int.reduceNeg, Int.reduceMul, Int.reduceEq, Int.reduceNe, Nat.reduceLeDiff, Nat.reduceSub, hx], by simp only [XX, wC_seq, wC_seqj, splice_def, Nat.reduceEqDiff, ↓reduceIte, reduceCtorEq, Int.reduceToNat, Nat.reduceAdd, Nat.reduceMul, Int.reduceAdd, Int.reduceSub, Int.reduceLE, Int.reduceLT, Int.reduceNeg, Int.reduceMul, Int.reduceEq, Int.reduceNe, Nat.reduceLeDiff, Nat.reduceSub, hy], by simp only [XX, wC_seq, wC_seqj, splice_def, Nat.reduceEqDiff, ↓reduceIte, reduceCtorEq, Int.reduceToNat, Nat.reduceAdd, Nat.reduceMul, Int.reduceAdd, Int.reduceSub, Int.reduceLE, Int.reduceLT, Int.reduceNeg, Int.reduceMul, Int.reduceEq, Int.reduceNe, Nat.reduceLeDiff, Nat.reduceSub], ?_⟩
    have g1 : Gr st ((st.new fun t => .cells t [.int .i64 0, ofL [], .snil, .snil]).wr (up 0 n1) st.t fun u => .cells u [.int .i64 2, ofL [], .snil, .snil]) := (Gr.refl hw).nw hn1 (good_cells _) (good_cells _)
    have g2 := (g1.nn (f := fun t => .cells t [.int .i64 0, ofL [], .snil, .snil]) (good_cells _)).nn (f := fun t => .cells t [.int .i64 0, ofL [], .snil, .snil]) (good_cells _)
    have g3 := (g2.wr (p := up 1 n1) (f := fun u => .cells u [.int .i64 8, ofL [], .snil, .snil]) (nx0 hw hn1 1) (by simp only [XX, wC_seq, wC_seqj, splice_def, Nat.reduceEqDiff, ↓reduceIte, reduceCtorEq, Int.reduceToNat, Nat.reduceAdd, Nat.reduceMul, Int.reduceAdd, Int.reduceSub, Int.reduceLE, Int.reduceLT, Int.reduceNeg, Int.reduceMul, Int.reduceEq, Int.reduceNe, Nat.reduceLeDiff, Nat.reduceSub, hn1]) (by simp only [XX, wC_seq, wC_seqj, splice_def, Nat.reduceEqDiff, ↓reduceIte, reduceCtorEq, Int.reduceToNat, Nat.reduceAdd, Nat.reduceMul, Int.reduceAdd, Int.reduceSub, Int.reduceLE, Int.reduceLT, Int.reduceNeg, Int.reduceMul, Int.reduceEq, Int.reduceNe, Nat.reduceLeDiff, Nat.reduceSub, hn1]; rfl) (good_cells _)).wr (p := up 2 n1) (f := fun u => .cells u [.int .i64 8, ofL [], .snil, .snil]) (nx0 hw hn1 2) (by simp only [XX, wC_seq, wC_seqj, splice_def, Nat.reduceEqDiff, ↓reduceIte, reduceCtorEq, Int.reduceToNat, Nat.reduceAdd, Nat.reduceMul, Int.reduceAdd, Int.reduceSub, Int.reduceLE, Int.reduceLT, Int.reduceNeg, Int.reduceMul, Int.reduceEq, Int.reduceNe, Nat.reduceLeDiff, Nat.reduceSub, hn1]) (by simp only [XX, wC_seq, wC_seqj, splice_def, Nat.reduceEqDiff, ↓reduceIte, reduceCtorEq, Int.reduceToNat, Nat.reduceAdd, Nat.reduceMul, Int.reduceAdd, Int.reduceSub, Int.reduceLE, Int.reduceLT, Int.reduceNeg, Int.reduceMul, Int.reduceEq, Int.reduceNe, Nat.reduceLeDiff, Nat.reduceSub, hn1]; rfl) (good_cells _)
    have hr : ∀ r, (r = o ∨ r = x ∨ r = y) → (((((((st.new fun t => .cells t [.int .i64 0, ofL [], .snil, .snil]).wr (up 0 n1) st.t fun u => .cells u [.int .i64 2, ofL [], .snil, .snil]).new fun t => .cells t [.int .i64 0, ofL [], .snil, .snil]).new fun t => .cells t [.int .i64 0, ofL [], .snil, .snil]).wr (up 1 n1) ((st.new fun t => .cells t [.int .i64 0, ofL [], .snil, .snil]).wr (up 0 n1) st.t fun u => .cells u [.int .i64 2, ofL [], .snil, .snil]).t fun u => .cells u [.int .i64 8, ofL [], .snil, .snil]).wr (up 2 n1) (((st.new fun t => .cells t [.int .i64 0, ofL [], .snil, .snil]).wr (up 0 n1) st.t fun u => .cells u [.int .i64 2, ofL [], .snil, .snil]).new fun t => .cells t [.int .i64 0, ofL [], .snil, .snil]).t fun u => .cells u [.int .i64 8, ofL [], .snil, .snil]).row r : Row) ≠ .none := by
      rintro r (rfl | rfl | rfl)
      · rw [ho]; simp only [XX, wC_seq, wC_seqj, splice_def, Nat.reduceEqDiff, ↓reduceIte, reduceCtorEq, Int.reduceToNat, Nat.reduceAdd, Nat.reduceMul, Int.reduceAdd, Int.reduceSub, Int.reduceLE, Int.reduceLT, Int.reduceNeg, Int.reduceMul, Int.reduceEq, Int.reduceNe, Nat.reduceLeDiff, Nat.reduceSub, hn1]; done
      · rw [hx]; simp only [XX, wC_seq, wC_seqj, splice_def, Nat.reduceEqDiff, ↓reduceIte, reduceCtorEq, Int.reduceToNat, Nat.reduceAdd, Nat.reduceMul, Int.reduceAdd, Int.reduceSub, Int.reduceLE, Int.reduceLT, Int.reduceNeg, Int.reduceMul, Int.reduceEq, Int.reduceNe, Nat.reduceLeDiff, Nat.reduceSub, hn1]; done
      · rw [hy]; simp only [XX, wC_seq, wC_seqj, splice_def, Nat.reduceEqDiff, ↓reduceIte, reduceCtorEq, Int.reduceToNat, Nat.reduceAdd, Nat.reduceMul, Int.reduceAdd, Int.reduceSub, Int.reduceLE, Int.reduceLT, Int.reduceNeg, Int.reduceMul, Int.reduceEq, Int.reduceNe, Nat.reduceLeDiff, Nat.reduceSub, hn1]; done
    refine { gr := g3, own := ⟨fun i r hi => ?_, fun i j r hij hi hj => ?_⟩, eo := rfl, ex := rfl, ey := rfl, fo := ⟨by rw [hx]; exact nx0 hw hn1 1, by rw [hy]; exact nx0 hw hn1 2⟩, ro := ⟨_, by rw [ho]; simp only [XX, wC_seq, wC_seqj, splice_def, Nat.reduceEqDiff, ↓reduceIte, reduceCtorEq, Int.reduceToNat, Nat.reduceAdd, Nat.reduceMul, Int.reduceAdd, Int.reduceSub, Int.reduceLE, Int.reduceLT, Int.reduceNeg, Int.reduceMul, Int.reduceEq, Int.reduceNe, Nat.reduceLeDiff, Nat.reduceSub, hn1]; rfl⟩, rx := ⟨_, by rw [hx]; simp only [XX, wC_seq, wC_seqj, splice_def, Nat.reduceEqDiff, ↓reduceIte, reduceCtorEq, Int.reduceToNat, Nat.reduceAdd, Nat.reduceMul, Int.reduceAdd, Int.reduceSub, Int.reduceLE, Int.reduceLT, Int.reduceNeg, Int.reduceMul, Int.reduceEq, Int.reduceNe, Nat.reduceLeDiff, Nat.reduceSub, hn1]; rfl⟩, ry := ⟨_, by rw [hy]; simp only [XX, wC_seq, wC_seqj, splice_def, Nat.reduceEqDiff, ↓reduceIte, reduceCtorEq, Int.reduceToNat, Nat.reduceAdd, Nat.reduceMul, Int.reduceAdd, Int.reduceSub, Int.reduceLE, Int.reduceLT, Int.reduceNeg, Int.reduceMul, Int.reduceEq, Int.reduceNe, Nat.reduceLeDiff, Nat.reduceSub, hn1]; rfl⟩, nx := SlF.nil _ _ _, kx := SlF.nil _ _ _, ny := SlF.nil _ _ _, ky := SlF.nil _ _ _, kids := fun _ i hi => absurd hi (Nat.not_lt_zero _) }
    · exact hr r (f0U_row hi)
    · exact f0U_ne (by rw [ho, hx]; exact u01) (by rw [ho, hy]; exact u02) (by rw [hx, hy]; exact u12) hij hi hj
  intro fr S2 hIf
  obtain ⟨f0, f1, f2, f7, f8, f9, f10, U0⟩ := (hI _ _).1 hIf
  have fine : ∀ {fr' : Fr} {k : Nat}, True := fun {_ _} => trivial
  obtain ⟨J, hJ⟩ : ∃ J : Fr → St → Prop, ∀ fr S, J fr S ↔ (∃ f, fr 8 = .ptr x 0 ∧ fr 9 = .ptr y 0 ∧ fr 10 = .bool (allW z1 z2 8) ∧ UI st wd o x y S f (xsW z1 8) (xsW z1 8).length (xsW z2 8) (xsW z2 8).length (uW (f 0) (f 1)) (uW (f 2) (f 3))) := ⟨_, fun _ _ => Iff.rfl⟩
  refine wC_scut J ?_ ?_
  · rw [wC_seq]; simp only [XX, splice_def, Nat.reduceEqDiff, ↓reduceIte, reduceCtorEq, Int.reduceToNat, Nat.reduceAdd, Nat.reduceMul, Int.reduceAdd, Int.reduceSub, Int.reduceLE, Int.reduceLT, Int.reduceNeg, Int.reduceMul, Int.reduceEq, Int.reduceNe, Nat.reduceLeDiff, Nat.reduceSub]
    obtain ⟨L, hL⟩ : ∃ L : Nat → Fr → St → Prop, ∀ j fr S, L j fr S ↔ ∃ (k : Nat) (f : Nat → V), j + k = 8 ∧ fr 0 = v1 ∧ fr 1 = v2 ∧ fr 2 = .bool wd ∧ fr 7 = .ptr o 0 ∧ fr 8 = .ptr x 0 ∧ fr 9 = .ptr y 0 ∧ fr 10 = .bool (allW z1 z2 k) ∧ fr 11 = .int .i64 k ∧ UI st wd o x y S f (xsW z1 k) (xsW z1 k).length (xsW z2 k) (xsW z2 k).length (uW (f 0) (f 1)) (uW (f 2) (f 3)) := ⟨_, fun _ _ _ => Iff.rfl⟩
    refine wC_loop L 8 (by decide) ((hL _ _ _).2 ⟨0, f0U o x y, by omega, by simp only [XX, wC_seq, wC_seqj, splice_def, Nat.reduceEqDiff, ↓reduceIte, reduceCtorEq, Int.reduceToNat, Nat.reduceAdd, Nat.reduceMul, Int.reduceAdd, Int.reduceSub, Int.reduceLE, Int.reduceLT, Int.reduceNeg, Int.reduceMul, Int.reduceEq, Int.reduceNe, Nat.reduceLeDiff, Nat.reduceSub, f0], by simp only [XX, wC_seq, wC_seqj, splice_def, Nat.reduceEqDiff, ↓reduceIte, reduceCtorEq, Int.reduceToNat, Nat.reduceAdd, Nat.reduceMul, Int.reduceAdd, Int.reduceSub, Int.reduceLE, Int.reduceLT, Int.reduceNeg, Int.reduceMul, Int.reduceEq, Int.reduceNe, Nat.reduceLeDiff, Nat.reduceSub, f1], by simp only [XX, wC_seq, wC_seqj, splice_def, Nat.reduceEqDiff, ↓reduceIte, reduceCtorEq, Int.reduceToNat, Nat.reduceAdd, Nat.reduceMul, Int.reduceAdd, Int.reduceSub, Int.reduceLE, Int.reduceLT, Int.reduceNeg, Int.reduceMul, Int.reduceEq, Int.reduceNe, Nat.reduceLeDiff, Nat.reduceSub, f2], by simp only [XX, wC_seq, wC_seqj, splice_def, Nat.reduceEqDiff, ↓reduceIte, reduceCtorEq, Int.reduceToNat, Nat.reduceAdd, Nat.reduceMul, Int.reduceAdd, Int.reduceSub, Int.reduceLE, Int.reduceLT, Int.reduceNeg, Int.reduceMul, Int.reduceEq, Int.reduceNe, Nat.reduceLeDiff, Nat.reduceSub, f7], by simp only [XX, wC_seq, wC_seqj, splice_def, Nat.reduceEqDiff, ↓reduceIte, reduceCtorEq, Int.reduceToNat, Nat.reduceAdd, Nat.reduceMul, Int.reduceAdd, Int.reduceSub, Int.reduceLE, Int.reduceLT, Int.reduceNeg, Int.reduceMul, Int.reduceEq, Int.reduceNe, Nat.reduceLeDiff, Nat.reduceSub, f8], by simp only [XX, wC_seq, wC_seqj, splice_def, Nat.reduceEqDiff, ↓reduceIte, reduceCtorEq, Int.reduceToNat, Nat.reduceAdd, Nat.reduceMul, Int.reduceAdd, Int.reduceSub, Int.reduceLE, Int.reduceLT, Int.reduceNeg, Int.reduceMul, Int.reduceEq, Int.reduceNe, Nat.reduceLeDiff, Nat.reduceSub, f9], by simp only [XX, wC_seq, wC_seqj, splice_def, Nat.reduceEqDiff, ↓reduceIte, reduceCtorEq, Int.reduceToNat, Nat.reduceAdd, Nat.reduceMul, Int.reduceAdd, Int.reduceSub, Int.reduceLE, Int.reduceLT, Int.reduceNeg, Int.reduceMul, Int.reduceEq, Int.reduceNe, Nat.reduceLeDiff, Nat.reduceSub, f10]; rfl, by simp only [XX, wC_seq, wC_seqj, splice_def, Nat.reduceEqDiff, ↓reduceIte, reduceCtorEq, Int.reduceToNat, Nat.reduceAdd, Nat.reduceMul, Int.reduceAdd, Int.reduceSub, Int.reduceLE, Int.reduceLT, Int.reduceNeg, Int.reduceMul, Int.reduceEq, Int.reduceNe, Nat.reduceLeDiff, Nat.reduceSub]; rfl, U0⟩) ?_
    clear f0 f1 f2 f7 f8 f9 f10 U0 hIf fr S2
    intro j fr S hLj
    obtain ⟨k, f, hj, f0, f1, f2, f7, f8, f9, f10, f11, U⟩ := (hL _ _ _).1 hLj
    by_cases hk : k < 8
    · have hk' : (k : Int) < 8 := by omega
      rw [wC_seqj, wC_seq]; simp only [XX, splice_def, Nat.reduceEqDiff, ↓reduceIte, reduceCtorEq, Int.reduceToNat, Nat.reduceAdd, Nat.reduceMul, Int.reduceAdd, Int.reduceSub, Int.reduceLE, Int.reduceLT, Int.reduceNeg, Int.reduceMul, Int.reduceEq, Int.reduceNe, Nat.reduceLeDiff, Nat.reduceSub, f11, hk']
      rw [wC_seqj]; simp only [XX, splice_def, Nat.reduceEqDiff, ↓reduceIte, reduceCtorEq, Int.reduceToNat, Nat.reduceAdd, Nat.reduceMul, Int.reduceAdd, Int.reduceSub, Int.reduceLE, Int.reduceLT, Int.reduceNeg, Int.reduceMul, Int.reduceEq, Int.reduceNe, Nat.reduceLeDiff, Nat.reduceSub]
      rw [wC_seq]; simp only [XX, splice_def, Nat.reduceEqDiff, ↓reduceIte, reduceCtorEq, Int.reduceToNat, Nat.reduceAdd, Nat.reduceMul, Int.reduceAdd, Int.reduceSub, Int.reduceLE, Int.reduceLT, Int.reduceNeg, Int.reduceMul, Int.reduceEq, Int.reduceNe, Nat.reduceLeDiff, Nat.reduceSub]
      obtain ⟨B, hB⟩ : ∃ B : Fr → Prop, ∀ fr, B fr ↔ (fr 0 = v1 ∧ fr 1 = v2 ∧ fr 2 = .bool wd ∧ fr 7 = .ptr o 0 ∧ fr 8 = .ptr x 0 ∧ fr 9 = .ptr y 0 ∧ fr 10 = .bool (allW z1 z2 k) ∧ fr 11 = .int .i64 k) := ⟨_, fun _ => Iff.rfl⟩
      obtain ⟨I2, hI2⟩ : ∃ I2 : Fr → St → Prop, ∀ fr S', I2 fr S' ↔ (S = S' ∧ B fr ∧ fr 13 = .bool false ∧ fr 12 = .bool (hasW z1 k)) := ⟨_, fun _ _ => Iff.rfl⟩
      refine wC_cut I2 ?_ ?_
      · simp only [XX, wC_seq, wC_seqj, splice_def, Nat.reduceEqDiff, ↓reduceIte, reduceCtorEq, Int.reduceToNat, Nat.reduceAdd, Nat.reduceMul, Int.reduceAdd, Int.reduceSub, Int.reduceLE, Int.reduceLT, Int.reduceNeg, Int.reduceMul, Int.reduceEq, Int.reduceNe, Nat.reduceLeDiff, Nat.reduceSub]
        obtain ⟨L2, hL2⟩ : ∃ L2 : Nat → Fr → St → Prop, ∀ j fr S', L2 j fr S' ↔ ∃ (i : Nat), S = S' ∧ j + i = min z1.length 20 ∧ B fr ∧ fr 13 = .bool false ∧ fr 14 = .int .i64 i ∧ fr 12 = .bool ((z1.take i).any fun z => decide (z % 8 = (k : Int))) := ⟨_, fun _ _ _ => Iff.rfl⟩
        refine wC_loop L2 (min z1.length 20) (by omega) ((hL2 _ _ _).2 ⟨0, rfl, by omega, (hB _).2 (by simp only [XX, wC_seq, wC_seqj, splice_def, Nat.reduceEqDiff, ↓reduceIte, reduceCtorEq, Int.reduceToNat, Nat.reduceAdd, Nat.reduceMul, Int.reduceAdd, Int.reduceSub, Int.reduceLE, Int.reduceLT, Int.reduceNeg, Int.reduceMul, Int.reduceEq, Int.reduceNe, Nat.reduceLeDiff, Nat.reduceSub, f0, f1, f2, f7, f8, f9, f10, f11, and_self]), by simp only [XX, wC_seq, wC_seqj, splice_def, Nat.reduceEqDiff, ↓reduceIte, reduceCtorEq, Int.reduceToNat, Nat.reduceAdd, Nat.reduceMul, Int.reduceAdd, Int.reduceSub, Int.reduceLE, Int.reduceLT, Int.reduceNeg, Int.reduceMul, Int.reduceEq, Int.reduceNe, Nat.reduceLeDiff, Nat.reduceSub], by simp only [XX, wC_seq, wC_seqj, splice_def, Nat.reduceEqDiff, ↓reduceIte, reduceCtorEq, Int.reduceToNat, Nat.reduceAdd, Nat.reduceMul, Int.reduceAdd, Int.reduceSub, Int.reduceLE, Int.reduceLT, Int.reduceNeg, Int.reduceMul, Int.reduceEq, Int.reduceNe, Nat.reduceLeDiff, Nat.reduceSub]; rfl, by simp only [XX, wC_seq, wC_seqj, splice_def, Nat.reduceEqDiff, ↓reduceIte, reduceCtorEq, Int.reduceToNat, Nat.reduceAdd, Nat.reduceMul, Int.reduceAdd, Int.reduceSub, Int.reduceLE, Int.reduceLT, Int.reduceNeg, Int.reduceMul, Int.reduceEq, Int.reduceNe, Nat.reduceLeDiff, Nat.reduceSub]; rfl⟩) ?_
        intro j2 fr S' hj2
        obtain ⟨i, rfl, hji, hBf, f13, fc, fa⟩ := (hL2 _ _ _).1 hj2
        obtain ⟨f0, f1, f2, f7, f8, f9, f10, f11⟩ := (hB _).1 hBf
        have hlen := hv1.len
        by_cases hi : i < z1.length ∧ i < 20
        · have hi1 : (i : Int) < z1.length := by omega
          have hi2 : (i : Int) < 20 := by omega
          have hadd1 : IntKind.i64.wrap ((i : Int) + 1) = ((i + 1 : Nat) : Int) := by rw [i64_in (by omega) (by omega)]; rfl
          have htk : z1.take (i + 1) = z1.take i ++ [z1[i]] := by rw [List.take_succ_eq_append_getElem hi.1]
          have next : ∀ {fr : Fr} {b : Bool}, B fr → (fr 14 = .int .i64 ((i + 1 : Nat) : Int) ∧ fr 13 = .bool false) → fr 12 = .bool b → b = ((z1.take i).any (fun z => decide (z % 8 = (k : Int))) || decide (z1[i] % 8 = (k : Int))) → ∃ j', j' < j2 ∧ L2 j' fr S := fun {fr' b} e0 e1 e2 hb =>
            ⟨min z1.length 20 - (i + 1), by omega, (hL2 _ _ _).2 ⟨i + 1, rfl, by omega, e0, e1.2, e1.1, by rw [e2, hb, htk, List.any_append]; simp⟩⟩
          cases hb : (z1.take i).any fun z => decide (z % 8 = (k : Int)) with
          | true =>
            rw [hb] at fa
            simp only [XX, wC_seq, wC_seqj, splice_def, Nat.reduceEqDiff, ↓reduceIte, reduceCtorEq, Int.reduceToNat, Nat.reduceAdd, Nat.reduceMul, Int.reduceAdd, Int.reduceSub, Int.reduceLE, Int.reduceLT, Int.reduceNeg, Int.reduceMul, Int.reduceEq, Int.reduceNe, Nat.reduceLeDiff, Nat.reduceSub, f0, f1, f2, f7, f8, f9, f10, f11, f13, fc, fa, hlen, hi1, hi2, hadd1]
            exact next (b := true) ((hB _).2 (by simp only [XX, wC_seq, wC_seqj, splice_def, Nat.reduceEqDiff, ↓reduceIte, reduceCtorEq, Int.reduceToNat, Nat.reduceAdd, Nat.reduceMul, Int.reduceAdd, Int.reduceSub, Int.reduceLE, Int.reduceLT, Int.reduceNeg, Int.reduceMul, Int.reduceEq, Int.reduceNe, Nat.reduceLeDiff, Nat.reduceSub, f0, f1, f2, f7, f8, f9, f10, f11, and_self])) (by simp only [XX, wC_seq, wC_seqj, splice_def, Nat.reduceEqDiff, ↓reduceIte, reduceCtorEq, Int.reduceToNat, Nat.reduceAdd, Nat.reduceMul, Int.reduceAdd, Int.reduceSub, Int.reduceLE, Int.reduceLT, Int.reduceNeg, Int.reduceMul, Int.reduceEq, Int.reduceNe, Nat.reduceLeDiff, Nat.reduceSub, f0, f1, f2, f7, f8, f9, f10, f11, f13, and_self]) (by simp only [XX, wC_seq, wC_seqj, splice_def, Nat.reduceEqDiff, ↓reduceIte, reduceCtorEq, Int.reduceToNat, Nat.reduceAdd, Nat.reduceMul, Int.reduceAdd, Int.reduceSub, Int.reduceLE, Int.reduceLT, Int.reduceNeg, Int.reduceMul, Int.reduceEq, Int.reduceNe, Nat.reduceLeDiff, Nat.reduceSub]) (by rw [hb]; rfl)
          | false =>
            rw [hb] at fa
            obtain ⟨q, a1, a2⟩ := (hv1.gr U.gr).at hi.1
            have a3 : ld1 (S.row q) i = some (.int .i64 z1[i], .no) := by rw [a2, ld1_ro, ints_get hi.1]; rfl
            simp only [XX, wC_seq, wC_seqj, splice_def, Nat.reduceEqDiff, ↓reduceIte, reduceCtorEq, Int.reduceToNat, Nat.reduceAdd, Nat.reduceMul, Int.reduceAdd, Int.reduceSub, Int.reduceLE, Int.reduceLT, Int.reduceNeg, Int.reduceMul, Int.reduceEq, Int.reduceNe, Nat.reduceLeDiff, Nat.reduceSub, f0, f1, f2, f7, f8, f9, f10, f11, f13, fc, fa, hlen, hi1, hi2, a1, a3]
            refine wCall_plain (withinC z1[i] 8 _ (by decide) (by decide)) ?_
            rintro _ _ ⟨rfl, rfl⟩
            simp only [XX, wC_seq, wC_seqj, splice_def, Nat.reduceEqDiff, ↓reduceIte, reduceCtorEq, Int.reduceToNat, Nat.reduceAdd, Nat.reduceMul, Int.reduceAdd, Int.reduceSub, Int.reduceLE, Int.reduceLT, Int.reduceNeg, Int.reduceMul, Int.reduceEq, Int.reduceNe, Nat.reduceLeDiff, Nat.reduceSub, f0, f1, f2, f7, f8, f9, f10, f11, f13, fc, hadd1]
            exact next (b := decide (z1[i] % 8 = (k : Int))) ((hB _).2 (by simp only [XX, wC_seq, wC_seqj, splice_def, Nat.reduceEqDiff, ↓reduceIte, reduceCtorEq, Int.reduceToNat, Nat.reduceAdd, Nat.reduceMul, Int.reduceAdd, Int.reduceSub, Int.reduceLE, Int.reduceLT, Int.reduceNeg, Int.reduceMul, Int.reduceEq, Int.reduceNe, Nat.reduceLeDiff, Nat.reduceSub, f0, f1, f2, f7, f8, f9, f10, f11, and_self])) (by simp only [XX, wC_seq, wC_seqj, splice_def, Nat.reduceEqDiff, ↓reduceIte, reduceCtorEq, Int.reduceToNat, Nat.reduceAdd, Nat.reduceMul, Int.reduceAdd, Int.reduceSub, Int.reduceLE, Int.reduceLT, Int.reduceNeg, Int.reduceMul, Int.reduceEq, Int.reduceNe, Nat.reduceLeDiff, Nat.reduceSub, f0, f1, f2, f7, f8, f9, f10, f11, f13, and_self]) (by simp only [XX, wC_seq, wC_seqj, splice_def, Nat.reduceEqDiff, ↓reduceIte, reduceCtorEq, Int.reduceToNat, Nat.reduceAdd, Nat.reduceMul, Int.reduceAdd, Int.reduceSub, Int.reduceLE, Int.reduceLT, Int.reduceNeg, Int.reduceMul, Int.reduceEq, Int.reduceNe, Nat.reduceLeDiff, Nat.reduceSub]) (by rw [hb]; rfl)
        · have hie : i = min z1.length 20 := by omega
          have hhas : hasW z1 k = (z1.take i).any fun z => decide (z % 8 = (k : Int)) := by
            rw [hasW, hie]
            by_cases h20 : z1.length ≤ 20
            · rw [Nat.min_eq_left h20, List.take_length, List.take_of_length_le h20]
            · rw [Nat.min_eq_right (by omega)]
          rw [← hhas] at fa
          by_cases h1 : i < z1.length
          · have hi1 : (i : Int) < z1.length := by omega
            have hi2 : ¬ (i : Int) < 20 := by omega
            simp only [XX, wC_seq, wC_seqj, splice_def, Nat.reduceEqDiff, ↓reduceIte, reduceCtorEq, Int.reduceToNat, Nat.reduceAdd, Nat.reduceMul, Int.reduceAdd, Int.reduceSub, Int.reduceLE, Int.reduceLT, Int.reduceNeg, Int.reduceMul, Int.reduceEq, Int.reduceNe, Nat.reduceLeDiff, Nat.reduceSub, f0, f1, f2, f7, f8, f9, f10, f11, f13, fc, hlen, hi1, hi2]
            exact (hI2 _ _).2 ⟨rfl, (hB _).2 (by simp only [XX, wC_seq, wC_seqj, splice_def, Nat.reduceEqDiff, ↓reduceIte, reduceCtorEq, Int.reduceToNat, Nat.reduceAdd, Nat.reduceMul, Int.reduceAdd, Int.reduceSub, Int.reduceLE, Int.reduceLT, Int.reduceNeg, Int.reduceMul, Int.reduceEq, Int.reduceNe, Nat.reduceLeDiff, Nat.reduceSub, f0, f1, f2, f7, f8, f9, f10, f11, and_self]), by simp only [XX, wC_seq, wC_seqj, splice_def, Nat.reduceEqDiff, ↓reduceIte, reduceCtorEq, Int.reduceToNat, Nat.reduceAdd, Nat.reduceMul, Int.reduceAdd, Int.reduceSub, Int.reduceLE, Int.reduceLT, Int.reduceNeg, Int.reduceMul, Int.reduceEq, Int.reduceNe, Nat.reduceLeDiff, Nat.reduceSub, f13], by simp only [XX, wC_seq, wC_seqj, splice_def, Nat.reduceEqDiff, ↓reduceIte, reduceCtorEq, Int.reduceToNat, Nat.reduceAdd, Nat.reduceMul, Int.reduceAdd, Int.reduceSub, Int.reduceLE, Int.reduceLT, Int.reduceNeg, Int.reduceMul, Int.reduceEq, Int.reduceNe, Nat.reduceLeDiff, Nat.reduceSub, fa]⟩
          · have hi1 : ¬ (i : Int) < z1.length := by omega
            simp only [XX, wC_seq, wC_seqj, splice_def, Nat.reduceEqDiff, ↓reduceIte, reduceCtorEq, Int.reduceToNat, Nat.reduceAdd, Nat.reduceMul, Int.reduceAdd, Int.reduceSub, Int.reduceLE, Int.reduceLT, Int.reduceNeg, Int.reduceMul, Int.reduceEq, Int.reduceNe, Nat.reduceLeDiff, Nat.reduceSub, f0, f1, f2, f7, f8, f9, f10, f11, f13, fc, hlen, hi1]
            exact (hI2 _ _).2 ⟨rfl, (hB _).2 (by simp only [XX, wC_seq, wC_seqj, splice_def, Nat.reduceEqDiff, ↓reduceIte, reduceCtorEq, Int.reduceToNat, Nat.reduceAdd, Nat.reduceMul, Int.reduceAdd, Int.reduceSub, Int.reduceLE, Int.reduceLT, Int.reduceNeg, Int.reduceMul, Int.reduceEq, Int.reduceNe, Nat.reduceLeDiff, Nat.reduceSub, f0, f1, f2, f7, f8, f9, f10, f11, and_self]), by simp only [XX, wC_seq, wC_seqj, splice_def, Nat.reduceEqDiff, ↓reduceIte, reduceCtorEq, Int.reduceToNat, Nat.reduceAdd, Nat.reduceMul, Int.reduceAdd, Int.reduceSub, Int.reduceLE, Int.reduceLT, Int.reduceNeg, Int.reduceMul, Int.reduceEq, Int.reduceNe, Nat.reduceLeDiff, Nat.reduceSub, f13], by simp only [XX, wC_seq, wC_seqj, splice_def, Nat.reduceEqDiff, ↓reduceIte, reduceCtorEq, Int.reduceToNat, Nat.reduceAdd, Nat.reduceMul, Int.reduceAdd, Int.reduceSub, Int.reduceLE, Int.reduceLT, Int.reduceNeg, Int.reduceMul, Int.reduceEq, Int.reduceNe, Nat.reduceLeDiff, Nat.reduceSub, fa]⟩
      intro fr S' hIf
      obtain ⟨rfl, hBf, f13, f12⟩ := (hI2 _ _).1 hIf
      obtain ⟨f0, f1, f2, f7, f8, f9, f10, f11⟩ := (hB _).1 hBf
      obtain ⟨I3, hI3⟩ : ∃ I3 : Fr → St → Prop, ∀ fr S', I3 fr S' ↔ (S = S' ∧ B fr ∧ fr 12 = .bool (hasW z1 k) ∧ fr 13 = .bool (hasW z2 k)) := ⟨_, fun _ _ => Iff.rfl⟩
      refine wC_cut I3 ?_ ?_
      · simp only [XX, wC_seq, wC_seqj, splice_def, Nat.reduceEqDiff, ↓reduceIte, reduceCtorEq, Int.reduceToNat, Nat.reduceAdd, Nat.reduceMul, Int.reduceAdd, Int.reduceSub, Int.reduceLE, Int.reduceLT, Int.reduceNeg, Int.reduceMul, Int.reduceEq, Int.reduceNe, Nat.reduceLeDiff, Nat.reduceSub]
        obtain ⟨L3, hL3⟩ : ∃ L3 : Nat → Fr → St → Prop, ∀ j fr S', L3 j fr S' ↔ ∃ (i : Nat), S = S' ∧ j + i = min z2.length 20 ∧ B fr ∧ fr 12 = .bool (hasW z1 k) ∧ fr 15 = .int .i64 i ∧ fr 13 = .bool ((z2.take i).any fun z => decide (z % 8 = (k : Int))) := ⟨_, fun _ _ _ => Iff.rfl⟩
        refine wC_loop L3 (min z2.length 20) (by omega) ((hL3 _ _ _).2 ⟨0, rfl, by omega, (hB _).2 (by simp only [XX, wC_seq, wC_seqj, splice_def, Nat.reduceEqDiff, ↓reduceIte, reduceCtorEq, Int.reduceToNat, Nat.reduceAdd, Nat.reduceMul, Int.reduceAdd, Int.reduceSub, Int.reduceLE, Int.reduceLT, Int.reduceNeg, Int.reduceMul, Int.reduceEq, Int.reduceNe, Nat.reduceLeDiff, Nat.reduceSub, f0, f1, f2, f7, f8, f9, f10, f11, and_self]), by simp only [XX, wC_seq, wC_seqj, splice_def, Nat.reduceEqDiff, ↓reduceIte, reduceCtorEq, Int.reduceToNat, Nat.reduceAdd, Nat.reduceMul, Int.reduceAdd, Int.reduceSub, Int.reduceLE, Int.reduceLT, Int.reduceNeg, Int.reduceMul, Int.reduceEq, Int.reduceNe, Nat.reduceLeDiff, Nat.reduceSub, f12], by simp only [XX, wC_seq, wC_seqj, splice_def, Nat.reduceEqDiff, ↓reduceIte, reduceCtorEq, Int.reduceToNat, Nat.reduceAdd, Nat.reduceMul, Int.reduceAdd, Int.reduceSub, Int.reduceLE, Int.reduceLT, Int.reduceNeg, Int.reduceMul, Int.reduceEq, Int.reduceNe, Nat.reduceLeDiff, Nat.reduceSub]; rfl, by simp only [XX, wC_seq, wC_seqj, splice_def, Nat.reduceEqDiff, ↓reduceIte, reduceCtorEq, Int.reduceToNat, Nat.reduceAdd, Nat.reduceMul, Int.reduceAdd, Int.reduceSub, Int.reduceLE, Int.reduceLT, Int.reduceNeg, Int.reduceMul, Int.reduceEq, Int.reduceNe, Nat.reduceLeDiff, Nat.reduceSub, f13]; rfl⟩) ?_
        intro j2 fr S' hj2
        obtain ⟨i, rfl, hji, hBf, f12, fc, fa⟩ := (hL3 _ _ _).1 hj2
        obtain ⟨f0, f1, f2, f7, f8, f9, f10, f11⟩ := (hB _).1 hBf
        have hlen := hv2.len
        by_cases hi : i < z2.length ∧ i < 20
        · have hi1 : (i : Int) < z2.length := by omega
          have hi2 : (i : Int) < 20 := by omega
          have hadd1 : IntKind.i64.wrap ((i : Int) + 1) = ((i + 1 : Nat) : Int) := by rw [i64_in (by omega) (by omega)]; rfl
          have htk : z2.take (i + 1) = z2.take i ++ [z2[i]] := by rw [List.take_succ_eq_append_getElem hi.1]
          have next : ∀ {fr : Fr} {b : Bool}, B fr → (fr 15 = .int .i64 ((i + 1 : Nat) : Int) ∧ fr 12 = .bool (hasW z1 k)) → fr 13 = .bool b → b = ((z2.take i).any (fun z => decide (z % 8 = (k : Int))) || decide (z2[i] % 8 = (k : Int))) → ∃ j', j' < j2 ∧ L3 j' fr S := fun {fr' b} e0 e1 e2 hb =>
            ⟨min z2.length 20 - (i + 1), by omega, (hL3 _ _ _).2 ⟨i + 1, rfl, by omega, e0, e1.2, e1.1, by rw [e2, hb, htk, List.any_append]; simp⟩⟩
          cases hb : (z2.take i).any fun z => decide (z % 8 = (k : Int)) with
          | true =>
            rw [hb] at fa
            simp only [XX, wC_seq, wC_seqj, splice_def, Nat.reduceEqDiff, ↓reduceIte, reduceCtorEq, Int.reduceToNat, Nat.reduceAdd, Nat.reduceMul, Int.reduceAdd, Int.reduceSub, Int.reduceLE, Int.reduceLT, Int.reduceNeg, Int.reduceMul, Int.reduceEq, Int.reduceNe, Nat.reduceLeDiff, Nat.reduceSub, f0, f1, f2, f7, f8, f9, f10, f11, f12, fc, fa, hlen, hi1, hi2, hadd1]
            exact next (b := true) ((hB _).2 (by simp only [XX, wC_seq, wC_seqj, splice_def, Nat.reduceEqDiff, ↓reduceIte, reduceCtorEq, Int.reduceToNat, Nat.reduceAdd, Nat.reduceMul, Int.reduceAdd, Int.reduceSub, Int.reduceLE, Int.reduceLT, Int.reduceNeg, Int.reduceMul, Int.reduceEq, Int.reduceNe, Nat.reduceLeDiff, Nat.reduceSub, f0, f1, f2, f7, f8, f9, f10, f11, and_self])) (by simp only [XX, wC_seq, wC_seqj, splice_def, Nat.reduceEqDiff, ↓reduceIte, reduceCtorEq, Int.reduceToNat, Nat.reduceAdd, Nat.reduceMul, Int.reduceAdd, Int.reduceSub, Int.reduceLE, Int.reduceLT, Int.reduceNeg, Int.reduceMul, Int.reduceEq, Int.reduceNe, Nat.reduceLeDiff, Nat.reduceSub, f0, f1, f2, f7, f8, f9, f10, f11, f12, and_self]) (by simp only [XX, wC_seq, wC_seqj, splice_def, Nat.reduceEqDiff, ↓reduceIte, reduceCtorEq, Int.reduceToNat, Nat.reduceAdd, Nat.reduceMul, Int.reduceAdd, Int.reduceSub, Int.reduceLE, Int.reduceLT, Int.reduceNeg, Int.reduceMul, Int.reduceEq, Int.reduceNe, Nat.reduceLeDiff, Nat.reduceSub]) (by rw [hb]; rfl)
          | false =>
            rw [hb] at fa
            obtain ⟨q, a1, a2⟩ := (hv2.gr U.gr).at hi.1
            have a3 : ld1 (S.row q) i = some (.int .i64 z2[i], .no) := by rw [a2, ld1_ro, ints_get hi.1]; rfl
            simp only [XX, wC_seq, wC_seqj, splice_def, Nat.reduceEqDiff, ↓reduceIte, reduceCtorEq, Int.reduceToNat, Nat.reduceAdd, Nat.reduceMul, Int.reduceAdd, Int.reduceSub, Int.reduceLE, Int.reduceLT, Int.reduceNeg, Int.reduceMul, Int.reduceEq, Int.reduceNe, Nat.reduceLeDiff, Nat.reduceSub, f0, f1, f2, f7, f8, f9, f10, f11, f12, fc, fa, hlen, hi1, hi2, a1, a3]
            refine wCall_plain (withinC z2[i] 8 _ (by decide) (by decide)) ?_
            rintro _ _ ⟨rfl, rfl⟩
            simp only [XX, wC_seq, wC_seqj, splice_def, Nat.reduceEqDiff, ↓reduceIte, reduceCtorEq, Int.reduceToNat, Nat.reduceAdd, Nat.reduceMul, Int.reduceAdd, Int.reduceSub, Int.reduceLE, Int.reduceLT, Int.reduceNeg, Int.reduceMul, Int.reduceEq, Int.reduceNe, Nat.reduceLeDiff, Nat.reduceSub, f0, f1, f2, f7, f8, f9, f10, f11, f12, fc, hadd1]
            exact next (b := decide (z2[i] % 8 = (k : Int))) ((hB _).2 (by simp only [XX, wC_seq, wC_seqj, splice_def, Nat.reduceEqDiff, ↓reduceIte, reduceCtorEq, Int.reduceToNat, Nat.reduceAdd, Nat.reduceMul, Int.reduceAdd, Int.reduceSub, Int.reduceLE, Int.reduceLT, Int.reduceNeg, Int.reduceMul, Int.reduceEq, Int.reduceNe, Nat.reduceLeDiff, Nat.reduceSub, f0, f1, f2, f7, f8, f9, f10, f11, and_self])) (by simp only [XX, wC_seq, wC_seqj, splice_def, Nat.reduceEqDiff, ↓reduceIte, reduceCtorEq, Int.reduceToNat, Nat.reduceAdd, Nat.reduceMul, Int.reduceAdd, Int.reduceSub, Int.reduceLE, Int.reduceLT, Int.reduceNeg, Int.reduceMul, Int.reduceEq, Int.reduceNe, Nat.reduceLeDiff, Nat.reduceSub, f0, f1, f2, f7, f8, f9, f10, f11, f12, and_self]) (by simp only [XX, wC_seq, wC_seqj, splice_def, Nat.reduceEqDiff, ↓reduceIte, reduceCtorEq, Int.reduceToNat, Nat.reduceAdd, Nat.reduceMul, Int.reduceAdd, Int.reduceSub, Int.reduceLE, Int.reduceLT, Int.reduceNeg, Int.reduceMul, Int.reduceEq, Int.reduceNe, Nat.reduceLeDiff, Nat.reduceSub]) (by rw [hb]; rfl)
        · have hie : i = min z2.length 20 := by omega
          have hhas : hasW z2 k = (z2.take i).any fun z => decide (z % 8 = (k : Int)) := by
            rw [hasW, hie]
            by_cases h20 : z2.length ≤ 20
            · rw [Nat.min_eq_left h20, List.take_length, List.take_of_length_le h20]
            · rw [Nat.min_eq_right (by omega)]
          rw [← hhas] at fa
          by_cases h1 : i < z2.length
          · have hi1 : (i : Int) < z2.length := by omega
            have hi2 : ¬ (i : Int) < 20 := by omega
            simp only [XX, wC_seq, wC_seqj, splice_def, Nat.reduceEqDiff, ↓reduceIte, reduceCtorEq, Int.reduceToNat, Nat.reduceAdd, Nat.reduceMul, Int.reduceAdd, Int.reduceSub, Int.reduceLE, Int.reduceLT, Int.reduceNeg, Int.reduceMul, Int.reduceEq, Int.reduceNe, Nat.reduceLeDiff, Nat.reduceSub, f0, f1, f2, f7, f8, f9, f10, f11, f12, fc, hlen, hi1, hi2]
            exact (hI3 _ _).2 ⟨rfl, (hB _).2 (by simp only [XX, wC_seq, wC_seqj, splice_def, Nat.reduceEqDiff, ↓reduceIte, reduceCtorEq, Int.reduceToNat, Nat.reduceAdd, Nat.reduceMul, Int.reduceAdd, Int.reduceSub, Int.reduceLE, Int.reduceLT, Int.reduceNeg, Int.reduceMul, Int.reduceEq, Int.reduceNe, Nat.reduceLeDiff, Nat.reduceSub, f0, f1, f2, f7, f8, f9, f10, f11, and_self]), by simp only [XX, wC_seq, wC_seqj, splice_def, Nat.reduceEqDiff, ↓reduceIte, reduceCtorEq, Int.reduceToNat, Nat.reduceAdd, Nat.reduceMul, Int.reduceAdd, Int.reduceSub, Int.reduceLE, Int.reduceLT, Int.reduceNeg, Int.reduceMul, Int.reduceEq, Int.reduceNe, Nat.reduceLeDiff, Nat.reduceSub, f12], by simp only [XX, wC_seq, wC_seqj, splice_def, Nat.reduceEqDiff, ↓reduceIte, reduceCtorEq, Int.reduceToNat, Nat.reduceAdd, Nat.reduceMul, Int.reduceAdd, Int.reduceSub, Int.reduceLE, Int.reduceLT, Int.reduceNeg, Int.reduceMul, Int.reduceEq, Int.reduceNe, Nat.reduceLeDiff, Nat.reduceSub, fa]⟩
          · have hi1 : ¬ (i : Int) < z2.length := by omega
            simp only [XX, wC_seq, wC_seqj, splice_def, Nat.reduceEqDiff, ↓reduceIte, reduceCtorEq, Int.reduceToNat, Nat.reduceAdd, Nat.reduceMul, Int.reduceAdd, Int.reduceSub, Int.reduceLE, Int.reduceLT, Int.reduceNeg, Int.reduceMul, Int.reduceEq, Int.reduceNe, Nat.reduceLeDiff, Nat.reduceSub, f0, f1, f2, f7, f8, f9, f10, f11, f12, fc, hlen, hi1]
            exact (hI3 _ _).2 ⟨rfl, (hB _).2 (by simp only [XX, wC_seq, wC_seqj, splice_def, Nat.reduceEqDiff, ↓reduceIte, reduceCtorEq, Int.reduceToNat, Nat.reduceAdd, Nat.reduceMul, Int.reduceAdd, Int.reduceSub, Int.reduceLE, Int.reduceLT, Int.reduceNeg, Int.reduceMul, Int.reduceEq, Int.reduceNe, Nat.reduceLeDiff, Nat.reduceSub, f0, f1, f2, f7, f8, f9, f10, f11, and_self]), by simp only [XX, wC_seq, wC_seqj, splice_def, Nat.reduceEqDiff, ↓reduceIte, reduceCtorEq, Int.reduceToNat, Nat.reduceAdd, Nat.reduceMul, Int.reduceAdd, Int.reduceSub, Int.reduceLE, Int.reduceLT, Int.reduceNeg, Int.reduceMul, Int.reduceEq, Int.reduceNe, Nat.reduceLeDiff, Nat.reduceSub, f12], by simp only [XX, wC_seq, wC_seqj, splice_def, Nat.reduceEqDiff, ↓reduceIte, reduceCtorEq, Int.reduceToNat, Nat.reduceAdd, Nat.reduceMul, Int.reduceAdd, Int.reduceSub, Int.reduceLE, Int.reduceLT, Int.reduceNeg, Int.reduceMul, Int.reduceEq, Int.reduceNe, Nat.reduceLeDiff, Nat.reduceSub, fa]⟩
      intro fr S' hIf
      obtain ⟨rfl, hBf, f12, f13⟩ := (hI3 _ _).1 hIf
      obtain ⟨f0, f1, f2, f7, f8, f9, f10, f11⟩ := (hB _).1 hBf
      obtain ⟨I4, hI4⟩ : ∃ I4 : Fr → St → Prop, ∀ fr S', I4 fr S' ↔ (Gr S S' ∧ B fr ∧ fr 12 = .bool (hasW z1 k) ∧ fr 13 = .bool (hasW z2 k) ∧ fr 16 = ofL [UInt8.ofNat (97 + k)]) := ⟨_, fun _ _ => Iff.rfl⟩
      refine wC_scut I4 ?_ ?_
      · have e1 : IntKind.i64.wrap (97 + (k : Int)) = ((97 + k : Nat) : Int) := by rw [i64_in (by omega) (by omega)]; omega
        have e2 : IntKind.u8.wrap ((97 + k : Nat) : Int) = ((97 + k : Nat) : Int) := by rw [u8_in (by omega) (by omega)]
        have e3 := fun r t => bts_one (st := S.new fun t => .cells t [.int .u8 ((97 + k : Nat) : Int)]) (r := r) (t := t) (x := 97 + k)
        obtain ⟨q, hq⟩ : ∃ q, S.nx = q := ⟨_, rfl⟩
        have e3 := bts_one (st := S.new fun t => .cells t [.int .u8 ((97 + k : Nat) : Int)]) (r := q) (t := S.t) (x := 97 + k) (by rw [← hq]; exact row_new_nx _ _) (by omega)
        simp only [XX, wC_seq, wC_seqj, splice_def, Nat.reduceEqDiff, ↓reduceIte, reduceCtorEq, Int.reduceToNat, Nat.reduceAdd, Nat.reduceMul, Int.reduceAdd, Int.reduceSub, Int.reduceLE, Int.reduceLT, Int.reduceNeg, Int.reduceMul, Int.reduceEq, Int.reduceNe, Nat.reduceLeDiff, Nat.reduceSub, e_bts, f11, e1, e2, hq, e3]
        exact (hI4 _ _).2 ⟨Gr.new U.gr.wf (good_cells _), (hB _).2 (by simp only [XX, wC_seq, wC_seqj, splice_def, Nat.reduceEqDiff, ↓reduceIte, reduceCtorEq, Int.reduceToNat, Nat.reduceAdd, Nat.reduceMul, Int.reduceAdd, Int.reduceSub, Int.reduceLE, Int.reduceLT, Int.reduceNeg, Int.reduceMul, Int.reduceEq, Int.reduceNe, Nat.reduceLeDiff, Nat.reduceSub, f0, f1, f2, f7, f8, f9, f10, f11, and_self]), by simp only [XX, wC_seq, wC_seqj, splice_def, Nat.reduceEqDiff, ↓reduceIte, reduceCtorEq, Int.reduceToNat, Nat.reduceAdd, Nat.reduceMul, Int.reduceAdd, Int.reduceSub, Int.reduceLE, Int.reduceLT, Int.reduceNeg, Int.reduceMul, Int.reduceEq, Int.reduceNe, Nat.reduceLeDiff, Nat.reduceSub, f12], by simp only [XX, wC_seq, wC_seqj, splice_def, Nat.reduceEqDiff, ↓reduceIte, reduceCtorEq, Int.reduceToNat, Nat.reduceAdd, Nat.reduceMul, Int.reduceAdd, Int.reduceSub, Int.reduceLE, Int.reduceLT, Int.reduceNeg, Int.reduceMul, Int.reduceEq, Int.reduceNe, Nat.reduceLeDiff, Nat.reduceSub, f13], by simp only [XX, wC_seq, wC_seqj, splice_def, Nat.reduceEqDiff, ↓reduceIte, reduceCtorEq, Int.reduceToNat, Nat.reduceAdd, Nat.reduceMul, Int.reduceAdd, Int.reduceSub, Int.reduceLE, Int.reduceLT, Int.reduceNeg, Int.reduceMul, Int.reduceEq, Int.reduceNe, Nat.reduceLeDiff, Nat.reduceSub]⟩
      intro fr S3 hIf
      obtain ⟨g3, hBf, f12, f13, f16⟩ := (hI4 _ _).1 hIf
      obtain ⟨f0, f1, f2, f7, f8, f9, f10, f11⟩ := (hB _).1 hBf
      have U3 := U.same (U.gr.trans g3) fun p hp => g3.same p hp
      have l1 := xsW_len z1 k
      have l2 := xsW_len z2 k
      obtain ⟨I5, hI5⟩ : ∃ I5 : Fr → St → Prop, ∀ fr S', I5 fr S' ↔ (∃ f', B fr ∧ fr 12 = .bool (hasW z1 k) ∧ fr 13 = .bool (hasW z2 k) ∧ fr 16 = ofL [UInt8.ofNat (97 + k)] ∧ UI st wd o x y S' f' (xsW z1 (k + 1)) (xsW z1 (k + 1)).length (xsW z2 k) (xsW z2 k).length (uW (f' 0) (f' 1)) (uW (f' 2) (f' 3))) := ⟨_, fun _ _ => Iff.rfl⟩
      refine wC_cut I5 ?_ ?_
      · cases hb : hasW z1 k with
        | false =>
          rw [hb] at f12
          have hxs : xsW z1 (k + 1) = xsW z1 k := by rw [xsW, if_neg (by rw [hb]; simp)]
          simp only [XX, wC_seq, wC_seqj, splice_def, Nat.reduceEqDiff, ↓reduceIte, reduceCtorEq, Int.reduceToNat, Nat.reduceAdd, Nat.reduceMul, Int.reduceAdd, Int.reduceSub, Int.reduceLE, Int.reduceLT, Int.reduceNeg, Int.reduceMul, Int.reduceEq, Int.reduceNe, Nat.reduceLeDiff, Nat.reduceSub, f12]
          exact (hI5 _ _).2 ⟨f, (hB _).2 (by simp only [XX, wC_seq, wC_seqj, splice_def, Nat.reduceEqDiff, ↓reduceIte, reduceCtorEq, Int.reduceToNat, Nat.reduceAdd, Nat.reduceMul, Int.reduceAdd, Int.reduceSub, Int.reduceLE, Int.reduceLT, Int.reduceNeg, Int.reduceMul, Int.reduceEq, Int.reduceNe, Nat.reduceLeDiff, Nat.reduceSub, f0, f1, f2, f7, f8, f9, f10, f11, and_self]), by simp only [XX, wC_seq, wC_seqj, splice_def, Nat.reduceEqDiff, ↓reduceIte, reduceCtorEq, Int.reduceToNat, Nat.reduceAdd, Nat.reduceMul, Int.reduceAdd, Int.reduceSub, Int.reduceLE, Int.reduceLT, Int.reduceNeg, Int.reduceMul, Int.reduceEq, Int.reduceNe, Nat.reduceLeDiff, Nat.reduceSub, f12, hb], by simp only [XX, wC_seq, wC_seqj, splice_def, Nat.reduceEqDiff, ↓reduceIte, reduceCtorEq, Int.reduceToNat, Nat.reduceAdd, Nat.reduceMul, Int.reduceAdd, Int.reduceSub, Int.reduceLE, Int.reduceLT, Int.reduceNeg, Int.reduceMul, Int.reduceEq, Int.reduceNe, Nat.reduceLeDiff, Nat.reduceSub, f13], by simp only [XX, wC_seq, wC_seqj, splice_def, Nat.reduceEqDiff, ↓reduceIte, reduceCtorEq, Int.reduceToNat, Nat.reduceAdd, Nat.reduceMul, Int.reduceAdd, Int.reduceSub, Int.reduceLE, Int.reduceLT, Int.reduceNeg, Int.reduceMul, Int.reduceEq, Int.reduceNe, Nat.reduceLeDiff, Nat.reduceSub, f16], by rw [hxs]; exact U3⟩
        | true =>
          rw [hb] at f12
          have hxs : xsW z1 (k + 1) = xsW z1 k ++ [[UInt8.ofNat (97 + k)]] := by rw [xsW, if_pos hb]
          obtain ⟨tx, rx⟩ := U3.rx
          simp only [uW] at rx
          simp only [XX, wC_seq, wC_seqj, splice_def, Nat.reduceEqDiff, ↓reduceIte, reduceCtorEq, Int.reduceToNat, Nat.reduceAdd, Nat.reduceMul, Int.reduceAdd, Int.reduceSub, Int.reduceLE, Int.reduceLT, Int.reduceNeg, Int.reduceMul, Int.reduceEq, Int.reduceNe, Nat.reduceLeDiff, Nat.reduceSub, f12, f8, f16, rx]
          have gn : ∀ S : St, WF S → ∀ l, Gr S (S.new fun t => .cells t l) := fun S w l => Gr.new w (good_cells _)
          have ga := gn S3 U3.gr.wf [ofL [UInt8.ofNat (97 + k)]]
          have Ua := U3.same (U3.gr.trans ga) fun p hp => ga.same p hp
          refine wW_appN Ua.gr Ua.nx (one_at rfl) (fun e he => by rw [List.mem_singleton.1 he]; rfl) (by simp) (by simp) (by rw [strs_len]; simp; omega) ?_
          intro S5 w5 g5 hs5 hr5 keep5
          have U5 := Ua.set0 g5 (fun r hr => ⟨by rw [hr5] at hr; injection hr with hr; rw [← hr]; exact nx_none Ua.gr.wf, hs5.some hr⟩) hs5 keep5
          obtain ⟨t5, rx5⟩ := U5.rx
          obtain ⟨to5, ro5⟩ := U5.ro
          simp only [uW] at rx5
          simp only [intW] at ro5
          simp only [XX, wC_seq, wC_seqj, splice_def, Nat.reduceEqDiff, ↓reduceIte, reduceCtorEq, Int.reduceToNat, Nat.reduceAdd, Nat.reduceMul, Int.reduceAdd, Int.reduceSub, Int.reduceLE, Int.reduceLT, Int.reduceNeg, Int.reduceMul, Int.reduceEq, Int.reduceNe, Nat.reduceLeDiff, Nat.reduceSub, f8, f7, rx5, ro5]
          have gb := gn S5 U5.gr.wf [.int .i64 2, ofL [], .snil, .snil]
          have Ub := U5.same (U5.gr.trans gb) fun p hp => gb.same p hp
          refine wW_appN Ub.gr Ub.kx (one_at rfl) (fun e he => by rw [List.mem_singleton.1 he]; rfl) (by simp) (by simp) (by simp; omega) ?_
          intro S6 w6 g6 hs6 hr6 keep6
          have U6 := Ub.set1 g6 (fun r hr => ⟨by rw [hr6] at hr; injection hr with hr; rw [← hr]; exact nx_none Ub.gr.wf, hs6.some hr⟩) hs6 keep6
          obtain ⟨t6, rx6⟩ := U6.rx
          have rx6' := rx6
          simp only [uW] at rx6
          have c5 := U6.nx.at.cells
          have s5 := U6.nx.at.sc
          have c6 := U6.kx.at.cells
          have s6 := U6.kx.at.sc
          simp only [setF_at] at c5 s5 c6 s6
          have e01 : setF (setF f 0 w5) 1 w6 0 = w5 := rfl
          rw [e01] at c5 s5
          simp only [XX, wC_seq, wC_seqj, splice_def, Nat.reduceEqDiff, ↓reduceIte, reduceCtorEq, Int.reduceToNat, Nat.reduceAdd, Nat.reduceMul, Int.reduceAdd, Int.reduceSub, Int.reduceLE, Int.reduceLT, Int.reduceNeg, Int.reduceMul, Int.reduceEq, Int.reduceNe, Nat.reduceLeDiff, Nat.reduceSub, f8, rx6, c5, s5, c6, s6]
          refine ⟨apart_two (apartAll_ok (v := f 0) (w := .ptr x 3) (q := x) (by simp only [XX, wC_seq, wC_seqj, splice_def, Nat.reduceEqDiff, ↓reduceIte, reduceCtorEq, Int.reduceToNat, Nat.reduceAdd, Nat.reduceMul, Int.reduceAdd, Int.reduceSub, Int.reduceLE, Int.reduceLT, Int.reduceNeg, Int.reduceMul, Int.reduceEq, Int.reduceNe, Nat.reduceLeDiff, Nat.reduceSub]) (by simp only [XX, wC_seq, wC_seqj, splice_def, Nat.reduceEqDiff, ↓reduceIte, reduceCtorEq, Int.reduceToNat, Nat.reduceAdd, Nat.reduceMul, Int.reduceAdd, Int.reduceSub, Int.reduceLE, Int.reduceLT, Int.reduceNeg, Int.reduceMul, Int.reduceEq, Int.reduceNe, Nat.reduceLeDiff, Nat.reduceSub]) rfl (U3.apart 0 5 (by decide) U3.ex)) (apartAll_ok (v := f 0) (w := .ptr o 0) (q := o) (by simp only [XX, wC_seq, wC_seqj, splice_def, Nat.reduceEqDiff, ↓reduceIte, reduceCtorEq, Int.reduceToNat, Nat.reduceAdd, Nat.reduceMul, Int.reduceAdd, Int.reduceSub, Int.reduceLE, Int.reduceLT, Int.reduceNeg, Int.reduceMul, Int.reduceEq, Int.reduceNe, Nat.reduceLeDiff, Nat.reduceSub]) (by simp only [XX, wC_seq, wC_seqj, splice_def, Nat.reduceEqDiff, ↓reduceIte, reduceCtorEq, Int.reduceToNat, Nat.reduceAdd, Nat.reduceMul, Int.reduceAdd, Int.reduceSub, Int.reduceLE, Int.reduceLT, Int.reduceNeg, Int.reduceMul, Int.reduceEq, Int.reduceNe, Nat.reduceLeDiff, Nat.reduceSub, f7]) rfl (U3.apart 0 4 (by decide) U3.eo)), ?_⟩
          have U7 := (U6.wx rx6' [.int .i64 8, ofL [], w5, f 1]).wx (row_wr_same _ _ _ _) [.int .i64 8, ofL [], w5, w6]
          exact (hI5 _ _).2 ⟨_, (hB _).2 (by simp only [XX, wC_seq, wC_seqj, splice_def, Nat.reduceEqDiff, ↓reduceIte, reduceCtorEq, Int.reduceToNat, Nat.reduceAdd, Nat.reduceMul, Int.reduceAdd, Int.reduceSub, Int.reduceLE, Int.reduceLT, Int.reduceNeg, Int.reduceMul, Int.reduceEq, Int.reduceNe, Nat.reduceLeDiff, Nat.reduceSub, f0, f1, f2, f7, f8, f9, f10, f11, and_self]), by simp only [XX, wC_seq, wC_seqj, splice_def, Nat.reduceEqDiff, ↓reduceIte, reduceCtorEq, Int.reduceToNat, Nat.reduceAdd, Nat.reduceMul, Int.reduceAdd, Int.reduceSub, Int.reduceLE, Int.reduceLT, Int.reduceNeg, Int.reduceMul, Int.reduceEq, Int.reduceNe, Nat.reduceLeDiff, Nat.reduceSub, f12, hb], by simp only [XX, wC_seq, wC_seqj, splice_def, Nat.reduceEqDiff, ↓reduceIte, reduceCtorEq, Int.reduceToNat, Nat.reduceAdd, Nat.reduceMul, Int.reduceAdd, Int.reduceSub, Int.reduceLE, Int.reduceLT, Int.reduceNeg, Int.reduceMul, Int.reduceEq, Int.reduceNe, Nat.reduceLeDiff, Nat.reduceSub, f13], by simp only [XX, wC_seq, wC_seqj, splice_def, Nat.reduceEqDiff, ↓reduceIte, reduceCtorEq, Int.reduceToNat, Nat.reduceAdd, Nat.reduceMul, Int.reduceAdd, Int.reduceSub, Int.reduceLE, Int.reduceLT, Int.reduceNeg, Int.reduceMul, Int.reduceEq, Int.reduceNe, Nat.reduceLeDiff, Nat.reduceSub, f16], by rw [hxs, List.length_append]; exact U7⟩
      intro fr S4 hIf
      obtain ⟨f', hBf, f12, f13, f16, U4⟩ := (hI5 _ _).1 hIf
      obtain ⟨f0, f1, f2, f7, f8, f9, f10, f11⟩ := (hB _).1 hBf
      clear U3 U
      obtain ⟨I6, hI6⟩ : ∃ I6 : Fr → St → Prop, ∀ fr S', I6 fr S' ↔ (∃ f', B fr ∧ fr 12 = .bool (hasW z1 k) ∧ fr 13 = .bool (hasW z2 k) ∧ UI st wd o x y S' f' (xsW z1 (k + 1)) (xsW z1 (k + 1)).length (xsW z2 (k + 1)) (xsW z2 (k + 1)).length (uW (f' 0) (f' 1)) (uW (f' 2) (f' 3))) := ⟨_, fun _ _ => Iff.rfl⟩
      refine wC_cut I6 ?_ ?_
      · cases hb : hasW z2 k with
        | false =>
          rw [hb] at f13
          have hxs : xsW z2 (k + 1) = xsW z2 k := by rw [xsW, if_neg (by rw [hb]; simp)]
          simp only [XX, wC_seq, wC_seqj, splice_def, Nat.reduceEqDiff, ↓reduceIte, reduceCtorEq, Int.reduceToNat, Nat.reduceAdd, Nat.reduceMul, Int.reduceAdd, Int.reduceSub, Int.reduceLE, Int.reduceLT, Int.reduceNeg, Int.reduceMul, Int.reduceEq, Int.reduceNe, Nat.reduceLeDiff, Nat.reduceSub, f13]
          exact (hI6 _ _).2 ⟨f', (hB _).2 (by simp only [XX, wC_seq, wC_seqj, splice_def, Nat.reduceEqDiff, ↓reduceIte, reduceCtorEq, Int.reduceToNat, Nat.reduceAdd, Nat.reduceMul, Int.reduceAdd, Int.reduceSub, Int.reduceLE, Int.reduceLT, Int.reduceNeg, Int.reduceMul, Int.reduceEq, Int.reduceNe, Nat.reduceLeDiff, Nat.reduceSub, f0, f1, f2, f7, f8, f9, f10, f11, and_self]), by simp only [XX, wC_seq, wC_seqj, splice_def, Nat.reduceEqDiff, ↓reduceIte, reduceCtorEq, Int.reduceToNat, Nat.reduceAdd, Nat.reduceMul, Int.reduceAdd, Int.reduceSub, Int.reduceLE, Int.reduceLT, Int.reduceNeg, Int.reduceMul, Int.reduceEq, Int.reduceNe, Nat.reduceLeDiff, Nat.reduceSub, f12], by simp only [XX, wC_seq, wC_seqj, splice_def, Nat.reduceEqDiff, ↓reduceIte, reduceCtorEq, Int.reduceToNat, Nat.reduceAdd, Nat.reduceMul, Int.reduceAdd, Int.reduceSub, Int.reduceLE, Int.reduceLT, Int.reduceNeg, Int.reduceMul, Int.reduceEq, Int.reduceNe, Nat.reduceLeDiff, Nat.reduceSub, f13, hb], by rw [hxs]; exact U4⟩
        | true =>
          rw [hb] at f13
          have hxs : xsW z2 (k + 1) = xsW z2 k ++ [[UInt8.ofNat (97 + k)]] := by rw [xsW, if_pos hb]
          obtain ⟨to4, ro4⟩ := U4.ro
          simp only [intW] at ro4
          rw [wC_seq]; simp only [XX, splice_def, Nat.reduceEqDiff, ↓reduceIte, reduceCtorEq, Int.reduceToNat, Nat.reduceAdd, Nat.reduceMul, Int.reduceAdd, Int.reduceSub, Int.reduceLE, Int.reduceLT, Int.reduceNeg, Int.reduceMul, Int.reduceEq, Int.reduceNe, Nat.reduceLeDiff, Nat.reduceSub, f13]
          obtain ⟨n4, hn4⟩ : ∃ n, S4.nx = up 0 n := ⟨_, up0 _⟩
          have w4 := U4.gr.wf
          rw [wC_seq]; simp only [XX, splice_def, Nat.reduceEqDiff, ↓reduceIte, reduceCtorEq, Int.reduceToNat, Nat.reduceAdd, Nat.reduceMul, Int.reduceAdd, Int.reduceSub, Int.reduceLE, Int.reduceLT, Int.reduceNeg, Int.reduceMul, Int.reduceEq, Int.reduceNe, Nat.reduceLeDiff, Nat.reduceSub, f7, ro4, hn4]
          obtain ⟨q, hq⟩ : ∃ q, q = up 0 n4 := ⟨_, rfl⟩
          have q4 : S4.row q = .none := by rw [hq]; exact nx0 w4 hn4 0
          have qs : st.row q = .none := Ch.fresh (Ch.of (fun _ => False) U4.gr) q4
          obtain ⟨I7, hI7⟩ : ∃ I7 : Fr → St → Prop, ∀ fr S', I7 fr S' ↔ (∃ f6 t, B fr ∧ fr 12 = .bool (hasW z1 k) ∧ fr 13 = .bool true ∧ fr 16 = ofL [UInt8.ofNat (97 + k)] ∧ fr 17 = .ptr q 0 ∧ f6 7 = .ptr q 0 ∧ S'.row q = .cells t (kidW wd f6 (xsW z2 k).length) ∧ (wd = true → SlF st S' (f6 (8 + (xsW z2 k).length)) 4 [intW]) ∧ UI st wd o x y S' f6 (xsW z1 (k + 1)) (xsW z1 (k + 1)).length (xsW z2 k) (xsW z2 k).length (uW (f6 0) (f6 1)) (uW (f6 2) (f6 3))) := ⟨_, fun _ _ => Iff.rfl⟩
          have gq : Gr S4 ((S4.new fun t => .cells t [.int .i64 0, ofL [], .snil, .snil]).wr (up 0 n4) S4.t fun u => .cells u [.int .i64 2, ofL [], .snil, .snil]) := (Gr.refl w4).nw hn4 (good_cells _) (good_cells _)
          have Uq := U4.set7 (v' := .ptr q 0) (U4.gr.trans gq) (fun r hr => by
            injection hr with hr
            rw [← hr]
            exact ⟨q4, by rw [hq, row_wr_same]; exact fun e => by cases e⟩) (fun p hp _ => gq.same p hp)
          refine wC_cut I7 ?_ ?_
          · cases wd with
            | false =>
              simp only [XX, wC_seq, wC_seqj, splice_def, Nat.reduceEqDiff, ↓reduceIte, reduceCtorEq, Int.reduceToNat, Nat.reduceAdd, Nat.reduceMul, Int.reduceAdd, Int.reduceSub, Int.reduceLE, Int.reduceLT, Int.reduceNeg, Int.reduceMul, Int.reduceEq, Int.reduceNe, Nat.reduceLeDiff, Nat.reduceSub, f2]
              exact (hI7 _ _).2 ⟨_, _, (hB _).2 (by simp only [XX, wC_seq, wC_seqj, splice_def, Nat.reduceEqDiff, ↓reduceIte, reduceCtorEq, Int.reduceToNat, Nat.reduceAdd, Nat.reduceMul, Int.reduceAdd, Int.reduceSub, Int.reduceLE, Int.reduceLT, Int.reduceNeg, Int.reduceMul, Int.reduceEq, Int.reduceNe, Nat.reduceLeDiff, Nat.reduceSub, f0, f1, f2, f7, f8, f9, f10, f11, and_self]), by simp only [XX, wC_seq, wC_seqj, splice_def, Nat.reduceEqDiff, ↓reduceIte, reduceCtorEq, Int.reduceToNat, Nat.reduceAdd, Nat.reduceMul, Int.reduceAdd, Int.reduceSub, Int.reduceLE, Int.reduceLT, Int.reduceNeg, Int.reduceMul, Int.reduceEq, Int.reduceNe, Nat.reduceLeDiff, Nat.reduceSub, f12], by simp only [XX, wC_seq, wC_seqj, splice_def, Nat.reduceEqDiff, ↓reduceIte, reduceCtorEq, Int.reduceToNat, Nat.reduceAdd, Nat.reduceMul, Int.reduceAdd, Int.reduceSub, Int.reduceLE, Int.reduceLT, Int.reduceNeg, Int.reduceMul, Int.reduceEq, Int.reduceNe, Nat.reduceLeDiff, Nat.reduceSub, f13], by simp only [XX, wC_seq, wC_seqj, splice_def, Nat.reduceEqDiff, ↓reduceIte, reduceCtorEq, Int.reduceToNat, Nat.reduceAdd, Nat.reduceMul, Int.reduceAdd, Int.reduceSub, Int.reduceLE, Int.reduceLT, Int.reduceNeg, Int.reduceMul, Int.reduceEq, Int.reduceNe, Nat.reduceLeDiff, Nat.reduceSub, f16], by simp only [XX, wC_seq, wC_seqj, splice_def, Nat.reduceEqDiff, ↓reduceIte, reduceCtorEq, Int.reduceToNat, Nat.reduceAdd, Nat.reduceMul, Int.reduceAdd, Int.reduceSub, Int.reduceLE, Int.reduceLT, Int.reduceNeg, Int.reduceMul, Int.reduceEq, Int.reduceNe, Nat.reduceLeDiff, Nat.reduceSub, hq], rfl, by rw [hq, row_wr_same]; rfl, fun e => (by cases e), Uq⟩
            | true =>
              obtain ⟨toq, roq⟩ := Uq.ro
              simp only [intW] at roq
              have oq : (up 0 n4 = o) = False := eq_false fun e => by rw [← e, ← hq, q4] at ro4; cases ro4
              simp only [XX, wC_seq, wC_seqj, splice_def, Nat.reduceEqDiff, ↓reduceIte, reduceCtorEq, Int.reduceToNat, Nat.reduceAdd, Nat.reduceMul, Int.reduceAdd, Int.reduceSub, Int.reduceLE, Int.reduceLT, Int.reduceNeg, Int.reduceMul, Int.reduceEq, Int.reduceNe, Nat.reduceLeDiff, Nat.reduceSub, f2, f7, roq, hn4]
              obtain ⟨m, hm⟩ : ∃ m, m = (xsW z2 k).length := ⟨_, rfl⟩
              obtain ⟨A, hA⟩ : ∃ A, A = ((S4.new fun t => .cells t [.int .i64 0, ofL [], .snil, .snil]).wr (up 0 n4) S4.t fun u => .cells u [.int .i64 2, ofL [], .snil, .snil]) := ⟨_, rfl⟩
              have hAt : (S4.new fun t => .cells t [.int .i64 0, ofL [], .snil, .snil]).t = S4.t.succ := rfl
              have hAn : A.nx = up 1 n4 := by rw [hA]; simp only [XX, wC_seq, wC_seqj, splice_def, Nat.reduceEqDiff, ↓reduceIte, reduceCtorEq, Int.reduceToNat, Nat.reduceAdd, Nat.reduceMul, Int.reduceAdd, Int.reduceSub, Int.reduceLE, Int.reduceLT, Int.reduceNeg, Int.reduceMul, Int.reduceEq, Int.reduceNe, Nat.reduceLeDiff, Nat.reduceSub, hn4]
              have rA : A.row q = .cells S4.t.succ [.int .i64 2, ofL [], .snil, .snil] := by rw [hA, hq]; exact row_wr_same _ _ _ _
              rw [← hA, hAt]
              rw [← hA] at gq Uq
              have wA := Uq.gr.wf
              have gC : Gr A (A.new fun u => .cells u [.int .i64 2, ofL [], .snil, .snil]) := Gr.new wA (good_cells _)
              have rC : (A.new fun u => .cells u [.int .i64 2, ofL [], .snil, .snil]).row (up 1 n4) = .cells A.t [.int .i64 2, ofL [], .snil, .snil] := by rw [← hAn]; exact row_new_nx _ _
              have Us := Uq.setK (v' := .slx (up 1 n4) 0 1 4 1) (Uq.gr.trans gC) (fun r hr => by
                injection hr with hr
                rw [← hr]
                exact ⟨by rw [← hAn]; exact nx_none wA, ne_cells rC⟩) (fun p hp => gC.same p hp)
              rw [← hm] at Us
              have rq := gC.cells rA
              have f67 : setF (setF f' 7 (.ptr q 0)) (8 + m) (.slx (up 1 n4) 0 1 4 1) 7 = .ptr q 0 := by rw [setF_ne _ _ (by omega)]; rfl
              have e0 : ∀ i, i < 4 → setF (setF f' 7 (.ptr q 0)) (8 + m) (.slx (up 1 n4) 0 1 4 1) i = f' i := fun i hi => by rw [setF_ne _ _ (by omega), setF_ne _ _ (by omega)]
              have e8 : setF (setF f' 7 (.ptr q 0)) (8 + m) (.slx (up 1 n4) 0 1 4 1) (8 + m) = .slx (up 1 n4) 0 1 4 1 := setF_at _ _ _
              have Uw := Us.wq f67 (S' := ((A.new fun u => .cells u [.int .i64 2, ofL [], .snil, .snil]).wr q S4.t.succ fun u => .cells u [.int .i64 6, ofL [], .snil, .slx (up 1 n4) 0 1 4 1])) (Us.gr.wr qs (ne_cells rq) (by rw [rq]; rfl) (good_cells _)) (fun p hp _ => row_wr_ne _ _ _ hp) (by rw [row_wr_same]; exact fun e => by cases e)
              have nq : up 1 n4 ≠ q := fun e => by rw [e, rq] at rC; have := nx_none wA; rw [hAn, e, rA] at this; cases this
              rw [← hq]
              refine (hI7 _ _).2 ⟨setF (setF f' 7 (.ptr q 0)) (8 + m) (.slx (up 1 n4) 0 1 4 1), _, (hB _).2 (by simp only [XX, wC_seq, wC_seqj, splice_def, Nat.reduceEqDiff, ↓reduceIte, reduceCtorEq, Int.reduceToNat, Nat.reduceAdd, Nat.reduceMul, Int.reduceAdd, Int.reduceSub, Int.reduceLE, Int.reduceLT, Int.reduceNeg, Int.reduceMul, Int.reduceEq, Int.reduceNe, Nat.reduceLeDiff, Nat.reduceSub, f0, f1, f2, f7, f8, f9, f10, f11, and_self]), by simp only [XX, wC_seq, wC_seqj, splice_def, Nat.reduceEqDiff, ↓reduceIte, reduceCtorEq, Int.reduceToNat, Nat.reduceAdd, Nat.reduceMul, Int.reduceAdd, Int.reduceSub, Int.reduceLE, Int.reduceLT, Int.reduceNeg, Int.reduceMul, Int.reduceEq, Int.reduceNe, Nat.reduceLeDiff, Nat.reduceSub, f12], by simp only [XX, wC_seq, wC_seqj, splice_def, Nat.reduceEqDiff, ↓reduceIte, reduceCtorEq, Int.reduceToNat, Nat.reduceAdd, Nat.reduceMul, Int.reduceAdd, Int.reduceSub, Int.reduceLE, Int.reduceLT, Int.reduceNeg, Int.reduceMul, Int.reduceEq, Int.reduceNe, Nat.reduceLeDiff, Nat.reduceSub, f13], by simp only [XX, wC_seq, wC_seqj, splice_def, Nat.reduceEqDiff, ↓reduceIte, reduceCtorEq, Int.reduceToNat, Nat.reduceAdd, Nat.reduceMul, Int.reduceAdd, Int.reduceSub, Int.reduceLE, Int.reduceLT, Int.reduceNeg, Int.reduceMul, Int.reduceEq, Int.reduceNe, Nat.reduceLeDiff, Nat.reduceSub, f16], by simp only [XX, wC_seq, wC_seqj, splice_def, Nat.reduceEqDiff, ↓reduceIte, reduceCtorEq, Int.reduceToNat, Nat.reduceAdd, Nat.reduceMul, Int.reduceAdd, Int.reduceSub, Int.reduceLE, Int.reduceLT, Int.reduceNeg, Int.reduceMul, Int.reduceEq, Int.reduceNe, Nat.reduceLeDiff, Nat.reduceSub], f67, by rw [row_wr_same, ← hm]; simp only [kidW, e8, if_true]; rfl, fun _ => ?_, by rw [e0 0 (by decide), e0 1 (by decide), e0 2 (by decide), e0 3 (by decide), ← hm]; exact Uw⟩
              rw [← hm, e8]
              refine ⟨fun e he => by rw [List.mem_singleton.1 he]; rfl, .inr ⟨up 1 n4, A.t, ?_, ?_, .inr rfl⟩⟩
              · rw [← hAn]; exact Uq.gr.fresh
              · rw [row_wr_ne _ _ _ nq]; exact rC
          intro fr S5 hIf
          obtain ⟨f6, tq, hBf, f12, f13, f16, f17, f67, rq, hkid, U6⟩ := (hI7 _ _).1 hIf
          obtain ⟨f0, f1, f2, f7, f8, f9, f10, f11⟩ := (hB _).1 hBf
          clear U4 Uq gq
          obtain ⟨m, hm⟩ : ∃ m, m = (xsW z2 k).length := ⟨_, rfl⟩
          obtain ⟨ka, kc, hkd, hk1, hk2⟩ : ∃ ka kc, kidW wd f6 (xsW z2 k).length = [.int .i64 ka, ofL [], .snil, kc] ∧ kc.sc = true ∧ kc.cells = some [kc] := by
            cases wd with
            | false => exact ⟨2, .snil, rfl, rfl, rfl⟩
            | true => exact ⟨6, _, rfl, (hkid rfl).at.sc, (hkid rfl).at.cells⟩
          rw [hkd] at rq
          obtain ⟨ty, ry⟩ := U6.ry
          simp only [uW] at ry
          simp only [XX, wC_seq, wC_seqj, splice_def, Nat.reduceEqDiff, ↓reduceIte, reduceCtorEq, Int.reduceToNat, Nat.reduceAdd, Nat.reduceMul, Int.reduceAdd, Int.reduceSub, Int.reduceLE, Int.reduceLT, Int.reduceNeg, Int.reduceMul, Int.reduceEq, Int.reduceNe, Nat.reduceLeDiff, Nat.reduceSub, f9, f16, ry]
          have gn : ∀ S : St, WF S → ∀ l, Gr S (S.new fun t => .cells t l) := fun S w l => Gr.new w (good_cells _)
          have ga := gn S5 U6.gr.wf [ofL [UInt8.ofNat (97 + k)]]
          have Ua := U6.same (U6.gr.trans ga) fun p hp => ga.same p hp
          refine wW_appN Ua.gr Ua.ny (one_at rfl) (fun e he => by rw [List.mem_singleton.1 he]; rfl) (by simp) (by simp) (by rw [strs_len]; simp; omega) ?_
          intro S7 w7 g7 hs7 hr7 keep7
          have U7 := Ua.set2 g7 (fun r hr => ⟨by rw [hr7] at hr; injection hr with hr; rw [← hr]; exact nx_none Ua.gr.wf, hs7.some hr⟩) hs7 keep7
          have rqa := ga.cells rq
          have rq7 : S7.row q = .cells tq [.int .i64 ka, ofL [], .snil, kc] := by rw [keep7 q (ne_cells rqa) (Ua.apart 2 7 (by decide) f67), rqa]
          obtain ⟨t7, ry7⟩ := U7.ry
          simp only [uW] at ry7
          simp only [XX, wC_seq, wC_seqj, splice_def, Nat.reduceEqDiff, ↓reduceIte, reduceCtorEq, Int.reduceToNat, Nat.reduceAdd, Nat.reduceMul, Int.reduceAdd, Int.reduceSub, Int.reduceLE, Int.reduceLT, Int.reduceNeg, Int.reduceMul, Int.reduceEq, Int.reduceNe, Nat.reduceLeDiff, Nat.reduceSub, f9, f17, ry7, rq7, hk1, hk2]
          have gb := gn S7 U7.gr.wf [.int .i64 ka, ofL [], .snil, kc]
          have Ub := U7.same (U7.gr.trans gb) fun p hp => gb.same p hp
          refine wW_appN Ub.gr Ub.ky (one_at rfl) (fun e he => by rw [List.mem_singleton.1 he]; simp [allSc, hk1]; exact ⟨rfl, rfl, rfl⟩) (by simp) (by simp) (by simp; omega) ?_
          intro S8 w8 g8 hs8 hr8 keep8
          have e9 : kidW wd (setF f6 2 w7) (xsW z2 k).length = [.int .i64 ka, ofL [], .snil, kc] := by rw [kid_set (by decide)]; exact hkd
          have U8 := Ub.set3 g8 (fun r hr => ⟨by rw [hr8] at hr; injection hr with hr; rw [← hr]; exact nx_none Ub.gr.wf, hs8.some hr⟩) (fun w => ((Ua.others (v' := w7) keep7).1 (8 + (xsW z2 k).length) (by omega) 4 [intW] ((hkid w).gr ga)).gr gb) (by rw [e9]; exact hs8) keep8
          obtain ⟨t8, ry8⟩ := U8.ry
          have ry8' := ry8
          simp only [uW] at ry8
          have c5 := U8.ny.at.cells
          have s5 := U8.ny.at.sc
          have c6 := U8.ky.at.cells
          have s6 := U8.ky.at.sc
          simp only [setF_at] at c5 s5 c6 s6
          have e01 : setF (setF f6 2 w7) 3 w8 2 = w7 := rfl
          rw [e01] at c5 s5
          simp only [XX, wC_seq, wC_seqj, splice_def, Nat.reduceEqDiff, ↓reduceIte, reduceCtorEq, Int.reduceToNat, Nat.reduceAdd, Nat.reduceMul, Int.reduceAdd, Int.reduceSub, Int.reduceLE, Int.reduceLT, Int.reduceNeg, Int.reduceMul, Int.reduceEq, Int.reduceNe, Nat.reduceLeDiff, Nat.reduceSub, f9, ry8, c5, s5, c6, s6]
          refine ⟨apart_two (apartAll_ok (v := f6 2) (w := .ptr y 3) (q := y) (by simp only [XX, wC_seq, wC_seqj, splice_def, Nat.reduceEqDiff, ↓reduceIte, reduceCtorEq, Int.reduceToNat, Nat.reduceAdd, Nat.reduceMul, Int.reduceAdd, Int.reduceSub, Int.reduceLE, Int.reduceLT, Int.reduceNeg, Int.reduceMul, Int.reduceEq, Int.reduceNe, Nat.reduceLeDiff, Nat.reduceSub]) (by simp only [XX, wC_seq, wC_seqj, splice_def, Nat.reduceEqDiff, ↓reduceIte, reduceCtorEq, Int.reduceToNat, Nat.reduceAdd, Nat.reduceMul, Int.reduceAdd, Int.reduceSub, Int.reduceLE, Int.reduceLT, Int.reduceNeg, Int.reduceMul, Int.reduceEq, Int.reduceNe, Nat.reduceLeDiff, Nat.reduceSub]) rfl (U6.apart 2 6 (by decide) U6.ey)) (apartAll_ok (v := f6 2) (w := .ptr q 0) (q := q) (by simp only [XX, wC_seq, wC_seqj, splice_def, Nat.reduceEqDiff, ↓reduceIte, reduceCtorEq, Int.reduceToNat, Nat.reduceAdd, Nat.reduceMul, Int.reduceAdd, Int.reduceSub, Int.reduceLE, Int.reduceLT, Int.reduceNeg, Int.reduceMul, Int.reduceEq, Int.reduceNe, Nat.reduceLeDiff, Nat.reduceSub]) (by simp only [XX, wC_seq, wC_seqj, splice_def, Nat.reduceEqDiff, ↓reduceIte, reduceCtorEq, Int.reduceToNat, Nat.reduceAdd, Nat.reduceMul, Int.reduceAdd, Int.reduceSub, Int.reduceLE, Int.reduceLT, Int.reduceNeg, Int.reduceMul, Int.reduceEq, Int.reduceNe, Nat.reduceLeDiff, Nat.reduceSub, f17]) rfl (U6.apart 2 7 (by decide) f67)), ?_⟩
          have U9 := (U8.wy ry8' [.int .i64 8, ofL [], w7, f6 3]).wy (row_wr_same _ _ _ _) [.int .i64 8, ofL [], w7, w8]
          exact (hI6 _ _).2 ⟨_, (hB _).2 (by simp only [XX, wC_seq, wC_seqj, splice_def, Nat.reduceEqDiff, ↓reduceIte, reduceCtorEq, Int.reduceToNat, Nat.reduceAdd, Nat.reduceMul, Int.reduceAdd, Int.reduceSub, Int.reduceLE, Int.reduceLT, Int.reduceNeg, Int.reduceMul, Int.reduceEq, Int.reduceNe, Nat.reduceLeDiff, Nat.reduceSub, f0, f1, f2, f7, f8, f9, f10, f11, and_self]), by simp only [XX, wC_seq, wC_seqj, splice_def, Nat.reduceEqDiff, ↓reduceIte, reduceCtorEq, Int.reduceToNat, Nat.reduceAdd, Nat.reduceMul, Int.reduceAdd, Int.reduceSub, Int.reduceLE, Int.reduceLT, Int.reduceNeg, Int.reduceMul, Int.reduceEq, Int.reduceNe, Nat.reduceLeDiff, Nat.reduceSub, f12], by simp only [XX, wC_seq, wC_seqj, splice_def, Nat.reduceEqDiff, ↓reduceIte, reduceCtorEq, Int.reduceToNat, Nat.reduceAdd, Nat.reduceMul, Int.reduceAdd, Int.reduceSub, Int.reduceLE, Int.reduceLT, Int.reduceNeg, Int.reduceMul, Int.reduceEq, Int.reduceNe, Nat.reduceLeDiff, Nat.reduceSub, f13, hb], by rw [hxs, List.length_append]; exact U9⟩
      intro fr S5 hIf
      obtain ⟨f5, hBf, f12, f13, U5⟩ := (hI6 _ _).1 hIf
      obtain ⟨f0, f1, f2, f7, f8, f9, f10, f11⟩ := (hB _).1 hBf
      have hadd1 : IntKind.i64.wrap ((k : Int) + 1) = ((k + 1 : Nat) : Int) := by rw [i64_in (by omega) (by omega)]; rfl
      have last : ∀ {fr : Fr}, fr 0 = v1 → fr 1 = v2 → fr 2 = .bool wd → fr 7 = .ptr o 0 → fr 8 = .ptr x 0 → fr 9 = .ptr y 0 → fr 10 = .bool (allW z1 z2 (k + 1)) → fr 11 = .int .i64 ((k + 1 : Nat) : Int) → ∃ j', j' < j ∧ L j' fr S5 := fun a0 a1 a2 a7 a8 a9 a10 a11 =>
        ⟨8 - (k + 1), by omega, (hL _ _ _).2 ⟨k + 1, f5, by omega, a0, a1, a2, a7, a8, a9, a10, a11, U5⟩⟩
      have hall : allW z1 z2 (k + 1) = (allW z1 z2 k && (!hasW z1 k || hasW z2 k)) := rfl
      cases ha : allW z1 z2 k <;> cases hb1 : hasW z1 k <;> cases hb2 : hasW z2 k <;> rw [ha, hb1, hb2] at hall <;> rw [ha] at f10 <;> rw [hb1] at f12 <;> rw [hb2] at f13 <;> simp only [XX, wC_seq, wC_seqj, splice_def, Nat.reduceEqDiff, ↓reduceIte, reduceCtorEq, Int.reduceToNat, Nat.reduceAdd, Nat.reduceMul, Int.reduceAdd, Int.reduceSub, Int.reduceLE, Int.reduceLT, Int.reduceNeg, Int.reduceMul, Int.reduceEq, Int.reduceNe, Nat.reduceLeDiff, Nat.reduceSub, f10, f11, f12, f13, hadd1] <;> exact last (by simp only [XX, wC_seq, wC_seqj, splice_def, Nat.reduceEqDiff, ↓reduceIte, reduceCtorEq, Int.reduceToNat, Nat.reduceAdd, Nat.reduceMul, Int.reduceAdd, Int.reduceSub, Int.reduceLE, Int.reduceLT, Int.reduceNeg, Int.reduceMul, Int.reduceEq, Int.reduceNe, Nat.reduceLeDiff, Nat.reduceSub, f0]) (by simp only [XX, wC_seq, wC_seqj, splice_def, Nat.reduceEqDiff, ↓reduceIte, reduceCtorEq, Int.reduceToNat, Nat.reduceAdd, Nat.reduceMul, Int.reduceAdd, Int.reduceSub, Int.reduceLE, Int.reduceLT, Int.reduceNeg, Int.reduceMul, Int.reduceEq, Int.reduceNe, Nat.reduceLeDiff, Nat.reduceSub, f1]) (by simp only [XX, wC_seq, wC_seqj, splice_def, Nat.reduceEqDiff, ↓reduceIte, reduceCtorEq, Int.reduceToNat, Nat.reduceAdd, Nat.reduceMul, Int.reduceAdd, Int.reduceSub, Int.reduceLE, Int.reduceLT, Int.reduceNeg, Int.reduceMul, Int.reduceEq, Int.reduceNe, Nat.reduceLeDiff, Nat.reduceSub, f2]) (by simp only [XX, wC_seq, wC_seqj, splice_def, Nat.reduceEqDiff, ↓reduceIte, reduceCtorEq, Int.reduceToNat, Nat.reduceAdd, Nat.reduceMul, Int.reduceAdd, Int.reduceSub, Int.reduceLE, Int.reduceLT, Int.reduceNeg, Int.reduceMul, Int.reduceEq, Int.reduceNe, Nat.reduceLeDiff, Nat.reduceSub, f7]) (by simp only [XX, wC_seq, wC_seqj, splice_def, Nat.reduceEqDiff, ↓reduceIte, reduceCtorEq, Int.reduceToNat, Nat.reduceAdd, Nat.reduceMul, Int.reduceAdd, Int.reduceSub, Int.reduceLE, Int.reduceLT, Int.reduceNeg, Int.reduceMul, Int.reduceEq, Int.reduceNe, Nat.reduceLeDiff, Nat.reduceSub, f8]) (by simp only [XX, wC_seq, wC_seqj, splice_def, Nat.reduceEqDiff, ↓reduceIte, reduceCtorEq, Int.reduceToNat, Nat.reduceAdd, Nat.reduceMul, Int.reduceAdd, Int.reduceSub, Int.reduceLE, Int.reduceLT, Int.reduceNeg, Int.reduceMul, Int.reduceEq, Int.reduceNe, Nat.reduceLeDiff, Nat.reduceSub, f9]) (by simp only [XX, wC_seq, wC_seqj, splice_def, Nat.reduceEqDiff, ↓reduceIte, reduceCtorEq, Int.reduceToNat, Nat.reduceAdd, Nat.reduceMul, Int.reduceAdd, Int.reduceSub, Int.reduceLE, Int.reduceLT, Int.reduceNeg, Int.reduceMul, Int.reduceEq, Int.reduceNe, Nat.reduceLeDiff, Nat.reduceSub, hall] <;> rfl) (by simp only [XX, wC_seq, wC_seqj, splice_def, Nat.reduceEqDiff, ↓reduceIte, reduceCtorEq, Int.reduceToNat, Nat.reduceAdd, Nat.reduceMul, Int.reduceAdd, Int.reduceSub, Int.reduceLE, Int.reduceLT, Int.reduceNeg, Int.reduceMul, Int.reduceEq, Int.reduceNe, Nat.reduceLeDiff, Nat.reduceSub])
    · have hk' : ¬ (k : Int) < 8 := by omega
      have hk8 : k = 8 := by omega
      subst hk8
      rw [wC_seqj, wC_seq]; simp only [XX, splice_def, Nat.reduceEqDiff, ↓reduceIte, reduceCtorEq, Int.reduceToNat, Nat.reduceAdd, Nat.reduceMul, Int.reduceAdd, Int.reduceSub, Int.reduceLE, Int.reduceLT, Int.reduceNeg, Int.reduceMul, Int.reduceEq, Int.reduceNe, Nat.reduceLeDiff, Nat.reduceSub, f11, hk']
      exact (hJ _ _).2 ⟨f, by simp only [XX, wC_seq, wC_seqj, splice_def, Nat.reduceEqDiff, ↓reduceIte, reduceCtorEq, Int.reduceToNat, Nat.reduceAdd, Nat.reduceMul, Int.reduceAdd, Int.reduceSub, Int.reduceLE, Int.reduceLT, Int.reduceNeg, Int.reduceMul, Int.reduceEq, Int.reduceNe, Nat.reduceLeDiff, Nat.reduceSub, f8], by simp only [XX, wC_seq, wC_seqj, splice_def, Nat.reduceEqDiff, ↓reduceIte, reduceCtorEq, Int.reduceToNat, Nat.reduceAdd, Nat.reduceMul, Int.reduceAdd, Int.reduceSub, Int.reduceLE, Int.reduceLT, Int.reduceNeg, Int.reduceMul, Int.reduceEq, Int.reduceNe, Nat.reduceLeDiff, Nat.reduceSub, f9], by simp only [XX, wC_seq, wC_seqj, splice_def, Nat.reduceEqDiff, ↓reduceIte, reduceCtorEq, Int.reduceToNat, Nat.reduceAdd, Nat.reduceMul, Int.reduceAdd, Int.reduceSub, Int.reduceLE, Int.reduceLT, Int.reduceNeg, Int.reduceMul, Int.reduceEq, Int.reduceNe, Nat.reduceLeDiff, Nat.reduceSub, f10], U⟩
  intro fr S hJf
  obtain ⟨f, f8, f9, f10, U⟩ := (hJ _ _).1 hJf
  have l1 := xsW_len z1 8
  have l2 := xsW_len z2 8
  obtain ⟨tx, rx⟩ := U.rx
  obtain ⟨ty, ry⟩ := U.ry
  simp only [uW] at rx ry
  have len1 := U.nx.at.len
  have len2 := U.ny.at.len
  rw [strs_len] at len1 len2
  by_cases h1 : xsW z1 8 = []
  · rw [h1] at len1
    rw [wC_seqj, wC_seq]; simp only [XX, wC_seq, wC_seqj, splice_def, Nat.reduceEqDiff, ↓reduceIte, reduceCtorEq, Int.reduceToNat, Nat.reduceAdd, Nat.reduceMul, Int.reduceAdd, Int.reduceSub, Int.reduceLE, Int.reduceLT, Int.reduceNeg, Int.reduceMul, Int.reduceEq, Int.reduceNe, Nat.reduceLeDiff, Nat.reduceSub, f8, rx, len1, Int.ofNat_zero, Int.natCast_zero]
  have h1' : ((xsW z1 8).length : Int) ≠ 0 := fun e => h1 (List.length_eq_zero_iff.1 (by omega))
  by_cases h2 : xsW z2 8 = []
  · rw [h2] at len2
    rw [wC_seqj, wC_seq]; simp only [XX, wC_seq, wC_seqj, splice_def, Nat.reduceEqDiff, ↓reduceIte, reduceCtorEq, Int.reduceToNat, Nat.reduceAdd, Nat.reduceMul, Int.reduceAdd, Int.reduceSub, Int.reduceLE, Int.reduceLT, Int.reduceNeg, Int.reduceMul, Int.reduceEq, Int.reduceNe, Nat.reduceLeDiff, Nat.reduceSub, f8, f9, rx, ry, len1, len2, h1', Int.ofNat_zero, Int.natCast_zero]
  have h2' : ((xsW z2 8).length : Int) ≠ 0 := fun e => h2 (List.length_eq_zero_iff.1 (by omega))
  rw [wC_seqj, wC_seq]; simp only [XX, splice_def, Nat.reduceEqDiff, ↓reduceIte, reduceCtorEq, Int.reduceToNat, Nat.reduceAdd, Nat.reduceMul, Int.reduceAdd, Int.reduceSub, Int.reduceLE, Int.reduceLT, Int.reduceNeg, Int.reduceMul, Int.reduceEq, Int.reduceNe, Nat.reduceLeDiff, Nat.reduceSub, f8, f9, rx, ry, len1, len2, h1', h2']
  have bt : ∀ (P : Pt → Prop) (S : St), TyC P S intW tyI := fun P S => .mk (es := []) (SlAt.nil _ _ _) (SlAt.nil _ _ _) rfl fun i h => absurd h (by simp)
  have hX : TyC (fun r => st.row r = .none) S [.int .i64 8, ofL [], f 0, f 1] (tyU (xsW z1 8) tyI) :=
    .mk (es := List.replicate (xsW z1 8).length intW) U.nx.at U.kx.at (by simp) fun i h h' => by simp only [List.getElem_replicate]; exact bt _ _
  have hY : TyC (fun r => st.row r = .none) S [.int .i64 8, ofL [], f 2, f 3] (tyU (xsW z2 8) (if wd = true then tyO else tyI)) :=
    .mk (es := (List.range (xsW z2 8).length).map (kidW wd f)) U.ny.at U.ky.at (by simp) fun i h h' => by
      simp only [List.getElem_replicate, List.getElem_map, List.getElem_range]
      cases wd with
      | false => exact bt _ _
      | true =>
        refine .mk (es := [intW]) (SlAt.nil _ _ _) (U.kids rfl i (by simpa using h)).at rfl fun j hj hj' => ?_
        have : j = 0 := by simp at hj; omega
        subst this
        exact bt _ _
  rw [wC_seq]; simp only [XX, splice_def, Nat.reduceEqDiff, ↓reduceIte, reduceCtorEq, Int.reduceToNat, Nat.reduceAdd, Nat.reduceMul, Int.reduceAdd, Int.reduceSub, Int.reduceLE, Int.reduceLT, Int.reduceNeg, Int.reduceMul, Int.reduceEq, Int.reduceNe, Nat.reduceLeDiff, Nat.reduceSub, f8, rx]
  refine wCall_plain (new0 (s := schU (xsW z1 8)) U.gr.wf ⟨_, .snil, .snil, rfl, hX, ⟨[], SlAt.nil _ _ _, rfl, fun i h => absurd h (by simp)⟩, ⟨[], SlAt.nil _ _ _, rfl, fun i h => absurd h (by simp)⟩⟩ rfl rfl) ?_
  rintro vt S9 ⟨g9, hpost⟩
  rw [newX z1 h1] at hpost
  obtain ⟨rt, W, F, rfl, hT, hfresh⟩ := hpost
  obtain ⟨tb, id, lf, w, hadd, hmain, hlt1, hlt2, hfit⟩ := unions z1 z2 wd h1 h2
  have ry9 := g9.cells ry
  simp only [XX, splice_def, Nat.reduceEqDiff, ↓reduceIte, reduceCtorEq, Int.reduceToNat, Nat.reduceAdd, Nat.reduceMul, Int.reduceAdd, Int.reduceSub, Int.reduceLE, Int.reduceLT, Int.reduceNeg, Int.reduceMul, Int.reduceEq, Int.reduceNe, Nat.reduceLeDiff, Nat.reduceSub]
  rw [wC_seq]; simp only [XX, splice_def, Nat.reduceEqDiff, ↓reduceIte, reduceCtorEq, Int.reduceToNat, Nat.reduceAdd, Nat.reduceMul, Int.reduceAdd, Int.reduceSub, Int.reduceLE, Int.reduceLT, Int.reduceNeg, Int.reduceMul, Int.reduceEq, Int.reduceNe, Nat.reduceLeDiff, Nat.reduceSub, f9, ry9]
  have hY9 : TyC (fun r => S.row r ≠ .none) S9 [.int .i64 8, ofL [], f 2, f 3] (tyU (xsW z2 8) (if wd = true then tyO else tyI)) := hY.imp fun r p e => ⟨e, g9.same r e⟩
  refine wCall_plain (addTop g9.wf hT hY9 fun r p w => p (hfresh r (.inl w))) ?_
  rintro _ S10 ⟨c10, ⟨W10, F10, a4, a5, a6, T10⟩, rfl⟩
  rw [hadd] at T10
  rw [hadd]
  simp only [XX, splice_def, Nat.reduceEqDiff, ↓reduceIte, reduceCtorEq, Int.reduceToNat, Nat.reduceAdd, Nat.reduceMul, Int.reduceAdd, Int.reduceSub, Int.reduceLE, Int.reduceLT, Int.reduceNeg, Int.reduceMul, Int.reduceEq, Int.reduceNe, Nat.reduceLeDiff, Nat.reduceSub]
  rw [wC_seq]; simp only [XX, splice_def, Nat.reduceEqDiff, ↓reduceIte, reduceCtorEq, Int.reduceToNat, Nat.reduceAdd, Nat.reduceMul, Int.reduceAdd, Int.reduceSub, Int.reduceLE, Int.reduceLT, Int.reduceNeg, Int.reduceMul, Int.reduceEq, Int.reduceNe, Nat.reduceLeDiff, Nat.reduceSub]
  refine wCall_plain (mainC T10) ?_
  rintro _ _ ⟨rfl, rfl⟩
  simp only [XX, splice_def, Nat.reduceEqDiff, ↓reduceIte, reduceCtorEq, Int.reduceToNat, Nat.reduceAdd, Nat.reduceMul, Int.reduceAdd, Int.reduceSub, Int.reduceLE, Int.reduceLT, Int.reduceNeg, Int.reduceMul, Int.reduceEq, Int.reduceNe, Nat.reduceLeDiff, Nat.reduceSub, hmain]
  refine wCall_plain (leC c10.wf T10 hlt1 hlt2 hfit) ?_
  rintro _ S12 ⟨g12, rfl⟩
  cases ha : allW z1 z2 8 with
  | true =>
    rw [ha] at f10
    simp only [XX, wC_seq, wC_seqj, splice_def, Nat.reduceEqDiff, ↓reduceIte, reduceCtorEq, Int.reduceToNat, Nat.reduceAdd, Nat.reduceMul, Int.reduceAdd, Int.reduceSub, Int.reduceLE, Int.reduceLT, Int.reduceNeg, Int.reduceMul, Int.reduceEq, Int.reduceNe, Nat.reduceLeDiff, Nat.reduceSub, f10]
  | false =>
    rw [ha] at f10
    simp only [XX, wC_seq, wC_seqj, splice_def, Nat.reduceEqDiff, ↓reduceIte, reduceCtorEq, Int.reduceToNat, Nat.reduceAdd, Nat.reduceMul, Int.reduceAdd, Int.reduceSub, Int.reduceLE, Int.reduceLT, Int.reduceNeg, Int.reduceMul, Int.reduceEq, Int.reduceNe, Nat.reduceLeDiff, Nat.reduceSub, f10]
end Go.Proofs.Ytjblgoefcobkgaa
