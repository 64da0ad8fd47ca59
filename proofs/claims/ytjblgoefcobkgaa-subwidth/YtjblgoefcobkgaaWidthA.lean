/- 'SubWidth': what it answers. -/
import Derived.Test.YtjblgoefcobkgaaNew0
import Derived.Test.YtjblgoefcobkgaaWithin
import Derived.Test.YtjblgoefcobkgaaEvdV
namespace Go.Proofs.Ytjblgoefcobkgaa
open Eva Go.RowKit
set_option maxRecDepth 100000
set_option linter.unusedSimpArgs false
set_option linter.unusedVariables false
def intS : Sch := ⟨.mk 2 [] [] [], [], []⟩
theorem new_int : newS intS = (some tb0, 0) := by kernel_rfl
theorem known_of {st : St} {Q : V → St → Prop} (h : Q (.bool true) st) : Does (tabT tabD) n_spruelaw6_known [] st Q := does_hook at_spruelaw6_known rfl h
theorem rows_apart {S0 S : St} {nv kv : V} {l : List Str} {n : Nat} (h1 : SlF S0 S nv 1 (strs l)) (h2 : SlF S0 S kv 4 (List.replicate n boolW)) (hl : l ≠ []) {r : Pt} (hr : rowOf nv = some r) : rowOf kv ≠ some r := fun hk => by
  obtain ⟨_, t1, e1⟩ := h1.row hr
  obtain ⟨_, t2, e2⟩ := h2.row hk
  rw [e1] at e2
  injection e2 with _ e2
  rw [strs_flat] at e2
  cases l with
  | nil => exact hl rfl
  | cons a r =>
    cases n with
    | zero => cases e2
    | succ n => rw [List.replicate_succ, List.flatten_cons] at e2; injection e2 with e2; cases e2
theorem names_x {S0 S : St} {nv : V} {l : List Str} {xr : Pt} {t : Nat} {k : Int} {a b c : V} (h1 : SlF S0 S nv 1 (strs l)) (hx : S.row xr = .cells t [.int .i64 k, a, b, c]) : rowOf nv ≠ some xr := fun hr => by
  obtain ⟨_, t1, e1⟩ := h1.row hr
  rw [hx] at e1
  injection e1 with _ e1
  rw [strs_flat] at e1
  cases l with
  | nil => cases e1
  | cons a r => injection e1 with e1; cases e1
theorem kids_x {S0 S : St} {kv : V} {n : Nat} {xr : Pt} {t : Nat} {k : Int} {a b c : V} (h1 : SlF S0 S kv 4 (List.replicate n boolW)) (hx : S.row xr = .cells t [.int .i64 k, a, b, c]) (hk : k ≠ 1) : rowOf kv ≠ some xr := fun hr => by
  obtain ⟨_, t1, e1⟩ := h1.row hr
  rw [hx] at e1
  injection e1 with _ e1
  cases n with
  | zero => cases e1
  | succ n => rw [List.replicate_succ, List.flatten_cons] at e1; injection e1 with e1; injection e1 with _ e1; exact hk e1
set_option maxHeartbeats 4000000 in
theorem widthC (st : St) (hw : WF st) (v : V) (zs : List Int) (hv : IntsAt st v zs) (hz : ∀ z ∈ zs, -9223372036854775808 ≤ z ∧ z < 9223372036854775808) (hn : zs.length ≤ maxLen) (dr : Int) (hd1 : -9223372036854775808 ≤ dr) (hd2 : dr < 9223372036854775808) (kd : Int) (hk1 : -9223372036854775808 ≤ kd) (hk2 : kd < 9223372036854775808) :
    Does (tabT tabD) n_spruelaw6_SubWidth [v, .int .i64 dr, .int .i64 kd] st fun v' _ => v' = .bool true := by
  refine does_fn at_spruelaw6_SubWidth rfl ?_
  simp only [cf_spruelaw6_SubWidth, XX, splice_def, Nat.reduceEqDiff, ↓reduceIte, reduceCtorEq, Int.reduceToNat, Nat.reduceAdd, Nat.reduceMul, Int.reduceAdd, Int.reduceSub, Int.reduceLE, Int.reduceLT, Int.reduceNeg, Int.reduceMul, Int.reduceEq, Int.reduceNe, Nat.reduceLeDiff, Nat.reduceSub]
  rw [wC_seq]; simp only [XX, splice_def, Nat.reduceEqDiff, ↓reduceIte, reduceCtorEq, Int.reduceToNat, Nat.reduceAdd, Nat.reduceMul, Int.reduceAdd, Int.reduceSub, Int.reduceLE, Int.reduceLT, Int.reduceNeg, Int.reduceMul, Int.reduceEq, Int.reduceNe, Nat.reduceLeDiff, Nat.reduceSub]
  rw [wC_seqj]; simp only [XX, wC_seq, wC_seqj, splice_def, Nat.reduceEqDiff, ↓reduceIte, reduceCtorEq, Int.reduceToNat, Nat.reduceAdd, Nat.reduceMul, Int.reduceAdd, Int.reduceSub, Int.reduceLE, Int.reduceLT, Int.reduceNeg, Int.reduceMul, Int.reduceEq, Int.reduceNe, Nat.reduceLeDiff, Nat.reduceSub]
  refine wCall_plain (known_of (Q := fun v' S => v' = .bool true ∧ st = S) ⟨rfl, rfl⟩) ?_
  rintro _ _ ⟨rfl, rfl⟩
  simp only [XX, splice_def, Nat.reduceEqDiff, ↓reduceIte, reduceCtorEq, Int.reduceToNat, Nat.reduceAdd, Nat.reduceMul, Int.reduceAdd, Int.reduceSub, Int.reduceLE, Int.reduceLT, Int.reduceNeg, Int.reduceMul, Int.reduceEq, Int.reduceNe, Nat.reduceLeDiff, Nat.reduceSub]
  rw [wC_seq]; simp only [XX, splice_def, Nat.reduceEqDiff, ↓reduceIte, reduceCtorEq, Int.reduceToNat, Nat.reduceAdd, Nat.reduceMul, Int.reduceAdd, Int.reduceSub, Int.reduceLE, Int.reduceLT, Int.reduceNeg, Int.reduceMul, Int.reduceEq, Int.reduceNe, Nat.reduceLeDiff, Nat.reduceSub]
  refine wCall_plain (new0 (P := fun _ => True) (s := intS) hw ⟨_, .snil, .snil, rfl, .mk (es := []) (SlAt.nil _ _ _) (SlAt.nil _ _ _) rfl fun i h => absurd h (by simp), ⟨[], SlAt.nil _ _ _, rfl, fun i h => absurd h (by simp)⟩, ⟨[], SlAt.nil _ _ _, rfl, fun i h => absurd h (by simp)⟩⟩ rfl rfl) ?_
  rintro vt S1 ⟨g1, hpost⟩
  rw [new_int] at hpost
  obtain ⟨rt, W, F, rfl, hT, hfresh⟩ := hpost
  simp only [XX, splice_def, Nat.reduceEqDiff, ↓reduceIte, reduceCtorEq, Int.reduceToNat, Nat.reduceAdd, Nat.reduceMul, Int.reduceAdd, Int.reduceSub, Int.reduceLE, Int.reduceLT, Int.reduceNeg, Int.reduceMul, Int.reduceEq, Int.reduceNe, Nat.reduceLeDiff, Nat.reduceSub]
  rw [wC_seq]; simp only [XX, splice_def, Nat.reduceEqDiff, ↓reduceIte, reduceCtorEq, Int.reduceToNat, Nat.reduceAdd, Nat.reduceMul, Int.reduceAdd, Int.reduceSub, Int.reduceLE, Int.reduceLT, Int.reduceNeg, Int.reduceMul, Int.reduceEq, Int.reduceNe, Nat.reduceLeDiff, Nat.reduceSub]
  obtain ⟨n1, hn1⟩ : ∃ n, S1.nx = up 0 n := ⟨_, up0 _⟩
  have w1 := g1.wf
  obtain ⟨u, hu⟩ : ∃ u : Bool, u = decide (kd.tmod 2 = 1) := ⟨_, rfl⟩
  obtain ⟨kn, hkn⟩ : ∃ kn : Int, kn = if u then 8 else 7 := ⟨_, rfl⟩
  have hkn1 : kn ≠ 1 := by rw [hkn]; cases u <;> decide
  have two : (2 : Int) ≠ 0 := by decide
  obtain ⟨I, hI⟩ : ∃ I : Fr → St → Prop, ∀ fr S, I fr S ↔ (∃ t, Gr S1 S ∧ fr 0 = v ∧ fr 1 = .int .i64 dr ∧ fr 2 = .int .i64 kd ∧ fr 7 = .ptr rt 0 ∧ fr 9 = .ptr (up 0 n1) 0 ∧ S.row (up 0 n1) = .cells t [.int .i64 kn, ofL [], .snil, .snil]) := ⟨_, fun _ _ => Iff.rfl⟩
  have gx : ∀ l, Gr S1 ((S1.new fun t => .cells t [.int .i64 0, ofL [], .snil, .snil]).wr (up 0 n1) S1.t fun u => .cells u l) := fun l => (Gr.refl w1).nw hn1 (good_cells _) (good_cells _)
  refine wC_cut I ?_ ?_
  · by_cases c : kd.tmod 2 = 1
    · have hu' : u = true := by rw [hu]; exact decide_eq_true c
      simp only [XX, wC_seq, wC_seqj, splice_def, Nat.reduceEqDiff, ↓reduceIte, reduceCtorEq, Int.reduceToNat, Nat.reduceAdd, Nat.reduceMul, Int.reduceAdd, Int.reduceSub, Int.reduceLE, Int.reduceLT, Int.reduceNeg, Int.reduceMul, Int.reduceEq, Int.reduceNe, Nat.reduceLeDiff, Nat.reduceSub, two, c, hn1]
      refine (hI _ _).2 ⟨_, ?_, by simp only [XX, wC_seq, wC_seqj, splice_def, Nat.reduceEqDiff, ↓reduceIte, reduceCtorEq, Int.reduceToNat, Nat.reduceAdd, Nat.reduceMul, Int.reduceAdd, Int.reduceSub, Int.reduceLE, Int.reduceLT, Int.reduceNeg, Int.reduceMul, Int.reduceEq, Int.reduceNe, Nat.reduceLeDiff, Nat.reduceSub], by simp only [XX, wC_seq, wC_seqj, splice_def, Nat.reduceEqDiff, ↓reduceIte, reduceCtorEq, Int.reduceToNat, Nat.reduceAdd, Nat.reduceMul, Int.reduceAdd, Int.reduceSub, Int.reduceLE, Int.reduceLT, Int.reduceNeg, Int.reduceMul, Int.reduceEq, Int.reduceNe, Nat.reduceLeDiff, Nat.reduceSub], by simp only [XX, wC_seq, wC_seqj, splice_def, Nat.reduceEqDiff, ↓reduceIte, reduceCtorEq, Int.reduceToNat, Nat.reduceAdd, Nat.reduceMul, Int.reduceAdd, Int.reduceSub, Int.reduceLE, Int.reduceLT, Int.reduceNeg, Int.reduceMul, Int.reduceEq, Int.reduceNe, Nat.reduceLeDiff, Nat.reduceSub], by simp only [XX, wC_seq, wC_seqj, splice_def, Nat.reduceEqDiff, ↓reduceIte, reduceCtorEq, Int.reduceToNat, Nat.reduceAdd, Nat.reduceMul, Int.reduceAdd, Int.reduceSub, Int.reduceLE, Int.reduceLT, Int.reduceNeg, Int.reduceMul, Int.reduceEq, Int.reduceNe, Nat.reduceLeDiff, Nat.reduceSub], by simp only [XX, wC_seq, wC_seqj, splice_def, Nat.reduceEqDiff, ↓reduceIte, reduceCtorEq, Int.reduceToNat, Nat.reduceAdd, Nat.reduceMul, Int.reduceAdd, Int.reduceSub, Int.reduceLE, Int.reduceLT, Int.reduceNeg, Int.reduceMul, Int.reduceEq, Int.reduceNe, Nat.reduceLeDiff, Nat.reduceSub], by simp only [XX, wC_seq, wC_seqj, splice_def, Nat.reduceEqDiff, ↓reduceIte, reduceCtorEq, Int.reduceToNat, Nat.reduceAdd, Nat.reduceMul, Int.reduceAdd, Int.reduceSub, Int.reduceLE, Int.reduceLT, Int.reduceNeg, Int.reduceMul, Int.reduceEq, Int.reduceNe, Nat.reduceLeDiff, Nat.reduceSub]; rw [hkn, hu']; rfl⟩
      exact (gx _).wr (nx0 w1 hn1 0) (by rw [row_wr_same]; exact fun e => by cases e) (by rw [row_wr_same]; rfl) (good_cells _)
    · have hu' : u = false := by rw [hu]; exact decide_eq_false c
      simp only [XX, wC_seq, wC_seqj, splice_def, Nat.reduceEqDiff, ↓reduceIte, reduceCtorEq, Int.reduceToNat, Nat.reduceAdd, Nat.reduceMul, Int.reduceAdd, Int.reduceSub, Int.reduceLE, Int.reduceLT, Int.reduceNeg, Int.reduceMul, Int.reduceEq, Int.reduceNe, Nat.reduceLeDiff, Nat.reduceSub, two, c, hn1]
      exact (hI _ _).2 ⟨_, gx _, by simp only [XX, wC_seq, wC_seqj, splice_def, Nat.reduceEqDiff, ↓reduceIte, reduceCtorEq, Int.reduceToNat, Nat.reduceAdd, Nat.reduceMul, Int.reduceAdd, Int.reduceSub, Int.reduceLE, Int.reduceLT, Int.reduceNeg, Int.reduceMul, Int.reduceEq, Int.reduceNe, Nat.reduceLeDiff, Nat.reduceSub], by simp only [XX, wC_seq, wC_seqj, splice_def, Nat.reduceEqDiff, ↓reduceIte, reduceCtorEq, Int.reduceToNat, Nat.reduceAdd, Nat.reduceMul, Int.reduceAdd, Int.reduceSub, Int.reduceLE, Int.reduceLT, Int.reduceNeg, Int.reduceMul, Int.reduceEq, Int.reduceNe, Nat.reduceLeDiff, Nat.reduceSub], by simp only [XX, wC_seq, wC_seqj, splice_def, Nat.reduceEqDiff, ↓reduceIte, reduceCtorEq, Int.reduceToNat, Nat.reduceAdd, Nat.reduceMul, Int.reduceAdd, Int.reduceSub, Int.reduceLE, Int.reduceLT, Int.reduceNeg, Int.reduceMul, Int.reduceEq, Int.reduceNe, Nat.reduceLeDiff, Nat.reduceSub], by simp only [XX, wC_seq, wC_seqj, splice_def, Nat.reduceEqDiff, ↓reduceIte, reduceCtorEq, Int.reduceToNat, Nat.reduceAdd, Nat.reduceMul, Int.reduceAdd, Int.reduceSub, Int.reduceLE, Int.reduceLT, Int.reduceNeg, Int.reduceMul, Int.reduceEq, Int.reduceNe, Nat.reduceLeDiff, Nat.reduceSub], by simp only [XX, wC_seq, wC_seqj, splice_def, Nat.reduceEqDiff, ↓reduceIte, reduceCtorEq, Int.reduceToNat, Nat.reduceAdd, Nat.reduceMul, Int.reduceAdd, Int.reduceSub, Int.reduceLE, Int.reduceLT, Int.reduceNeg, Int.reduceMul, Int.reduceEq, Int.reduceNe, Nat.reduceLeDiff, Nat.reduceSub], by simp only [XX, wC_seq, wC_seqj, splice_def, Nat.reduceEqDiff, ↓reduceIte, reduceCtorEq, Int.reduceToNat, Nat.reduceAdd, Nat.reduceMul, Int.reduceAdd, Int.reduceSub, Int.reduceLE, Int.reduceLT, Int.reduceNeg, Int.reduceMul, Int.reduceEq, Int.reduceNe, Nat.reduceLeDiff, Nat.reduceSub]; rw [hkn, hu']; rfl⟩
  intro fr S2 hIf
  obtain ⟨t2, g2, f0, f1, f2, f7, f9, rx⟩ := (hI _ _).1 hIf
  rw [wC_seq]; simp only [XX, splice_def, Nat.reduceEqDiff, ↓reduceIte, reduceCtorEq, Int.reduceToNat, Nat.reduceAdd, Nat.reduceMul, Int.reduceAdd, Int.reduceSub, Int.reduceLE, Int.reduceLT, Int.reduceNeg, Int.reduceMul, Int.reduceEq, Int.reduceNe, Nat.reduceLeDiff, Nat.reduceSub]
  obtain ⟨J, hJ⟩ : ∃ J : Fr → St → Prop, ∀ fr S, J fr S ↔ (∃ t nv kv, Gr S1 S ∧ fr 1 = .int .i64 dr ∧ fr 2 = .int .i64 kd ∧ fr 7 = .ptr rt 0 ∧ fr 9 = .ptr (up 0 n1) 0 ∧ S.row (up 0 n1) = .cells t [.int .i64 kn, ofL [], nv, kv] ∧ SlF S1 S nv 1 (strs (xsW zs 8)) ∧ SlF S1 S kv 4 (List.replicate (xsW zs 8).length boolW)) := ⟨_, fun _ _ => Iff.rfl⟩
  refine wC_cut J ?_ ?_
  · rw [wC_seq]; simp only [XX, splice_def, Nat.reduceEqDiff, ↓reduceIte, reduceCtorEq, Int.reduceToNat, Nat.reduceAdd, Nat.reduceMul, Int.reduceAdd, Int.reduceSub, Int.reduceLE, Int.reduceLT, Int.reduceNeg, Int.reduceMul, Int.reduceEq, Int.reduceNe, Nat.reduceLeDiff, Nat.reduceSub]
    obtain ⟨L, hL⟩ : ∃ L : Nat → Fr → St → Prop, ∀ j fr S, L j fr S ↔ ∃ (k t : Nat) (nv kv : V), j + k = 8 ∧ fr 0 = v ∧ fr 1 = .int .i64 dr ∧ fr 2 = .int .i64 kd ∧ fr 7 = .ptr rt 0 ∧ fr 9 = .ptr (up 0 n1) 0 ∧ fr 10 = ofL [97, 98, 99, 100, 101, 102, 103, 104] ∧ fr 11 = .int .i64 k ∧ Gr S1 S ∧ S.row (up 0 n1) = .cells t [.int .i64 kn, ofL [], nv, kv] ∧ SlF S1 S nv 1 (strs (xsW zs k)) ∧ SlF S1 S kv 4 (List.replicate (xsW zs k).length boolW) ∧ (∀ r, rowOf nv = some r → rowOf kv ≠ some r) := ⟨_, fun _ _ _ => Iff.rfl⟩
    refine wC_loop L 8 (by decide) ((hL _ _ _).2 ⟨0, t2, .snil, .snil, by omega, by simp only [XX, wC_seq, wC_seqj, splice_def, Nat.reduceEqDiff, ↓reduceIte, reduceCtorEq, Int.reduceToNat, Nat.reduceAdd, Nat.reduceMul, Int.reduceAdd, Int.reduceSub, Int.reduceLE, Int.reduceLT, Int.reduceNeg, Int.reduceMul, Int.reduceEq, Int.reduceNe, Nat.reduceLeDiff, Nat.reduceSub, f0], by simp only [XX, wC_seq, wC_seqj, splice_def, Nat.reduceEqDiff, ↓reduceIte, reduceCtorEq, Int.reduceToNat, Nat.reduceAdd, Nat.reduceMul, Int.reduceAdd, Int.reduceSub, Int.reduceLE, Int.reduceLT, Int.reduceNeg, Int.reduceMul, Int.reduceEq, Int.reduceNe, Nat.reduceLeDiff, Nat.reduceSub, f1], by simp only [XX, wC_seq, wC_seqj, splice_def, Nat.reduceEqDiff, ↓reduceIte, reduceCtorEq, Int.reduceToNat, Nat.reduceAdd, Nat.reduceMul, Int.reduceAdd, Int.reduceSub, Int.reduceLE, Int.reduceLT, Int.reduceNeg, Int.reduceMul, Int.reduceEq, Int.reduceNe, Nat.reduceLeDiff, Nat.reduceSub, f2], by simp only [XX, wC_seq, wC_seqj, splice_def, Nat.reduceEqDiff, ↓reduceIte, reduceCtorEq, Int.reduceToNat, Nat.reduceAdd, Nat.reduceMul, Int.reduceAdd, Int.reduceSub, Int.reduceLE, Int.reduceLT, Int.reduceNeg, Int.reduceMul, Int.reduceEq, Int.reduceNe, Nat.reduceLeDiff, Nat.reduceSub, f7], by simp only [XX, wC_seq, wC_seqj, splice_def, Nat.reduceEqDiff, ↓reduceIte, reduceCtorEq, Int.reduceToNat, Nat.reduceAdd, Nat.reduceMul, Int.reduceAdd, Int.reduceSub, Int.reduceLE, Int.reduceLT, Int.reduceNeg, Int.reduceMul, Int.reduceEq, Int.reduceNe, Nat.reduceLeDiff, Nat.reduceSub, f9], by simp only [XX, wC_seq, wC_seqj, splice_def, Nat.reduceEqDiff, ↓reduceIte, reduceCtorEq, Int.reduceToNat, Nat.reduceAdd, Nat.reduceMul, Int.reduceAdd, Int.reduceSub, Int.reduceLE, Int.reduceLT, Int.reduceNeg, Int.reduceMul, Int.reduceEq, Int.reduceNe, Nat.reduceLeDiff, Nat.reduceSub], by simp only [XX, wC_seq, wC_seqj, splice_def, Nat.reduceEqDiff, ↓reduceIte, reduceCtorEq, Int.reduceToNat, Nat.reduceAdd, Nat.reduceMul, Int.reduceAdd, Int.reduceSub, Int.reduceLE, Int.reduceLT, Int.reduceNeg, Int.reduceMul, Int.reduceEq, Int.reduceNe, Nat.reduceLeDiff, Nat.reduceSub]; rfl, g2, rx, SlF.nil _ _ _, SlF.nil _ _ _, fun r h => by cases h⟩) ?_
    intro j fr S hLj
    obtain ⟨k, t, nv, kv, hj, f0, f1, f2, f7, f9, f10, f11, hg, rx, hnv, hkv, hap⟩ := (hL _ _ _).1 hLj
    by_cases hk : k < 8
    · have hk' : (k : Int) < 8 := by omega
      rw [wC_seqj, wC_seq]; simp only [XX, splice_def, Nat.reduceEqDiff, ↓reduceIte, reduceCtorEq, Int.reduceToNat, Nat.reduceAdd, Nat.reduceMul, Int.reduceAdd, Int.reduceSub, Int.reduceLE, Int.reduceLT, Int.reduceNeg, Int.reduceMul, Int.reduceEq, Int.reduceNe, Nat.reduceLeDiff, Nat.reduceSub, f11, hk']
      rw [wC_seqj]; simp only [XX, splice_def, Nat.reduceEqDiff, ↓reduceIte, reduceCtorEq, Int.reduceToNat, Nat.reduceAdd, Nat.reduceMul, Int.reduceAdd, Int.reduceSub, Int.reduceLE, Int.reduceLT, Int.reduceNeg, Int.reduceMul, Int.reduceEq, Int.reduceNe, Nat.reduceLeDiff, Nat.reduceSub]
      rw [wC_seq]; simp only [XX, splice_def, Nat.reduceEqDiff, ↓reduceIte, reduceCtorEq, Int.reduceToNat, Nat.reduceAdd, Nat.reduceMul, Int.reduceAdd, Int.reduceSub, Int.reduceLE, Int.reduceLT, Int.reduceNeg, Int.reduceMul, Int.reduceEq, Int.reduceNe, Nat.reduceLeDiff, Nat.reduceSub]
      obtain ⟨I2, hI2⟩ : ∃ I2 : Fr → St → Prop, ∀ fr S', I2 fr S' ↔ (S = S' ∧ fr 0 = v ∧ fr 1 = .int .i64 dr ∧ fr 2 = .int .i64 kd ∧ fr 7 = .ptr rt 0 ∧ fr 9 = .ptr (up 0 n1) 0 ∧ fr 10 = ofL [97, 98, 99, 100, 101, 102, 103, 104] ∧ fr 11 = .int .i64 k ∧ fr 12 = .bool (hasW zs k)) := ⟨_, fun _ _ => Iff.rfl⟩
      refine wC_cut I2 ?_ ?_
      · simp only [XX, wC_seq, wC_seqj, splice_def, Nat.reduceEqDiff, ↓reduceIte, reduceCtorEq, Int.reduceToNat, Nat.reduceAdd, Nat.reduceMul, Int.reduceAdd, Int.reduceSub, Int.reduceLE, Int.reduceLT, Int.reduceNeg, Int.reduceMul, Int.reduceEq, Int.reduceNe, Nat.reduceLeDiff, Nat.reduceSub]
        obtain ⟨L2, hL2⟩ : ∃ L2 : Nat → Fr → St → Prop, ∀ j fr S', L2 j fr S' ↔ ∃ (i : Nat), S = S' ∧ j + i = min zs.length 20 ∧ fr 0 = v ∧ fr 1 = .int .i64 dr ∧ fr 2 = .int .i64 kd ∧ fr 7 = .ptr rt 0 ∧ fr 9 = .ptr (up 0 n1) 0 ∧ fr 10 = ofL [97, 98, 99, 100, 101, 102, 103, 104] ∧ fr 11 = .int .i64 k ∧ fr 13 = .int .i64 i ∧ fr 12 = .bool ((zs.take i).any fun z => decide (z % 8 = (k : Int))) := ⟨_, fun _ _ _ => Iff.rfl⟩
        refine wC_loop L2 (min zs.length 20) (by omega) ((hL2 _ _ _).2 ⟨0, rfl, by omega, by simp only [XX, wC_seq, wC_seqj, splice_def, Nat.reduceEqDiff, ↓reduceIte, reduceCtorEq, Int.reduceToNat, Nat.reduceAdd, Nat.reduceMul, Int.reduceAdd, Int.reduceSub, Int.reduceLE, Int.reduceLT, Int.reduceNeg, Int.reduceMul, Int.reduceEq, Int.reduceNe, Nat.reduceLeDiff, Nat.reduceSub, f0], by simp only [XX, wC_seq, wC_seqj, splice_def, Nat.reduceEqDiff, ↓reduceIte, reduceCtorEq, Int.reduceToNat, Nat.reduceAdd, Nat.reduceMul, Int.reduceAdd, Int.reduceSub, Int.reduceLE, Int.reduceLT, Int.reduceNeg, Int.reduceMul, Int.reduceEq, Int.reduceNe, Nat.reduceLeDiff, Nat.reduceSub, f1], by simp only [XX, wC_seq, wC_seqj, splice_def, Nat.reduceEqDiff, ↓reduceIte, reduceCtorEq, Int.reduceToNat, Nat.reduceAdd, Nat.reduceMul, Int.reduceAdd, Int.reduceSub, Int.reduceLE, Int.reduceLT, Int.reduceNeg, Int.reduceMul, Int.reduceEq, Int.reduceNe, Nat.reduceLeDiff, Nat.reduceSub, f2], by simp only [XX, wC_seq, wC_seqj, splice_def, Nat.reduceEqDiff, ↓reduceIte, reduceCtorEq, Int.reduceToNat, Nat.reduceAdd, Nat.reduceMul, Int.reduceAdd, Int.reduceSub, Int.reduceLE, Int.reduceLT, Int.reduceNeg, Int.reduceMul, Int.reduceEq, Int.reduceNe, Nat.reduceLeDiff, Nat.reduceSub, f7], by simp only [XX, wC_seq, wC_seqj, splice_def, Nat.reduceEqDiff, ↓reduceIte, reduceCtorEq, Int.reduceToNat, Nat.reduceAdd, Nat.reduceMul, Int.reduceAdd, Int.reduceSub, Int.reduceLE, Int.reduceLT, Int.reduceNeg, Int.reduceMul, Int.reduceEq, Int.reduceNe, Nat.reduceLeDiff, Nat.reduceSub, f9], by simp only [XX, wC_seq, wC_seqj, splice_def, Nat.reduceEqDiff, ↓reduceIte, reduceCtorEq, Int.reduceToNat, Nat.reduceAdd, Nat.reduceMul, Int.reduceAdd, Int.reduceSub, Int.reduceLE, Int.reduceLT, Int.reduceNeg, Int.reduceMul, Int.reduceEq, Int.reduceNe, Nat.reduceLeDiff, Nat.reduceSub, f10], by simp only [XX, wC_seq, wC_seqj, splice_def, Nat.reduceEqDiff, ↓reduceIte, reduceCtorEq, Int.reduceToNat, Nat.reduceAdd, Nat.reduceMul, Int.reduceAdd, Int.reduceSub, Int.reduceLE, Int.reduceLT, Int.reduceNeg, Int.reduceMul, Int.reduceEq, Int.reduceNe, Nat.reduceLeDiff, Nat.reduceSub, f11], by simp only [XX, wC_seq, wC_seqj, splice_def, Nat.reduceEqDiff, ↓reduceIte, reduceCtorEq, Int.reduceToNat, Nat.reduceAdd, Nat.reduceMul, Int.reduceAdd, Int.reduceSub, Int.reduceLE, Int.reduceLT, Int.reduceNeg, Int.reduceMul, Int.reduceEq, Int.reduceNe, Nat.reduceLeDiff, Nat.reduceSub]; rfl, by simp only [XX, wC_seq, wC_seqj, splice_def, Nat.reduceEqDiff, ↓reduceIte, reduceCtorEq, Int.reduceToNat, Nat.reduceAdd, Nat.reduceMul, Int.reduceAdd, Int.reduceSub, Int.reduceLE, Int.reduceLT, Int.reduceNeg, Int.reduceMul, Int.reduceEq, Int.reduceNe, Nat.reduceLeDiff, Nat.reduceSub]; rfl⟩) ?_
        intro j2 fr S' hj2
        obtain ⟨i, rfl, hji, f0, f1, f2, f7, f9, f10, f11, f13, f12⟩ := (hL2 _ _ _).1 hj2
        have hlen := hv.len
        by_cases hi : i < zs.length ∧ i < 20
        · have hi1 : (i : Int) < zs.length := by omega
          have hi2 : (i : Int) < 20 := by omega
          have hadd1 : IntKind.i64.wrap ((i : Int) + 1) = ((i + 1 : Nat) : Int) := by rw [i64_in (by omega) (by omega)]; rfl
          have htk : zs.take (i + 1) = zs.take i ++ [zs[i]] := by rw [List.take_succ_eq_append_getElem hi.1]
          have next : ∀ {fr' : Fr} {b : Bool}, fr' 0 = v → fr' 1 = .int .i64 dr → fr' 2 = .int .i64 kd → fr' 7 = .ptr rt 0 → fr' 9 = .ptr (up 0 n1) 0 → fr' 10 = ofL [97, 98, 99, 100, 101, 102, 103, 104] → fr' 11 = .int .i64 k → fr' 13 = .int .i64 ((i + 1 : Nat) : Int) → fr' 12 = .bool b → b = ((zs.take i).any (fun z => decide (z % 8 = (k : Int))) || decide (zs[i] % 8 = (k : Int))) → ∃ j', j' < j2 ∧ L2 j' fr' S := fun {fr' b} e0 e1 e2 e7 e9 e10 e11 e13 e12 hb =>
            ⟨min zs.length 20 - (i + 1), by omega, (hL2 _ _ _).2 ⟨i + 1, rfl, by omega, e0, e1, e2, e7, e9, e10, e11, e13, by rw [e12, hb, htk, List.any_append]; simp⟩⟩
          cases hb : (zs.take i).any fun z => decide (z % 8 = (k : Int)) with
          | true =>
            rw [hb] at f12
            simp only [XX, wC_seq, wC_seqj, splice_def, Nat.reduceEqDiff, ↓reduceIte, reduceCtorEq, Int.reduceToNat, Nat.reduceAdd, Nat.reduceMul, Int.reduceAdd, Int.reduceSub, Int.reduceLE, Int.reduceLT, Int.reduceNeg, Int.reduceMul, Int.reduceEq, Int.reduceNe, Nat.reduceLeDiff, Nat.reduceSub, f0, f13, f12, hlen, hi1, hi2, hadd1]
            exact next (b := true) (by simp only [XX, wC_seq, wC_seqj, splice_def, Nat.reduceEqDiff, ↓reduceIte, reduceCtorEq, Int.reduceToNat, Nat.reduceAdd, Nat.reduceMul, Int.reduceAdd, Int.reduceSub, Int.reduceLE, Int.reduceLT, Int.reduceNeg, Int.reduceMul, Int.reduceEq, Int.reduceNe, Nat.reduceLeDiff, Nat.reduceSub, f0]) (by simp only [XX, wC_seq, wC_seqj, splice_def, Nat.reduceEqDiff, ↓reduceIte, reduceCtorEq, Int.reduceToNat, Nat.reduceAdd, Nat.reduceMul, Int.reduceAdd, Int.reduceSub, Int.reduceLE, Int.reduceLT, Int.reduceNeg, Int.reduceMul, Int.reduceEq, Int.reduceNe, Nat.reduceLeDiff, Nat.reduceSub, f1]) (by simp only [XX, wC_seq, wC_seqj, splice_def, Nat.reduceEqDiff, ↓reduceIte, reduceCtorEq, Int.reduceToNat, Nat.reduceAdd, Nat.reduceMul, Int.reduceAdd, Int.reduceSub, Int.reduceLE, Int.reduceLT, Int.reduceNeg, Int.reduceMul, Int.reduceEq, Int.reduceNe, Nat.reduceLeDiff, Nat.reduceSub, f2]) (by simp only [XX, wC_seq, wC_seqj, splice_def, Nat.reduceEqDiff, ↓reduceIte, reduceCtorEq, Int.reduceToNat, Nat.reduceAdd, Nat.reduceMul, Int.reduceAdd, Int.reduceSub, Int.reduceLE, Int.reduceLT, Int.reduceNeg, Int.reduceMul, Int.reduceEq, Int.reduceNe, Nat.reduceLeDiff, Nat.reduceSub, f7]) (by simp only [XX, wC_seq, wC_seqj, splice_def, Nat.reduceEqDiff, ↓reduceIte, reduceCtorEq, Int.reduceToNat, Nat.reduceAdd, Nat.reduceMul, Int.reduceAdd, Int.reduceSub, Int.reduceLE, Int.reduceLT, Int.reduceNeg, Int.reduceMul, Int.reduceEq, Int.reduceNe, Nat.reduceLeDiff, Nat.reduceSub, f9]) (by simp only [XX, wC_seq, wC_seqj, splice_def, Nat.reduceEqDiff, ↓reduceIte, reduceCtorEq, Int.reduceToNat, Nat.reduceAdd, Nat.reduceMul, Int.reduceAdd, Int.reduceSub, Int.reduceLE, Int.reduceLT, Int.reduceNeg, Int.reduceMul, Int.reduceEq, Int.reduceNe, Nat.reduceLeDiff, Nat.reduceSub, f10]) (by simp only [XX, wC_seq, wC_seqj, splice_def, Nat.reduceEqDiff, ↓reduceIte, reduceCtorEq, Int.reduceToNat, Nat.reduceAdd, Nat.reduceMul, Int.reduceAdd, Int.reduceSub, Int.reduceLE, Int.reduceLT, Int.reduceNeg, Int.reduceMul, Int.reduceEq, Int.reduceNe, Nat.reduceLeDiff, Nat.reduceSub, f11]) (by simp only [XX, wC_seq, wC_seqj, splice_def, Nat.reduceEqDiff, ↓reduceIte, reduceCtorEq, Int.reduceToNat, Nat.reduceAdd, Nat.reduceMul, Int.reduceAdd, Int.reduceSub, Int.reduceLE, Int.reduceLT, Int.reduceNeg, Int.reduceMul, Int.reduceEq, Int.reduceNe, Nat.reduceLeDiff, Nat.reduceSub]) (by simp only [XX, wC_seq, wC_seqj, splice_def, Nat.reduceEqDiff, ↓reduceIte, reduceCtorEq, Int.reduceToNat, Nat.reduceAdd, Nat.reduceMul, Int.reduceAdd, Int.reduceSub, Int.reduceLE, Int.reduceLT, Int.reduceNeg, Int.reduceMul, Int.reduceEq, Int.reduceNe, Nat.reduceLeDiff, Nat.reduceSub]) (by rw [hb]; rfl)
          | false =>
            rw [hb] at f12
            obtain ⟨q, a1, a2⟩ := (hv.gr (g1.trans hg)).at hi.1
            have a3 : ld1 (S.row q) i = some (.int .i64 zs[i], .no) := by rw [a2, ld1_ro, ints_get hi.1]; rfl
            simp only [XX, wC_seq, wC_seqj, splice_def, Nat.reduceEqDiff, ↓reduceIte, reduceCtorEq, Int.reduceToNat, Nat.reduceAdd, Nat.reduceMul, Int.reduceAdd, Int.reduceSub, Int.reduceLE, Int.reduceLT, Int.reduceNeg, Int.reduceMul, Int.reduceEq, Int.reduceNe, Nat.reduceLeDiff, Nat.reduceSub, f0, f13, f12, hlen, hi1, hi2, a1, a3]
            refine wCall_plain (withinC zs[i] 8 _ (by decide) (by decide)) ?_
            rintro _ _ ⟨rfl, rfl⟩
            simp only [XX, wC_seq, wC_seqj, splice_def, Nat.reduceEqDiff, ↓reduceIte, reduceCtorEq, Int.reduceToNat, Nat.reduceAdd, Nat.reduceMul, Int.reduceAdd, Int.reduceSub, Int.reduceLE, Int.reduceLT, Int.reduceNeg, Int.reduceMul, Int.reduceEq, Int.reduceNe, Nat.reduceLeDiff, Nat.reduceSub, f11, f13, hadd1]
            exact next (b := decide (zs[i] % 8 = (k : Int))) (by simp only [XX, wC_seq, wC_seqj, splice_def, Nat.reduceEqDiff, ↓reduceIte, reduceCtorEq, Int.reduceToNat, Nat.reduceAdd, Nat.reduceMul, Int.reduceAdd, Int.reduceSub, Int.reduceLE, Int.reduceLT, Int.reduceNeg, Int.reduceMul, Int.reduceEq, Int.reduceNe, Nat.reduceLeDiff, Nat.reduceSub, f0]) (by simp only [XX, wC_seq, wC_seqj, splice_def, Nat.reduceEqDiff, ↓reduceIte, reduceCtorEq, Int.reduceToNat, Nat.reduceAdd, Nat.reduceMul, Int.reduceAdd, Int.reduceSub, Int.reduceLE, Int.reduceLT, Int.reduceNeg, Int.reduceMul, Int.reduceEq, Int.reduceNe, Nat.reduceLeDiff, Nat.reduceSub, f1]) (by simp only [XX, wC_seq, wC_seqj, splice_def, Nat.reduceEqDiff, ↓reduceIte, reduceCtorEq, Int.reduceToNat, Nat.reduceAdd, Nat.reduceMul, Int.reduceAdd, Int.reduceSub, Int.reduceLE, Int.reduceLT, Int.reduceNeg, Int.reduceMul, Int.reduceEq, Int.reduceNe, Nat.reduceLeDiff, Nat.reduceSub, f2]) (by simp only [XX, wC_seq, wC_seqj, splice_def, Nat.reduceEqDiff, ↓reduceIte, reduceCtorEq, Int.reduceToNat, Nat.reduceAdd, Nat.reduceMul, Int.reduceAdd, Int.reduceSub, Int.reduceLE, Int.reduceLT, Int.reduceNeg, Int.reduceMul, Int.reduceEq, Int.reduceNe, Nat.reduceLeDiff, Nat.reduceSub, f7]) (by simp only [XX, wC_seq, wC_seqj, splice_def, Nat.reduceEqDiff, ↓reduceIte, reduceCtorEq, Int.reduceToNat, Nat.reduceAdd, Nat.reduceMul, Int.reduceAdd, Int.reduceSub, Int.reduceLE, Int.reduceLT, Int.reduceNeg, Int.reduceMul, Int.reduceEq, Int.reduceNe, Nat.reduceLeDiff, Nat.reduceSub, f9]) (by simp only [XX, wC_seq, wC_seqj, splice_def, Nat.reduceEqDiff, ↓reduceIte, reduceCtorEq, Int.reduceToNat, Nat.reduceAdd, Nat.reduceMul, Int.reduceAdd, Int.reduceSub, Int.reduceLE, Int.reduceLT, Int.reduceNeg, Int.reduceMul, Int.reduceEq, Int.reduceNe, Nat.reduceLeDiff, Nat.reduceSub, f10]) (by simp only [XX, wC_seq, wC_seqj, splice_def, Nat.reduceEqDiff, ↓reduceIte, reduceCtorEq, Int.reduceToNat, Nat.reduceAdd, Nat.reduceMul, Int.reduceAdd, Int.reduceSub, Int.reduceLE, Int.reduceLT, Int.reduceNeg, Int.reduceMul, Int.reduceEq, Int.reduceNe, Nat.reduceLeDiff, Nat.reduceSub, f11]) (by simp only [XX, wC_seq, wC_seqj, splice_def, Nat.reduceEqDiff, ↓reduceIte, reduceCtorEq, Int.reduceToNat, Nat.reduceAdd, Nat.reduceMul, Int.reduceAdd, Int.reduceSub, Int.reduceLE, Int.reduceLT, Int.reduceNeg, Int.reduceMul, Int.reduceEq, Int.reduceNe, Nat.reduceLeDiff, Nat.reduceSub]) (by simp only [XX, wC_seq, wC_seqj, splice_def, Nat.reduceEqDiff, ↓reduceIte, reduceCtorEq, Int.reduceToNat, Nat.reduceAdd, Nat.reduceMul, Int.reduceAdd, Int.reduceSub, Int.reduceLE, Int.reduceLT, Int.reduceNeg, Int.reduceMul, Int.reduceEq, Int.reduceNe, Nat.reduceLeDiff, Nat.reduceSub]) (by rw [hb]; rfl)
        · have hex : ∀ {fr' : Fr}, fr' = fr → True := fun _ => trivial
          have hie : i = min zs.length 20 := by omega
          have hhas : hasW zs k = (zs.take i).any fun z => decide (z % 8 = (k : Int)) := by
            rw [hasW, hie]
            by_cases h20 : zs.length ≤ 20
            · rw [Nat.min_eq_left h20, List.take_length, List.take_of_length_le h20]
            · rw [Nat.min_eq_right (by omega)]
          rw [← hhas] at f12
          by_cases h1 : i < zs.length
          · have hi1 : (i : Int) < zs.length := by omega
            have hi2 : ¬ (i : Int) < 20 := by omega
            simp only [XX, wC_seq, wC_seqj, splice_def, Nat.reduceEqDiff, ↓reduceIte, reduceCtorEq, Int.reduceToNat, Nat.reduceAdd, Nat.reduceMul, Int.reduceAdd, Int.reduceSub, Int.reduceLE, Int.reduceLT, Int.reduceNeg, Int.reduceMul, Int.reduceEq, Int.reduceNe, Nat.reduceLeDiff, Nat.reduceSub, f0, f13, hlen, hi1, hi2]
            exact (hI2 _ _).2 ⟨rfl, by simp only [XX, wC_seq, wC_seqj, splice_def, Nat.reduceEqDiff, ↓reduceIte, reduceCtorEq, Int.reduceToNat, Nat.reduceAdd, Nat.reduceMul, Int.reduceAdd, Int.reduceSub, Int.reduceLE, Int.reduceLT, Int.reduceNeg, Int.reduceMul, Int.reduceEq, Int.reduceNe, Nat.reduceLeDiff, Nat.reduceSub, f0], by simp only [XX, wC_seq, wC_seqj, splice_def, Nat.reduceEqDiff, ↓reduceIte, reduceCtorEq, Int.reduceToNat, Nat.reduceAdd, Nat.reduceMul, Int.reduceAdd, Int.reduceSub, Int.reduceLE, Int.reduceLT, Int.reduceNeg, Int.reduceMul, Int.reduceEq, Int.reduceNe, Nat.reduceLeDiff, Nat.reduceSub, f1], by simp only [XX, wC_seq, wC_seqj, splice_def, Nat.reduceEqDiff, ↓reduceIte, reduceCtorEq, Int.reduceToNat, Nat.reduceAdd, Nat.reduceMul, Int.reduceAdd, Int.reduceSub, Int.reduceLE, Int.reduceLT, Int.reduceNeg, Int.reduceMul, Int.reduceEq, Int.reduceNe, Nat.reduceLeDiff, Nat.reduceSub, f2], by simp only [XX, wC_seq, wC_seqj, splice_def, Nat.reduceEqDiff, ↓reduceIte, reduceCtorEq, Int.reduceToNat, Nat.reduceAdd, Nat.reduceMul, Int.reduceAdd, Int.reduceSub, Int.reduceLE, Int.reduceLT, Int.reduceNeg, Int.reduceMul, Int.reduceEq, Int.reduceNe, Nat.reduceLeDiff, Nat.reduceSub, f7], by simp only [XX, wC_seq, wC_seqj, splice_def, Nat.reduceEqDiff, ↓reduceIte, reduceCtorEq, Int.reduceToNat, Nat.reduceAdd, Nat.reduceMul, Int.reduceAdd, Int.reduceSub, Int.reduceLE, Int.reduceLT, Int.reduceNeg, Int.reduceMul, Int.reduceEq, Int.reduceNe, Nat.reduceLeDiff, Nat.reduceSub, f9], by simp only [XX, wC_seq, wC_seqj, splice_def, Nat.reduceEqDiff, ↓reduceIte, reduceCtorEq, Int.reduceToNat, Nat.reduceAdd, Nat.reduceMul, Int.reduceAdd, Int.reduceSub, Int.reduceLE, Int.reduceLT, Int.reduceNeg, Int.reduceMul, Int.reduceEq, Int.reduceNe, Nat.reduceLeDiff, Nat.reduceSub, f10], by simp only [XX, wC_seq, wC_seqj, splice_def, Nat.reduceEqDiff, ↓reduceIte, reduceCtorEq, Int.reduceToNat, Nat.reduceAdd, Nat.reduceMul, Int.reduceAdd, Int.reduceSub, Int.reduceLE, Int.reduceLT, Int.reduceNeg, Int.reduceMul, Int.reduceEq, Int.reduceNe, Nat.reduceLeDiff, Nat.reduceSub, f11], by simp only [XX, wC_seq, wC_seqj, splice_def, Nat.reduceEqDiff, ↓reduceIte, reduceCtorEq, Int.reduceToNat, Nat.reduceAdd, Nat.reduceMul, Int.reduceAdd, Int.reduceSub, Int.reduceLE, Int.reduceLT, Int.reduceNeg, Int.reduceMul, Int.reduceEq, Int.reduceNe, Nat.reduceLeDiff, Nat.reduceSub, f12]⟩
          · have hi1 : ¬ (i : Int) < zs.length := by omega
            simp only [XX, wC_seq, wC_seqj, splice_def, Nat.reduceEqDiff, ↓reduceIte, reduceCtorEq, Int.reduceToNat, Nat.reduceAdd, Nat.reduceMul, Int.reduceAdd, Int.reduceSub, Int.reduceLE, Int.reduceLT, Int.reduceNeg, Int.reduceMul, Int.reduceEq, Int.reduceNe, Nat.reduceLeDiff, Nat.reduceSub, f0, f13, hlen, hi1]
            exact (hI2 _ _).2 ⟨rfl, by simp only [XX, wC_seq, wC_seqj, splice_def, Nat.reduceEqDiff, ↓reduceIte, reduceCtorEq, Int.reduceToNat, Nat.reduceAdd, Nat.reduceMul, Int.reduceAdd, Int.reduceSub, Int.reduceLE, Int.reduceLT, Int.reduceNeg, Int.reduceMul, Int.reduceEq, Int.reduceNe, Nat.reduceLeDiff, Nat.reduceSub, f0], by simp only [XX, wC_seq, wC_seqj, splice_def, Nat.reduceEqDiff, ↓reduceIte, reduceCtorEq, Int.reduceToNat, Nat.reduceAdd, Nat.reduceMul, Int.reduceAdd, Int.reduceSub, Int.reduceLE, Int.reduceLT, Int.reduceNeg, Int.reduceMul, Int.reduceEq, Int.reduceNe, Nat.reduceLeDiff, Nat.reduceSub, f1], by simp only [XX, wC_seq, wC_seqj, splice_def, Nat.reduceEqDiff, ↓reduceIte, reduceCtorEq, Int.reduceToNat, Nat.reduceAdd, Nat.reduceMul, Int.reduceAdd, Int.reduceSub, Int.reduceLE, Int.reduceLT, Int.reduceNeg, Int.reduceMul, Int.reduceEq, Int.reduceNe, Nat.reduceLeDiff, Nat.reduceSub, f2], by simp only [XX, wC_seq, wC_seqj, splice_def, Nat.reduceEqDiff, ↓reduceIte, reduceCtorEq, Int.reduceToNat, Nat.reduceAdd, Nat.reduceMul, Int.reduceAdd, Int.reduceSub, Int.reduceLE, Int.reduceLT, Int.reduceNeg, Int.reduceMul, Int.reduceEq, Int.reduceNe, Nat.reduceLeDiff, Nat.reduceSub, f7], by simp only [XX, wC_seq, wC_seqj, splice_def, Nat.reduceEqDiff, ↓reduceIte, reduceCtorEq, Int.reduceToNat, Nat.reduceAdd, Nat.reduceMul, Int.reduceAdd, Int.reduceSub, Int.reduceLE, Int.reduceLT, Int.reduceNeg, Int.reduceMul, Int.reduceEq, Int.reduceNe, Nat.reduceLeDiff, Nat.reduceSub, f9], by simp only [XX, wC_seq, wC_seqj, splice_def, Nat.reduceEqDiff, ↓reduceIte, reduceCtorEq, Int.reduceToNat, Nat.reduceAdd, Nat.reduceMul, Int.reduceAdd, Int.reduceSub, Int.reduceLE, Int.reduceLT, Int.reduceNeg, Int.reduceMul, Int.reduceEq, Int.reduceNe, Nat.reduceLeDiff, Nat.reduceSub, f10], by simp only [XX, wC_seq, wC_seqj, splice_def, Nat.reduceEqDiff, ↓reduceIte, reduceCtorEq, Int.reduceToNat, Nat.reduceAdd, Nat.reduceMul, Int.reduceAdd, Int.reduceSub, Int.reduceLE, Int.reduceLT, Int.reduceNeg, Int.reduceMul, Int.reduceEq, Int.reduceNe, Nat.reduceLeDiff, Nat.reduceSub, f11], by simp only [XX, wC_seq, wC_seqj, splice_def, Nat.reduceEqDiff, ↓reduceIte, reduceCtorEq, Int.reduceToNat, Nat.reduceAdd, Nat.reduceMul, Int.reduceAdd, Int.reduceSub, Int.reduceLE, Int.reduceLT, Int.reduceNeg, Int.reduceMul, Int.reduceEq, Int.reduceNe, Nat.reduceLeDiff, Nat.reduceSub, f12]⟩
      · intro fr S' hI2f
        obtain ⟨rfl, f0, f1, f2, f7, f9, f10, f11, f12⟩ := (hI2 _ _).1 hI2f
        have hadd1 : IntKind.i64.wrap ((k : Int) + 1) = ((k + 1 : Nat) : Int) := by rw [i64_in (by omega) (by omega)]; rfl
        cases hb : hasW zs k with
        | false =>
          rw [hb] at f12
          simp only [XX, wC_seq, wC_seqj, splice_def, Nat.reduceEqDiff, ↓reduceIte, reduceCtorEq, Int.reduceToNat, Nat.reduceAdd, Nat.reduceMul, Int.reduceAdd, Int.reduceSub, Int.reduceLE, Int.reduceLT, Int.reduceNeg, Int.reduceMul, Int.reduceEq, Int.reduceNe, Nat.reduceLeDiff, Nat.reduceSub, f12, f11, hadd1]
          have hxs : xsW zs (k + 1) = xsW zs k := by rw [xsW, if_neg (by rw [hb]; simp)]
          exact ⟨8 - (k + 1), by omega, (hL _ _ _).2 ⟨k + 1, t, nv, kv, by omega, by simp only [XX, wC_seq, wC_seqj, splice_def, Nat.reduceEqDiff, ↓reduceIte, reduceCtorEq, Int.reduceToNat, Nat.reduceAdd, Nat.reduceMul, Int.reduceAdd, Int.reduceSub, Int.reduceLE, Int.reduceLT, Int.reduceNeg, Int.reduceMul, Int.reduceEq, Int.reduceNe, Nat.reduceLeDiff, Nat.reduceSub, f0], by simp only [XX, wC_seq, wC_seqj, splice_def, Nat.reduceEqDiff, ↓reduceIte, reduceCtorEq, Int.reduceToNat, Nat.reduceAdd, Nat.reduceMul, Int.reduceAdd, Int.reduceSub, Int.reduceLE, Int.reduceLT, Int.reduceNeg, Int.reduceMul, Int.reduceEq, Int.reduceNe, Nat.reduceLeDiff, Nat.reduceSub, f1], by simp only [XX, wC_seq, wC_seqj, splice_def, Nat.reduceEqDiff, ↓reduceIte, reduceCtorEq, Int.reduceToNat, Nat.reduceAdd, Nat.reduceMul, Int.reduceAdd, Int.reduceSub, Int.reduceLE, Int.reduceLT, Int.reduceNeg, Int.reduceMul, Int.reduceEq, Int.reduceNe, Nat.reduceLeDiff, Nat.reduceSub, f2], by simp only [XX, wC_seq, wC_seqj, splice_def, Nat.reduceEqDiff, ↓reduceIte, reduceCtorEq, Int.reduceToNat, Nat.reduceAdd, Nat.reduceMul, Int.reduceAdd, Int.reduceSub, Int.reduceLE, Int.reduceLT, Int.reduceNeg, Int.reduceMul, Int.reduceEq, Int.reduceNe, Nat.reduceLeDiff, Nat.reduceSub, f7], by simp only [XX, wC_seq, wC_seqj, splice_def, Nat.reduceEqDiff, ↓reduceIte, reduceCtorEq, Int.reduceToNat, Nat.reduceAdd, Nat.reduceMul, Int.reduceAdd, Int.reduceSub, Int.reduceLE, Int.reduceLT, Int.reduceNeg, Int.reduceMul, Int.reduceEq, Int.reduceNe, Nat.reduceLeDiff, Nat.reduceSub, f9], by simp only [XX, wC_seq, wC_seqj, splice_def, Nat.reduceEqDiff, ↓reduceIte, reduceCtorEq, Int.reduceToNat, Nat.reduceAdd, Nat.reduceMul, Int.reduceAdd, Int.reduceSub, Int.reduceLE, Int.reduceLT, Int.reduceNeg, Int.reduceMul, Int.reduceEq, Int.reduceNe, Nat.reduceLeDiff, Nat.reduceSub, f10], by simp only [XX, wC_seq, wC_seqj, splice_def, Nat.reduceEqDiff, ↓reduceIte, reduceCtorEq, Int.reduceToNat, Nat.reduceAdd, Nat.reduceMul, Int.reduceAdd, Int.reduceSub, Int.reduceLE, Int.reduceLT, Int.reduceNeg, Int.reduceMul, Int.reduceEq, Int.reduceNe, Nat.reduceLeDiff, Nat.reduceSub], hg, rx, by rw [hxs]; exact hnv, by rw [hxs]; exact hkv, hap⟩⟩
        | true =>
          rw [hb] at f12
          have hxs : xsW zs (k + 1) = xsW zs k ++ [[UInt8.ofNat (97 + k)]] := by rw [xsW, if_pos hb]
          have hlt : ((([97, 98, 99, 100, 101, 102, 103, 104] : List UInt8).drop k).take (k + 1 - k)) = [UInt8.ofNat (97 + k)] := by
            have : ∀ k : Fin 8, ((([97, 98, 99, 100, 101, 102, 103, 104] : List UInt8).drop k.1).take (k.1 + 1 - k.1)) = [UInt8.ofNat (97 + k.1)] := by decide
            exact this ⟨k, hk⟩
          have hc1 : (0 : Int) ≤ (k : Int) ∧ (k : Int) ≤ ((k + 1 : Nat) : Int) ∧ ((k + 1 : Nat) : Int) ≤ 8 := by omega
          simp only [XX, wC_seq, wC_seqj, splice_def, Nat.reduceEqDiff, ↓reduceIte, reduceCtorEq, Int.reduceToNat, Nat.reduceAdd, Nat.reduceMul, Int.reduceAdd, Int.reduceSub, Int.reduceLE, Int.reduceLT, Int.reduceNeg, Int.reduceMul, Int.reduceEq, Int.reduceNe, Nat.reduceLeDiff, Nat.reduceSub, f12, f11, f10, f9, rx, cutS_both, hadd1, hc1, hlt]
          have hx69 := names_x hnv rx
          have hxk := kids_x hkv rx hkn1
          have gn : ∀ l, Gr S (S.new fun t => .cells t l) := fun l => Gr.new hg.wf (good_cells _)
          have hxr : S.row (up 0 n1) ≠ .none := ne_cells rx
          have hxl := xsW_len zs k
          refine ⟨by omega, ?_⟩
          refine wW_appF (S0 := S1) (hg.trans (gn _)) (hnv.gr (gn _)) (one_at rfl) (fun e he => by rw [List.mem_singleton.1 he]; rfl) (by simp) (by rw [strs_len]; simp; omega) ?_
          intro S3 nv' g3 hnv' keep3
          have keep3' : ∀ p, S.row p ≠ .none → rowOf nv ≠ some p → S3.row p = S.row p := fun p e n => by rw [keep3 p (by rw [(gn _).same p e]; exact e) n, (gn _).same p e]
          have rx3 : S3.row (up 0 n1) = .cells t [.int .i64 kn, ofL [], nv, kv] := by rw [keep3' _ hxr hx69, rx]
          have hkv3 : SlF S1 S3 kv 4 (List.replicate (xsW zs k).length boolW) := hkv.keep fun r hr => by
            obtain ⟨_, t', e'⟩ := hkv.row hr
            exact keep3' r (ne_cells e') fun e => hap r e hr
          have hstr : strs (xsW zs k) ++ [[ofL [UInt8.ofNat (97 + k)]]] = strs (xsW zs (k + 1)) := by rw [hxs]; simp [strs]
          rw [hstr] at hnv'
          have hne : xsW zs (k + 1) ≠ [] := by rw [hxs]; simp
          simp only [XX, wC_seq, wC_seqj, splice_def, Nat.reduceEqDiff, ↓reduceIte, reduceCtorEq, Int.reduceToNat, Nat.reduceAdd, Nat.reduceMul, Int.reduceAdd, Int.reduceSub, Int.reduceLE, Int.reduceLT, Int.reduceNeg, Int.reduceMul, Int.reduceEq, Int.reduceNe, Nat.reduceLeDiff, Nat.reduceSub, f9, rx3]
          have gn3 : ∀ l, Gr S3 (S3.new fun t => .cells t l) := fun l => Gr.new g3.wf (good_cells _)
          refine wW_appF (S0 := S1) (g3.trans (gn3 _)) (hkv3.gr (gn3 _)) (one_at rfl) (fun e he => by rw [List.mem_singleton.1 he]; rfl) (by simp) (by simp; omega) ?_
          intro S5 kv' g5 hkv' keep5
          have keep5' : ∀ p, S3.row p ≠ .none → rowOf kv ≠ some p → S5.row p = S3.row p := fun p e n => by rw [keep5 p (by rw [(gn3 _).same p e]; exact e) n, (gn3 _).same p e]
          have rx5 : S5.row (up 0 n1) = .cells t [.int .i64 kn, ofL [], nv, kv] := by rw [keep5' _ (ne_cells rx3) hxk, rx3]
          have hnv5 : SlF S1 S5 nv' 1 (strs (xsW zs (k + 1))) := hnv'.keep fun r hr => by
            obtain ⟨_, t', e'⟩ := hnv'.row hr
            exact keep5' r (ne_cells e') (rows_apart hnv' hkv3 hne hr)
          have hrep : List.replicate (xsW zs k).length boolW ++ [[V.int .i64 1, ofL [], .snil, .snil]] = List.replicate (xsW zs (k + 1)).length boolW := by
            rw [hxs, List.length_append, List.length_singleton, List.replicate_succ']; rfl
          rw [hrep] at hkv'
          have c5 := hnv5.at.cells; have s5 := hnv5.at.sc
          have c6 := hkv'.at.cells; have s6 := hkv'.at.sc
          simp only [XX, wC_seq, wC_seqj, splice_def, Nat.reduceEqDiff, ↓reduceIte, reduceCtorEq, Int.reduceToNat, Nat.reduceAdd, Nat.reduceMul, Int.reduceAdd, Int.reduceSub, Int.reduceLE, Int.reduceLT, Int.reduceNeg, Int.reduceMul, Int.reduceEq, Int.reduceNe, Nat.reduceLeDiff, Nat.reduceSub, f9, rx5, c5, s5, c6, s6, f11, hadd1]
          refine ⟨apartAll_ok (v := nv) (w := .ptr (up 0 n1) 3) (q := up 0 n1) (by simp only [XX, wC_seq, wC_seqj, splice_def, Nat.reduceEqDiff, ↓reduceIte, reduceCtorEq, Int.reduceToNat, Nat.reduceAdd, Nat.reduceMul, Int.reduceAdd, Int.reduceSub, Int.reduceLE, Int.reduceLT, Int.reduceNeg, Int.reduceMul, Int.reduceEq, Int.reduceNe, Nat.reduceLeDiff, Nat.reduceSub]) (by simp only [XX, wC_seq, wC_seqj, splice_def, Nat.reduceEqDiff, ↓reduceIte, reduceCtorEq, Int.reduceToNat, Nat.reduceAdd, Nat.reduceMul, Int.reduceAdd, Int.reduceSub, Int.reduceLE, Int.reduceLT, Int.reduceNeg, Int.reduceMul, Int.reduceEq, Int.reduceNe, Nat.reduceLeDiff, Nat.reduceSub]) rfl hx69, ?_⟩
          have q0 : S1.row (up 0 n1) = .none := nx0 w1 hn1 0
          have g7 : Gr S1 ((S5.wr (up 0 n1) t fun u => .cells u [.int .i64 kn, ofL [], nv', kv]).wr (up 0 n1) S5.t fun u => .cells u [.int .i64 kn, ofL [], nv', kv']) :=
            (g5.wr q0 (ne_cells rx5) (by rw [rx5]; rfl) (good_cells _)).wr q0 (by rw [row_wr_same]; exact fun e => by cases e) (by rw [row_wr_same]; rfl) (good_cells _)
          have h7 : ∀ r, r ≠ up 0 n1 → ((S5.wr (up 0 n1) t fun u => .cells u [.int .i64 kn, ofL [], nv', kv]).wr (up 0 n1) S5.t fun u => .cells u [.int .i64 kn, ofL [], nv', kv']).row r = S5.row r := fun r n => by rw [row_wr_ne _ _ _ n, row_wr_ne _ _ _ n]
          refine ⟨8 - (k + 1), by omega, (hL _ _ _).2 ⟨k + 1, S5.t + 1, nv', kv', by omega, by simp only [XX, wC_seq, wC_seqj, splice_def, Nat.reduceEqDiff, ↓reduceIte, reduceCtorEq, Int.reduceToNat, Nat.reduceAdd, Nat.reduceMul, Int.reduceAdd, Int.reduceSub, Int.reduceLE, Int.reduceLT, Int.reduceNeg, Int.reduceMul, Int.reduceEq, Int.reduceNe, Nat.reduceLeDiff, Nat.reduceSub, f0], by simp only [XX, wC_seq, wC_seqj, splice_def, Nat.reduceEqDiff, ↓reduceIte, reduceCtorEq, Int.reduceToNat, Nat.reduceAdd, Nat.reduceMul, Int.reduceAdd, Int.reduceSub, Int.reduceLE, Int.reduceLT, Int.reduceNeg, Int.reduceMul, Int.reduceEq, Int.reduceNe, Nat.reduceLeDiff, Nat.reduceSub, f1], by simp only [XX, wC_seq, wC_seqj, splice_def, Nat.reduceEqDiff, ↓reduceIte, reduceCtorEq, Int.reduceToNat, Nat.reduceAdd, Nat.reduceMul, Int.reduceAdd, Int.reduceSub, Int.reduceLE, Int.reduceLT, Int.reduceNeg, Int.reduceMul, Int.reduceEq, Int.reduceNe, Nat.reduceLeDiff, Nat.reduceSub, f2], by simp only [XX, wC_seq, wC_seqj, splice_def, Nat.reduceEqDiff, ↓reduceIte, reduceCtorEq, Int.reduceToNat, Nat.reduceAdd, Nat.reduceMul, Int.reduceAdd, Int.reduceSub, Int.reduceLE, Int.reduceLT, Int.reduceNeg, Int.reduceMul, Int.reduceEq, Int.reduceNe, Nat.reduceLeDiff, Nat.reduceSub, f7], by simp only [XX, wC_seq, wC_seqj, splice_def, Nat.reduceEqDiff, ↓reduceIte, reduceCtorEq, Int.reduceToNat, Nat.reduceAdd, Nat.reduceMul, Int.reduceAdd, Int.reduceSub, Int.reduceLE, Int.reduceLT, Int.reduceNeg, Int.reduceMul, Int.reduceEq, Int.reduceNe, Nat.reduceLeDiff, Nat.reduceSub, f9], by simp only [XX, wC_seq, wC_seqj, splice_def, Nat.reduceEqDiff, ↓reduceIte, reduceCtorEq, Int.reduceToNat, Nat.reduceAdd, Nat.reduceMul, Int.reduceAdd, Int.reduceSub, Int.reduceLE, Int.reduceLT, Int.reduceNeg, Int.reduceMul, Int.reduceEq, Int.reduceNe, Nat.reduceLeDiff, Nat.reduceSub, f10], by simp only [XX, wC_seq, wC_seqj, splice_def, Nat.reduceEqDiff, ↓reduceIte, reduceCtorEq, Int.reduceToNat, Nat.reduceAdd, Nat.reduceMul, Int.reduceAdd, Int.reduceSub, Int.reduceLE, Int.reduceLT, Int.reduceNeg, Int.reduceMul, Int.reduceEq, Int.reduceNe, Nat.reduceLeDiff, Nat.reduceSub], g7, row_wr_same _ _ _ _, hnv5.keep fun r hr => h7 r fun e => ?_, hkv'.keep fun r hr => h7 r fun e => ?_, fun r hr => rows_apart hnv5 hkv' hne hr⟩⟩
          · exact names_x hnv5 rx5 (by rw [← e]; exact hr)
          · exact kids_x hkv' rx5 hkn1 (by rw [← e]; exact hr)
    · have hk' : ¬ (k : Int) < 8 := by omega
      have hke : k = 8 := by omega
      simp only [XX, wC_seq, wC_seqj, splice_def, Nat.reduceEqDiff, ↓reduceIte, reduceCtorEq, Int.reduceToNat, Nat.reduceAdd, Nat.reduceMul, Int.reduceAdd, Int.reduceSub, Int.reduceLE, Int.reduceLT, Int.reduceNeg, Int.reduceMul, Int.reduceEq, Int.reduceNe, Nat.reduceLeDiff, Nat.reduceSub, f11, hk']
      rw [hke] at hnv hkv
      exact (hJ _ _).2 ⟨t, nv, kv, hg, by simp only [XX, wC_seq, wC_seqj, splice_def, Nat.reduceEqDiff, ↓reduceIte, reduceCtorEq, Int.reduceToNat, Nat.reduceAdd, Nat.reduceMul, Int.reduceAdd, Int.reduceSub, Int.reduceLE, Int.reduceLT, Int.reduceNeg, Int.reduceMul, Int.reduceEq, Int.reduceNe, Nat.reduceLeDiff, Nat.reduceSub, f1], by simp only [XX, wC_seq, wC_seqj, splice_def, Nat.reduceEqDiff, ↓reduceIte, reduceCtorEq, Int.reduceToNat, Nat.reduceAdd, Nat.reduceMul, Int.reduceAdd, Int.reduceSub, Int.reduceLE, Int.reduceLT, Int.reduceNeg, Int.reduceMul, Int.reduceEq, Int.reduceNe, Nat.reduceLeDiff, Nat.reduceSub, f2], by simp only [XX, wC_seq, wC_seqj, splice_def, Nat.reduceEqDiff, ↓reduceIte, reduceCtorEq, Int.reduceToNat, Nat.reduceAdd, Nat.reduceMul, Int.reduceAdd, Int.reduceSub, Int.reduceLE, Int.reduceLT, Int.reduceNeg, Int.reduceMul, Int.reduceEq, Int.reduceNe, Nat.reduceLeDiff, Nat.reduceSub, f7], by simp only [XX, wC_seq, wC_seqj, splice_def, Nat.reduceEqDiff, ↓reduceIte, reduceCtorEq, Int.reduceToNat, Nat.reduceAdd, Nat.reduceMul, Int.reduceAdd, Int.reduceSub, Int.reduceLE, Int.reduceLT, Int.reduceNeg, Int.reduceMul, Int.reduceEq, Int.reduceNe, Nat.reduceLeDiff, Nat.reduceSub, f9], rx, hnv, hkv⟩
  intro fr S hJf
  obtain ⟨t, nv, kv, hg, f1, f2, f7, f9, rx, hnv, hkv⟩ := (hJ _ _).1 hJf
  obtain ⟨XS, hXS⟩ : ∃ XS, XS = xsW zs 8 := ⟨_, rfl⟩
  rw [← hXS] at hnv hkv
  have hXl : XS.length ≤ 8 := by rw [hXS]; exact xsW_len zs 8
  have hlen := hnv.at.len
  rw [strs_len] at hlen
  by_cases h2 : XS.length < 2
  · have h2' : (XS.length : Int) < 2 := by omega
    simp only [XX, wC_seq, wC_seqj, splice_def, Nat.reduceEqDiff, ↓reduceIte, reduceCtorEq, Int.reduceToNat, Nat.reduceAdd, Nat.reduceMul, Int.reduceAdd, Int.reduceSub, Int.reduceLE, Int.reduceLT, Int.reduceNeg, Int.reduceMul, Int.reduceEq, Int.reduceNe, Nat.reduceLeDiff, Nat.reduceSub, f9, rx, hlen, h2']
  have h2' : ¬ (XS.length : Int) < 2 := by omega
  rw [wC_seqj, wC_seq]
  simp only [XX, splice_def, Nat.reduceEqDiff, ↓reduceIte, reduceCtorEq, Int.reduceToNat, Nat.reduceAdd, Nat.reduceMul, Int.reduceAdd, Int.reduceSub, Int.reduceLE, Int.reduceLT, Int.reduceNeg, Int.reduceMul, Int.reduceEq, Int.reduceNe, Nat.reduceLeDiff, Nat.reduceSub, f9, rx, hlen, h2']
  rw [wC_seq]
  simp only [XX, splice_def, Nat.reduceEqDiff, ↓reduceIte, reduceCtorEq, Int.reduceToNat, Nat.reduceAdd, Nat.reduceMul, Int.reduceAdd, Int.reduceSub, Int.reduceLE, Int.reduceLT, Int.reduceNeg, Int.reduceMul, Int.reduceEq, Int.reduceNe, Nat.reduceLeDiff, Nat.reduceSub, f1, f9, rx, hlen]
  refine wCall_plain (withinC dr XS.length _ (by omega) (by omega)) ?_
  rintro _ _ ⟨rfl, rfl⟩
  obtain ⟨j, hj⟩ : ∃ j : Nat, dr % (XS.length : Int) = j := ⟨(dr % XS.length).toNat, by have := Int.emod_nonneg dr (show (XS.length : Int) ≠ 0 by omega); omega⟩
  have hjl : j < XS.length := by have := Int.emod_lt_of_pos dr (show (0 : Int) < XS.length by omega); omega
  rw [hj]
  have wS := hg.wf
  obtain ⟨nS, hnS⟩ : ∃ n, S.nx = up 0 n := ⟨_, up0 _⟩
  have oxS := fun k => nes (ne_up wS hnS (ne_cells rx) k)
  simp only [XX, splice_def, Nat.reduceEqDiff, ↓reduceIte, reduceCtorEq, Int.reduceToNat, Nat.reduceAdd, Nat.reduceMul, Int.reduceAdd, Int.reduceSub, Int.reduceLE, Int.reduceLT, Int.reduceNeg, Int.reduceMul, Int.reduceEq, Int.reduceNe, Nat.reduceLeDiff, Nat.reduceSub]
  rw [wC_seq]
  simp only [XX, splice_def, Nat.reduceEqDiff, ↓reduceIte, reduceCtorEq, Int.reduceToNat, Nat.reduceAdd, Nat.reduceMul, Int.reduceAdd, Int.reduceSub, Int.reduceLE, Int.reduceLT, Int.reduceNeg, Int.reduceMul, Int.reduceEq, Int.reduceNe, Nat.reduceLeDiff, Nat.reduceSub, f9, rx, hnS, oxS]
  have gy : Gr S ((S.new fun t => .cells t [.int .i64 0, ofL [], .snil, .snil]).wr (up 0 nS) S.t fun u => .cells u [.int .i64 kn, ofL [], .snil, .snil]) := (Gr.refl wS).nw hnS (good_cells _) (good_cells _)
  obtain ⟨S4, hS4⟩ : ∃ S4, S4 = ((S.new fun t => .cells t [.int .i64 0, ofL [], .snil, .snil]).wr (up 0 nS) S.t fun u => .cells u [.int .i64 kn, ofL [], .snil, .snil]) := ⟨_, rfl⟩
  rw [← hS4] at gy ⊢
  have ry4 : S4.row (up 0 nS) = .cells S.t.succ [.int .i64 kn, ofL [], .snil, .snil] := by rw [hS4]; exact row_wr_same _ _ _ _
  have rx4 := gy.cells rx
  have w4 := gy.wf
  obtain ⟨n4, hn4⟩ : ∃ n, S4.nx = up 0 n := ⟨_, up0 _⟩
  have ox4 := fun k => nes (ne_up w4 hn4 (ne_cells rx4) k)
  have oy4 := fun k => nes (ne_up w4 hn4 (ne_cells ry4) k)
  rw [wC_seq]
  simp only [XX, splice_def, Nat.reduceEqDiff, ↓reduceIte, reduceCtorEq, Int.reduceToNat, Nat.reduceAdd, Nat.reduceMul, Int.reduceAdd, Int.reduceSub, Int.reduceLE, Int.reduceLT, Int.reduceNeg, Int.reduceMul, Int.reduceEq, Int.reduceNe, Nat.reduceLeDiff, Nat.reduceSub, f9, hn4, ox4, rx4]
  have hsl : (strs XS).length = XS.length := strs_len _
  obtain ⟨va, hva, sa, _⟩ := cut_hi hnv.at (k := j) (by omega)
  obtain ⟨vb, hvb, sb, _⟩ := cut_lo hnv.at (k := j + 1) (by omega)
  have hva' : ∀ S', cutLV S' 1 nv none (some (.int .i64 (j : Int))) none = some (va, .no) := fun _ => hva
  have hvb' : ∀ S', cutLV S' 1 nv (some (.int .i64 ((j + 1 : Nat) : Int))) none none = some (vb, .no) := fun _ => hvb
  have hj1 : IntKind.i64.wrap ((j : Int) + 1) = ((j + 1 : Nat) : Int) := by rw [i64_in (by omega) (by omega)]; rfl
  have gq : Gr S4 (S4.new fun t => .cells t []) := Gr.new w4 (good_cells _)
  have hq : SlF S4 (S4.new fun t => .cells t []) (.slx (up 0 n4) 0 0 1 0) 1 [] := ⟨by simp, .inr ⟨up 0 n4, S4.t, nx0 w4 hn4 0, by simp only [XX, wC_seq, wC_seqj, splice_def, Nat.reduceEqDiff, ↓reduceIte, reduceCtorEq, Int.reduceToNat, Nat.reduceAdd, Nat.reduceMul, Int.reduceAdd, Int.reduceSub, Int.reduceLE, Int.reduceLT, Int.reduceNeg, Int.reduceMul, Int.reduceEq, Int.reduceNe, Nat.reduceLeDiff, Nat.reduceSub, hn4]; rfl, .inr rfl⟩⟩
  simp only [XX, splice_def, Nat.reduceEqDiff, ↓reduceIte, reduceCtorEq, Int.reduceToNat, Nat.reduceAdd, Nat.reduceMul, Int.reduceAdd, Int.reduceSub, Int.reduceLE, Int.reduceLT, Int.reduceNeg, Int.reduceMul, Int.reduceEq, Int.reduceNe, Nat.reduceLeDiff, Nat.reduceSub, hva']
  have hokt : ∀ k, okC ((strs XS).take k) := fun k e he => strs_ok XS e (List.mem_of_mem_take he)
  have hokd : ∀ k, okC ((strs XS).drop k) := fun k e he => strs_ok XS e (List.mem_of_mem_drop he)
  refine wW_appF (S0 := S4) gq hq ((sa.gr gy).gr gq) (hokt j) (by rw [List.length_take]; omega) (by rw [List.length_take]; simp; omega) ?_
  intro S5 v5 g5 h5 _
  have rx5 := g5.cells rx4
  simp only [XX, splice_def, Nat.reduceEqDiff, ↓reduceIte, reduceCtorEq, Int.reduceToNat, Nat.reduceAdd, Nat.reduceMul, Int.reduceAdd, Int.reduceSub, Int.reduceLE, Int.reduceLT, Int.reduceNeg, Int.reduceMul, Int.reduceEq, Int.reduceNe, Nat.reduceLeDiff, Nat.reduceSub, f9, rx5, hj1, hvb']
  refine wW_appF (S0 := S4) g5 h5 ((sb.gr gy).gr g5) (hokd (j + 1)) (by rw [List.length_drop]; omega) (by rw [List.length_drop, List.length_append, List.length_take]; simp; omega) ?_
  intro S6 v6 g6 h6 _
  rw [List.nil_append] at h6
  have ry6 := g6.cells ry4
  have rx6 := g6.cells rx4
  have oxy := nes (show up 0 n1 ≠ up 0 nS from ne_up wS hnS (ne_cells rx) 0)
  have c6 := h6.at.cells; have s6 := h6.at.sc
  simp only [XX, splice_def, Nat.reduceEqDiff, ↓reduceIte, reduceCtorEq, Int.reduceToNat, Nat.reduceAdd, Nat.reduceMul, Int.reduceAdd, Int.reduceSub, Int.reduceLE, Int.reduceLT, Int.reduceNeg, Int.reduceMul, Int.reduceEq, Int.reduceNe, Nat.reduceLeDiff, Nat.reduceSub, ry6, c6, s6]
  refine ⟨apartAll_ok (v := .slx (up 0 n4) 0 0 1 0) (w := .ptr (up 0 n1) 2) (q := up 0 n1) (by simp only [XX, wC_seq, wC_seqj, splice_def, Nat.reduceEqDiff, ↓reduceIte, reduceCtorEq, Int.reduceToNat, Nat.reduceAdd, Nat.reduceMul, Int.reduceAdd, Int.reduceSub, Int.reduceLE, Int.reduceLT, Int.reduceNeg, Int.reduceMul, Int.reduceEq, Int.reduceNe, Nat.reduceLeDiff, Nat.reduceSub]) (by simp only [XX, wC_seq, wC_seqj, splice_def, Nat.reduceEqDiff, ↓reduceIte, reduceCtorEq, Int.reduceToNat, Nat.reduceAdd, Nat.reduceMul, Int.reduceAdd, Int.reduceSub, Int.reduceLE, Int.reduceLT, Int.reduceNeg, Int.reduceMul, Int.reduceEq, Int.reduceNe, Nat.reduceLeDiff, Nat.reduceSub, f9]) rfl (fun e => by injection e with e; exact ne_up w4 hn4 (ne_cells rx4) 0 e.symm), ?_⟩
  obtain ⟨S7, hS7⟩ : ∃ S7, S7 = (S6.wr (up 0 nS) S.t.succ fun u => .cells u [.int .i64 kn, ofL [], v6, .snil]) := ⟨_, rfl⟩
  have qy : S.row (up 0 nS) = .none := nx0 wS hnS 0
  have G6 : Gr S S6 := gy.trans g6
  have G7 : Gr S S7 := by rw [hS7]; exact G6.wr qy (ne_cells ry6) (by rw [ry6]; rfl) (good_cells _)
  rw [← hS7]
  have ry7 : S7.row (up 0 nS) = .cells S6.t [.int .i64 kn, ofL [], v6, .snil] := by rw [hS7]; exact row_wr_same _ _ _ _
  have rx7 := G7.cells rx
  have h7 : SlF S4 S7 v6 1 ((strs XS).take j ++ (strs XS).drop (j + 1)) := h6.keep fun r hr => by
    rw [hS7]
    exact row_wr_ne _ _ _ fun e => by
      obtain ⟨q, _⟩ := h6.row hr
      rw [e, ry4] at q; cases q
  have hkl := hkv.at.len
  obtain ⟨vk, hvk, sk, _⟩ := cut_lo hkv.at (k := 1) (by simp; omega)
  have hvk' : ∀ S', cutLV S' 4 kv (some (.int .i64 1)) none none = some (vk, .no) := fun _ => hvk
  rw [wC_seq]
  simp only [XX, splice_def, Nat.reduceEqDiff, ↓reduceIte, reduceCtorEq, Int.reduceToNat, Nat.reduceAdd, Nat.reduceMul, Int.reduceAdd, Int.reduceSub, Int.reduceLE, Int.reduceLT, Int.reduceNeg, Int.reduceMul, Int.reduceEq, Int.reduceNe, Nat.reduceLeDiff, Nat.reduceSub, f9, rx7, ry7, hvk', sk.cells, sk.sc]
  obtain ⟨S8, hS8⟩ : ∃ S8, S8 = (S7.wr (up 0 nS) S6.t fun u => .cells u [.int .i64 kn, ofL [], v6, vk]) := ⟨_, rfl⟩
  rw [← hS8]
  have G8 : Gr S S8 := by rw [hS8]; exact G7.wr qy (ne_cells ry7) (by rw [ry7]; rfl) (good_cells _)
  have GG : Gr S1 S8 := hg.trans G8
  have rx8 := G8.cells rx
  have ry8 : S8.row (up 0 nS) = .cells S7.t [.int .i64 kn, ofL [], v6, vk] := by rw [hS8]; exact row_wr_same _ _ _ _
  have h8 : SlF S4 S8 v6 1 ((strs XS).take j ++ (strs XS).drop (j + 1)) := h7.keep fun r hr => by
    rw [hS8]
    exact row_wr_ne _ _ _ fun e => by
      obtain ⟨q, _⟩ := h7.row hr
      rw [e, ry4] at q; cases q
  have hP4 : ∀ r, S4.row r = .none → S1.row r = .none := fun r h => Ch.fresh (Ch.of (fun _ => False) (hg.trans gy)) h
  have bt : ∀ (P : Pt → Prop) (S : St), TyC P S boolW (.mk 1 [] [] []) := fun P S => .mk (es := []) (SlAt.nil _ _ _) (SlAt.nil _ _ _) rfl fun i h => absurd h (by simp)
  have hX : TyC (fun r => S1.row r = .none) S8 [.int .i64 kn, ofL [], nv, kv] (.mk kn [] XS (List.replicate XS.length (.mk 1 [] [] []))) :=
    .mk (es := List.replicate XS.length boolW) (hnv.at.gr G8) (hkv.at.gr G8) (by simp) fun i h h' => by simp only [List.getElem_replicate]; exact bt _ _
  have hstr : (strs XS).take j ++ (strs XS).drop (j + 1) = strs (XS.take j ++ XS.drop (j + 1)) := by simp [strs]
  have hY : TyC (fun r => S1.row r = .none) S8 [.int .i64 kn, ofL [], v6, vk] (.mk kn [] (XS.take j ++ XS.drop (j + 1)) (List.replicate (XS.length - 1) (.mk 1 [] [] []))) := by
    refine .mk (es := List.replicate (XS.length - 1) boolW) ?_ ?_ (by simp) fun i h h' => by simp only [List.getElem_replicate]; exact bt _ _
    · rw [← hstr]; exact h8.at.imp fun r p _ => ⟨hP4 r p, rfl⟩
    · have := sk.gr G8; rwa [List.drop_replicate] at this
  have hPW : ∀ r, S1.row r = .none → ¬ W r := fun r h w => by obtain ⟨_, _, _, _, _, _, hT0⟩ := hT; exact hT0.own r w h
  have hlaw := law_of (xs := XS) (j := j) (u := u) (by rw [hXS]; exact xsW_law zs j u (by rw [← hXS]; exact h2) (by rw [← hXS]; exact hjl))
  have hkn' : kn = kdW u := by rw [hkn]
  subst hkn'
  obtain ⟨p, q, r, s, hp, hq, hr, hs, hpq, l1, l2, l3⟩ := hlaw
  rw [wC_seq]
  simp only [XX, splice_def, Nat.reduceEqDiff, ↓reduceIte, reduceCtorEq, Int.reduceToNat, Nat.reduceAdd, Nat.reduceMul, Int.reduceAdd, Int.reduceSub, Int.reduceLE, Int.reduceLT, Int.reduceNeg, Int.reduceMul, Int.reduceEq, Int.reduceNe, Nat.reduceLeDiff, Nat.reduceSub, f7, f9, rx8]
  refine wCall_plain (addTop GG.wf (hT.gr GG) hX hPW) ?_
  rintro _ S9 ⟨c9, ⟨W9, F9, a1, a2, a3, T9⟩, rfl⟩
  have nxW : ∀ {r}, S1.row r = .none → S8.row r ≠ .none → ¬ W9 r := fun h e w => by rcases a2 _ w with w | w; exact hPW _ h w; exact e w
  have ry9 : S9.row (up 0 nS) = .cells S7.t [.int .i64 (kdW u), ofL [], v6, vk] := by rw [c9.same _ (ne_cells ry8) (hPW _ (Ch.fresh (Ch.of (fun _ => False) hg) qy)), ry8]
  simp only [XX, splice_def, Nat.reduceEqDiff, ↓reduceIte, reduceCtorEq, Int.reduceToNat, Nat.reduceAdd, Nat.reduceMul, Int.reduceAdd, Int.reduceSub, Int.reduceLE, Int.reduceLT, Int.reduceNeg, Int.reduceMul, Int.reduceEq, Int.reduceNe, Nat.reduceLeDiff, Nat.reduceSub]
  rw [wC_seq]
  simp only [XX, splice_def, Nat.reduceEqDiff, ↓reduceIte, reduceCtorEq, Int.reduceToNat, Nat.reduceAdd, Nat.reduceMul, Int.reduceAdd, Int.reduceSub, Int.reduceLE, Int.reduceLT, Int.reduceNeg, Int.reduceMul, Int.reduceEq, Int.reduceNe, Nat.reduceLeDiff, Nat.reduceSub, f7, ry9]
  have hY9 : TyC (fun r => S1.row r = .none ∧ S8.row r ≠ .none) S9 [.int .i64 (kdW u), ofL [], v6, vk] _ := hY.imp fun r p e => ⟨⟨p, e⟩, c9.same r e (hPW r p)⟩
  refine wCall_plain (addTop c9.wf T9 hY9 fun r p => nxW p.1 p.2) ?_
  rintro _ S10 ⟨c10, ⟨W10, F10, a4, a5, a6, T10⟩, rfl⟩
  simp only [XX, splice_def, Nat.reduceEqDiff, ↓reduceIte, reduceCtorEq, Int.reduceToNat, Nat.reduceAdd, Nat.reduceMul, Int.reduceAdd, Int.reduceSub, Int.reduceLE, Int.reduceLT, Int.reduceNeg, Int.reduceMul, Int.reduceEq, Int.reduceNe, Nat.reduceLeDiff, Nat.reduceSub]
  rw [wC_seq]
  simp only [XX, splice_def, Nat.reduceEqDiff, ↓reduceIte, reduceCtorEq, Int.reduceToNat, Nat.reduceAdd, Nat.reduceMul, Int.reduceAdd, Int.reduceSub, Int.reduceLE, Int.reduceLT, Int.reduceNeg, Int.reduceMul, Int.reduceEq, Int.reduceNe, Nat.reduceLeDiff, Nat.reduceSub, f7]
  refine wCall_plain (optC _ c10.wf T10) ?_
  rintro _ S11 ⟨c11, ⟨W11, F11, a7, a8, a9, T11⟩, rfl⟩
  simp only [XX, splice_def, Nat.reduceEqDiff, ↓reduceIte, reduceCtorEq, Int.reduceToNat, Nat.reduceAdd, Nat.reduceMul, Int.reduceAdd, Int.reduceSub, Int.reduceLE, Int.reduceLT, Int.reduceNeg, Int.reduceMul, Int.reduceEq, Int.reduceNe, Nat.reduceLeDiff, Nat.reduceSub]
  rw [wC_seq]
  simp only [XX, splice_def, Nat.reduceEqDiff, ↓reduceIte, reduceCtorEq, Int.reduceToNat, Nat.reduceAdd, Nat.reduceMul, Int.reduceAdd, Int.reduceSub, Int.reduceLE, Int.reduceLT, Int.reduceNeg, Int.reduceMul, Int.reduceEq, Int.reduceNe, Nat.reduceLeDiff, Nat.reduceSub, f7]
  refine wCall_plain (leC c11.wf T11 l1 l2 hp) ?_
  rintro _ S12 ⟨g12, rfl⟩
  simp only [XX, splice_def, Nat.reduceEqDiff, ↓reduceIte, reduceCtorEq, Int.reduceToNat, Nat.reduceAdd, Nat.reduceMul, Int.reduceAdd, Int.reduceSub, Int.reduceLE, Int.reduceLT, Int.reduceNeg, Int.reduceMul, Int.reduceEq, Int.reduceNe, Nat.reduceLeDiff, Nat.reduceSub]
  rw [wC_seq]
  simp only [XX, splice_def, Nat.reduceEqDiff, ↓reduceIte, reduceCtorEq, Int.reduceToNat, Nat.reduceAdd, Nat.reduceMul, Int.reduceAdd, Int.reduceSub, Int.reduceLE, Int.reduceLT, Int.reduceNeg, Int.reduceMul, Int.reduceEq, Int.reduceNe, Nat.reduceLeDiff, Nat.reduceSub, f7]
  refine wCall_plain (leC g12.wf (T11.gr g12) l2 l1 hq) ?_
  rintro _ S13 ⟨g13, rfl⟩
  simp only [XX, splice_def, Nat.reduceEqDiff, ↓reduceIte, reduceCtorEq, Int.reduceToNat, Nat.reduceAdd, Nat.reduceMul, Int.reduceAdd, Int.reduceSub, Int.reduceLE, Int.reduceLT, Int.reduceNeg, Int.reduceMul, Int.reduceEq, Int.reduceNe, Nat.reduceLeDiff, Nat.reduceSub]
  rw [wC_seq]
  simp only [XX, splice_def, Nat.reduceEqDiff, ↓reduceIte, reduceCtorEq, Int.reduceToNat, Nat.reduceAdd, Nat.reduceMul, Int.reduceAdd, Int.reduceSub, Int.reduceLE, Int.reduceLT, Int.reduceNeg, Int.reduceMul, Int.reduceEq, Int.reduceNe, Nat.reduceLeDiff, Nat.reduceSub, f7]
  refine wCall_plain (leC g13.wf ((T11.gr g12).gr g13) l1 l3 hr) ?_
  rintro _ S14 ⟨g14, rfl⟩
  simp only [XX, splice_def, Nat.reduceEqDiff, ↓reduceIte, reduceCtorEq, Int.reduceToNat, Nat.reduceAdd, Nat.reduceMul, Int.reduceAdd, Int.reduceSub, Int.reduceLE, Int.reduceLT, Int.reduceNeg, Int.reduceMul, Int.reduceEq, Int.reduceNe, Nat.reduceLeDiff, Nat.reduceSub]
  rw [wC_seq]
  simp only [XX, splice_def, Nat.reduceEqDiff, ↓reduceIte, reduceCtorEq, Int.reduceToNat, Nat.reduceAdd, Nat.reduceMul, Int.reduceAdd, Int.reduceSub, Int.reduceLE, Int.reduceLT, Int.reduceNeg, Int.reduceMul, Int.reduceEq, Int.reduceNe, Nat.reduceLeDiff, Nat.reduceSub, f7]
  refine wCall_plain (leC g14.wf (((T11.gr g12).gr g13).gr g14) l3 l1 hs) ?_
  rintro _ S15 ⟨g15, rfl⟩
  by_cases c : kd.tmod 2 = 1
  · have hu' : u = true := by rw [hu]; exact decide_eq_true c
    rw [hu'] at hpq
    obtain ⟨e1, e2, e3, e4⟩ := hpq
    simp only [if_true] at e1 e2
    simp only [XX, wC_seq, wC_seqj, splice_def, Nat.reduceEqDiff, ↓reduceIte, reduceCtorEq, Int.reduceToNat, Nat.reduceAdd, Nat.reduceMul, Int.reduceAdd, Int.reduceSub, Int.reduceLE, Int.reduceLT, Int.reduceNeg, Int.reduceMul, Int.reduceEq, Int.reduceNe, Nat.reduceLeDiff, Nat.reduceSub, f2, two, c, e1, e2, e3, e4]
  · have hu' : u = false := by rw [hu]; exact decide_eq_false c
    rw [hu'] at hpq
    obtain ⟨e1, e2, e3, e4⟩ := hpq
    simp only [Bool.false_eq_true, if_false] at e1 e2
    simp only [XX, wC_seq, wC_seqj, splice_def, Nat.reduceEqDiff, ↓reduceIte, reduceCtorEq, Int.reduceToNat, Nat.reduceAdd, Nat.reduceMul, Int.reduceAdd, Int.reduceSub, Int.reduceLE, Int.reduceLT, Int.reduceNeg, Int.reduceMul, Int.reduceEq, Int.reduceNe, Nat.reduceLeDiff, Nat.reduceSub, f2, two, c, e1, e2, e3, e4]
end Go.Proofs.Ytjblgoefcobkgaa
