/- 'SubKinds': what it answers (under way). -/
import Derived.Test.YtjblgoefcobkgaaNew0
import Derived.Test.YtjblgoefcobkgaaTree
import Derived.Test.YtjblgoefcobkgaaKnown6
import Derived.Test.YtjblgoefcobkgaaEveI
namespace Go.Proofs.Ytjblgoefcobkgaa
open Eva Go.RowKit
set_option maxRecDepth 100000
set_option linter.unusedSimpArgs false
set_option linter.unusedVariables false
def intS : Sch := ⟨.mk 2 [] [] [], [], []⟩
theorem new_int : newS intS = (some tb0, 0) := by kernel_rfl
set_option maxHeartbeats 4000000 in
theorem kindsC (st : St) (hw : WF st) (e1 e2 : List V) (q1 q2 : Rw) {P : Pt → Prop} (h1 : RwC P st e1 q1) (h2 : RwC P st e2 q2) :
    Does (tabT tabD) n_spruelaw6_SubKinds [.agg e1, .agg e2] st fun v' _ => v' = .bool true := by
  refine does_fn at_spruelaw6_SubKinds rfl ?_
  obtain ⟨n0, hn0⟩ : ∃ n, st.nx = up 0 n := ⟨_, up0 _⟩
  have g1 := h1
  have g2 := h2
  obtain ⟨nv1, kv1, es1, rfl, _, _, _, a1, a2, _, _, _⟩ := h1.inv
  obtain ⟨nv2, kv2, es2, rfl, _, _, _, b1, b2, _, _, _⟩ := h2.inv
  have c1 := a1.cells
  have s1 := a1.sc
  have c2 := a2.cells
  have s2 := a2.sc
  have c3 := b1.cells
  have s3 := b1.sc
  have c4 := b2.cells
  have s4 := b2.sc
  obtain ⟨p1, hp1⟩ : ∃ b, b = up 0 n0 := ⟨_, rfl⟩
  obtain ⟨p2, hp2⟩ : ∃ b, b = up 1 n0 := ⟨_, rfl⟩
  obtain ⟨I, hI⟩ : ∃ I : Fr → St → Prop, ∀ fr S, I fr S ↔ (fr 2 = .ptr p1 0 ∧ fr 3 = .ptr p2 0 ∧ Gr st S ∧ (∃ t, S.row p1 = .cells t [.int .i64 q1.kind, .int .i64 q1.n, nv1, kv1]) ∧ (∃ t, S.row p2 = .cells t [.int .i64 q2.kind, .int .i64 q2.n, nv2, kv2])) := ⟨_, fun _ _ => Iff.rfl⟩
  simp only [cf_spruelaw6_SubKinds, XX, splice_def, Nat.reduceEqDiff, ↓reduceIte, reduceCtorEq, Int.reduceToNat, Nat.reduceAdd, Nat.reduceMul, Int.reduceAdd, Int.reduceSub, Int.reduceLE, Int.reduceLT, Int.reduceNeg, Int.reduceMul, Int.reduceEq, Int.reduceNe, Nat.reduceLeDiff, Nat.reduceSub]
  refine wC_scut I ?_ ?_
  · simp only [XX, wC_seq, wC_seqj, splice_def, Nat.reduceEqDiff, ↓reduceIte, reduceCtorEq, Int.reduceToNat, Nat.reduceAdd, Nat.reduceMul, Int.reduceAdd, Int.reduceSub, Int.reduceLE, Int.reduceLT, Int.reduceNeg, Int.reduceMul, Int.reduceEq, Int.reduceNe, Nat.reduceLeDiff, Nat.reduceSub, hn0, c1, s1, c2, s2, c3, s3, c4, s4]
    exact (hI _ _).2 ⟨by simp only [XX, wC_seq, wC_seqj, splice_def, Nat.reduceEqDiff, ↓reduceIte, reduceCtorEq, Int.reduceToNat, Nat.reduceAdd, Nat.reduceMul, Int.reduceAdd, Int.reduceSub, Int.reduceLE, Int.reduceLT, Int.reduceNeg, Int.reduceMul, Int.reduceEq, Int.reduceNe, Nat.reduceLeDiff, Nat.reduceSub, hp1], by simp only [XX, wC_seq, wC_seqj, splice_def, Nat.reduceEqDiff, ↓reduceIte, reduceCtorEq, Int.reduceToNat, Nat.reduceAdd, Nat.reduceMul, Int.reduceAdd, Int.reduceSub, Int.reduceLE, Int.reduceLT, Int.reduceNeg, Int.reduceMul, Int.reduceEq, Int.reduceNe, Nat.reduceLeDiff, Nat.reduceSub, hp2], ((Gr.refl hw).nn (good_cells _)).nn (good_cells _), ⟨_, by rw [hp1]; simp only [XX, wC_seq, wC_seqj, splice_def, Nat.reduceEqDiff, ↓reduceIte, reduceCtorEq, Int.reduceToNat, Nat.reduceAdd, Nat.reduceMul, Int.reduceAdd, Int.reduceSub, Int.reduceLE, Int.reduceLT, Int.reduceNeg, Int.reduceMul, Int.reduceEq, Int.reduceNe, Nat.reduceLeDiff, Nat.reduceSub, hn0]; rfl⟩, ⟨_, by rw [hp2]; simp only [XX, wC_seq, wC_seqj, splice_def, Nat.reduceEqDiff, ↓reduceIte, reduceCtorEq, Int.reduceToNat, Nat.reduceAdd, Nat.reduceMul, Int.reduceAdd, Int.reduceSub, Int.reduceLE, Int.reduceLT, Int.reduceNeg, Int.reduceMul, Int.reduceEq, Int.reduceNe, Nat.reduceLeDiff, Nat.reduceSub, hn0]; rfl⟩⟩
  intro fr S0 hIf
  obtain ⟨f2, f3, G0, ⟨t1, r1⟩, ⟨t2, r2⟩⟩ := (hI _ _).1 hIf
  rw [wC_seqj, wC_seq]; simp only [XX, wC_seq, wC_seqj, splice_def, Nat.reduceEqDiff, ↓reduceIte, reduceCtorEq, Int.reduceToNat, Nat.reduceAdd, Nat.reduceMul, Int.reduceAdd, Int.reduceSub, Int.reduceLE, Int.reduceLT, Int.reduceNeg, Int.reduceMul, Int.reduceEq, Int.reduceNe, Nat.reduceLeDiff, Nat.reduceSub]
  refine wCall_plain (knownC S0 G0.wf) ?_
  rintro _ S0 ⟨gk, rfl⟩
  have G0 := G0.trans gk
  have r1 := gk.cells r1
  have r2 := gk.cells r2
  simp only [XX, splice_def, Nat.reduceEqDiff, ↓reduceIte, reduceCtorEq, Int.reduceToNat, Nat.reduceAdd, Nat.reduceMul, Int.reduceAdd, Int.reduceSub, Int.reduceLE, Int.reduceLT, Int.reduceNeg, Int.reduceMul, Int.reduceEq, Int.reduceNe, Nat.reduceLeDiff, Nat.reduceSub]
  obtain ⟨J, hJ⟩ : ∃ J : Fr → St → Prop, ∀ fr S, J fr S ↔ (fr 2 = .ptr p1 0 ∧ fr 3 = .ptr p2 0 ∧ Gr S0 S) := ⟨_, fun _ _ => Iff.rfl⟩
  refine wC_cut J ?_ ?_
  · rw [wC_seq]; simp only [XX, splice_def, Nat.reduceEqDiff, ↓reduceIte, reduceCtorEq, Int.reduceToNat, Nat.reduceAdd, Nat.reduceMul, Int.reduceAdd, Int.reduceSub, Int.reduceLE, Int.reduceLT, Int.reduceNeg, Int.reduceMul, Int.reduceEq, Int.reduceNe, Nat.reduceLeDiff, Nat.reduceSub, f2, f3, r1, r2]
    refine wCall_plain (fewC g1 _ G0 30 (by decide) (by decide)) ?_
    rintro _ S1 ⟨gf1, m1, rfl, _, _⟩
    by_cases hm1 : m1 = 0
    · simp only [XX, wC_seq, wC_seqj, splice_def, Nat.reduceEqDiff, ↓reduceIte, reduceCtorEq, Int.reduceToNat, Nat.reduceAdd, Nat.reduceMul, Int.reduceAdd, Int.reduceSub, Int.reduceLE, Int.reduceLT, Int.reduceNeg, Int.reduceMul, Int.reduceEq, Int.reduceNe, Nat.reduceLeDiff, Nat.reduceSub, hm1]
    have r2' := gf1.cells r2
    simp only [XX, wC_seq, wC_seqj, splice_def, Nat.reduceEqDiff, ↓reduceIte, reduceCtorEq, Int.reduceToNat, Nat.reduceAdd, Nat.reduceMul, Int.reduceAdd, Int.reduceSub, Int.reduceLE, Int.reduceLT, Int.reduceNeg, Int.reduceMul, Int.reduceEq, Int.reduceNe, Nat.reduceLeDiff, Nat.reduceSub, hm1, f2, f3, r2']
    refine wCall_plain (fewC g2 _ (G0.trans gf1) 30 (by decide) (by decide)) ?_
    rintro _ S2 ⟨gf2, m2, rfl, _, _⟩
    by_cases hm2 : m2 = 0
    · simp only [XX, wC_seq, wC_seqj, splice_def, Nat.reduceEqDiff, ↓reduceIte, reduceCtorEq, Int.reduceToNat, Nat.reduceAdd, Nat.reduceMul, Int.reduceAdd, Int.reduceSub, Int.reduceLE, Int.reduceLT, Int.reduceNeg, Int.reduceMul, Int.reduceEq, Int.reduceNe, Nat.reduceLeDiff, Nat.reduceSub, hm2]
    simp only [XX, wC_seq, wC_seqj, splice_def, Nat.reduceEqDiff, ↓reduceIte, reduceCtorEq, Int.reduceToNat, Nat.reduceAdd, Nat.reduceMul, Int.reduceAdd, Int.reduceSub, Int.reduceLE, Int.reduceLT, Int.reduceNeg, Int.reduceMul, Int.reduceEq, Int.reduceNe, Nat.reduceLeDiff, Nat.reduceSub, hm2]
    exact (hJ _ _).2 ⟨by simp only [XX, wC_seq, wC_seqj, splice_def, Nat.reduceEqDiff, ↓reduceIte, reduceCtorEq, Int.reduceToNat, Nat.reduceAdd, Nat.reduceMul, Int.reduceAdd, Int.reduceSub, Int.reduceLE, Int.reduceLT, Int.reduceNeg, Int.reduceMul, Int.reduceEq, Int.reduceNe, Nat.reduceLeDiff, Nat.reduceSub, f2], by simp only [XX, wC_seq, wC_seqj, splice_def, Nat.reduceEqDiff, ↓reduceIte, reduceCtorEq, Int.reduceToNat, Nat.reduceAdd, Nat.reduceMul, Int.reduceAdd, Int.reduceSub, Int.reduceLE, Int.reduceLT, Int.reduceNeg, Int.reduceMul, Int.reduceEq, Int.reduceNe, Nat.reduceLeDiff, Nat.reduceSub, f3], gf1.trans gf2⟩
  clear f2 f3 hIf
  intro fr S1 hJf
  obtain ⟨f2, f3, G01⟩ := (hJ _ _).1 hJf
  have G1 := G0.trans G01
  have r1 := G01.cells r1
  have r2 := G01.cells r2
  rw [wC_seq]; simp only [XX, splice_def, Nat.reduceEqDiff, ↓reduceIte, reduceCtorEq, Int.reduceToNat, Nat.reduceAdd, Nat.reduceMul, Int.reduceAdd, Int.reduceSub, Int.reduceLE, Int.reduceLT, Int.reduceNeg, Int.reduceMul, Int.reduceEq, Int.reduceNe, Nat.reduceLeDiff, Nat.reduceSub]
  refine wCall_plain (new0 (P := fun _ => True) (s := intS) G1.wf ⟨_, .snil, .snil, rfl, .mk (es := []) (SlAt.nil _ _ _) (SlAt.nil _ _ _) rfl fun i h => absurd h (by simp), ⟨[], SlAt.nil _ _ _, rfl, fun i h => absurd h (by simp)⟩, ⟨[], SlAt.nil _ _ _, rfl, fun i h => absurd h (by simp)⟩⟩ rfl rfl) ?_
  rintro vt S2 ⟨gn, hpost⟩
  rw [new_int] at hpost
  obtain ⟨rt, W, F, rfl, hT, hfresh⟩ := hpost
  simp only [XX, splice_def, Nat.reduceEqDiff, ↓reduceIte, reduceCtorEq, Int.reduceToNat, Nat.reduceAdd, Nat.reduceMul, Int.reduceAdd, Int.reduceSub, Int.reduceLE, Int.reduceLT, Int.reduceNeg, Int.reduceMul, Int.reduceEq, Int.reduceNe, Nat.reduceLeDiff, Nat.reduceSub]
  have G2 := G1.trans gn
  have r1 := gn.cells r1
  have r2 := gn.cells r2
  rw [wC_seq]; simp only [XX, splice_def, Nat.reduceEqDiff, ↓reduceIte, reduceCtorEq, Int.reduceToNat, Nat.reduceAdd, Nat.reduceMul, Int.reduceAdd, Int.reduceSub, Int.reduceLE, Int.reduceLT, Int.reduceNeg, Int.reduceMul, Int.reduceEq, Int.reduceNe, Nat.reduceLeDiff, Nat.reduceSub, f2, f3, r1, r2]
  have T3 : TreeAt [] 3 := treeC [] (by decide) 2 (by decide)
  have wl2 := G2.wf
  refine wCall_marked (T3 (wf_low G2.wf S2.t) ((g1.gr G2).imp fun r p _ => ⟨p, rfl⟩) (SlAt.nil (fun _ => False) _ _)) ?_
  rintro _ S3 gt1 ⟨x, rfl, hx⟩
  have r2 := gt1.cells r2
  simp only [XX, splice_def, Nat.reduceEqDiff, ↓reduceIte, reduceCtorEq, Int.reduceToNat, Nat.reduceAdd, Nat.reduceMul, Int.reduceAdd, Int.reduceSub, Int.reduceLE, Int.reduceLT, Int.reduceNeg, Int.reduceMul, Int.reduceEq, Int.reduceNe, Nat.reduceLeDiff, Nat.reduceSub, f3, r2]
  refine wCall_marked (T3 (wf_low (G2.trans gt1).wf S3.t) ((g2.gr (G2.trans gt1)).imp fun r p _ => ⟨p, rfl⟩) (SlAt.nil (fun _ => False) _ _)) ?_
  rintro _ S4 gt2 ⟨y, rfl, hy⟩
  obtain ⟨xn, xk, xe, rfl, u1, u2, u3, u4⟩ := hx.inv
  obtain ⟨yn, yk, ye, rfl, v1, v2, v3, v4⟩ := hy.inv
  have d1 := u1.cells
  have d2 := u1.sc
  have d3 := u2.cells
  have d4 := u2.sc
  have d5 := v1.cells
  have d6 := v1.sc
  have d7 := v2.cells
  have d8 := v2.sc
  obtain ⟨n4, hn4⟩ : ∃ n, S4.nx = up 0 n := ⟨_, up0 _⟩
  simp only [XX, splice_def, Nat.reduceEqDiff, ↓reduceIte, reduceCtorEq, Int.reduceToNat, Nat.reduceAdd, Nat.reduceMul, Int.reduceAdd, Int.reduceSub, Int.reduceLE, Int.reduceLT, Int.reduceNeg, Int.reduceMul, Int.reduceEq, Int.reduceNe, Nat.reduceLeDiff, Nat.reduceSub, hn4, d1, d2, d3, d4, d5, d6, d7, d8, apartAll_nil]
  obtain ⟨X, hX⟩ : ∃ X, X = treeS [] 3 q1 := ⟨_, rfl⟩
  obtain ⟨Y, hY⟩ : ∃ Y, Y = treeS [] 3 q2 := ⟨_, rfl⟩
  rw [← hX] at hx
  rw [← hY] at hy
  rw [← hX, ← hY]
  have nX : noName X = true := by rw [hX]; exact noName_tree 3 q1
  have nY : noName Y = true := by rw [hY]; exact noName_tree 3 q2
  have G24 : Gr S2 S4 := gt1.trans gt2
  have w4 := (G2.trans G24).wf
  obtain ⟨px, hpx⟩ : ∃ b, b = up 0 n4 := ⟨_, rfl⟩
  obtain ⟨py, hpy⟩ : ∃ b, b = up 1 n4 := ⟨_, rfl⟩
  have pxn : S4.row px = .none := by rw [hpx]; exact nx0 w4 hn4 0
  have pyn : S4.row py = .none := by rw [hpy]; exact nx0 w4 hn4 1
  obtain ⟨S5, hS5⟩ : ∃ S5, S5 = ((((S4.new fun t => .cells t [.int .i64 0, ofL [], .snil, .snil]).new fun t => .cells t [.int .i64 0, ofL [], .snil, .snil]).wr (up 0 n4) S4.t fun u => .cells u [.int .i64 X.kind, ofL X.name, xn, xk]).wr (up 1 n4) (S4.new fun t => .cells t [.int .i64 0, ofL [], .snil, .snil]).t fun u => .cells u [.int .i64 Y.kind, ofL Y.name, yn, yk]) := ⟨_, rfl⟩
  have G45 : Gr S4 S5 := by
    rw [hS5]
    exact ((((Gr.refl w4).nn (good_cells _)).nn (good_cells _)).wr (nx0 w4 hn4 0) (by simp only [XX, wC_seq, wC_seqj, splice_def, Nat.reduceEqDiff, ↓reduceIte, reduceCtorEq, Int.reduceToNat, Nat.reduceAdd, Nat.reduceMul, Int.reduceAdd, Int.reduceSub, Int.reduceLE, Int.reduceLT, Int.reduceNeg, Int.reduceMul, Int.reduceEq, Int.reduceNe, Nat.reduceLeDiff, Nat.reduceSub, hn4]) (by simp only [XX, wC_seq, wC_seqj, splice_def, Nat.reduceEqDiff, ↓reduceIte, reduceCtorEq, Int.reduceToNat, Nat.reduceAdd, Nat.reduceMul, Int.reduceAdd, Int.reduceSub, Int.reduceLE, Int.reduceLT, Int.reduceNeg, Int.reduceMul, Int.reduceEq, Int.reduceNe, Nat.reduceLeDiff, Nat.reduceSub, hn4]; rfl) (good_cells _)).wr (nx0 w4 hn4 1) (by simp only [XX, wC_seq, wC_seqj, splice_def, Nat.reduceEqDiff, ↓reduceIte, reduceCtorEq, Int.reduceToNat, Nat.reduceAdd, Nat.reduceMul, Int.reduceAdd, Int.reduceSub, Int.reduceLE, Int.reduceLT, Int.reduceNeg, Int.reduceMul, Int.reduceEq, Int.reduceNe, Nat.reduceLeDiff, Nat.reduceSub, hn4]) (by simp only [XX, wC_seq, wC_seqj, splice_def, Nat.reduceEqDiff, ↓reduceIte, reduceCtorEq, Int.reduceToNat, Nat.reduceAdd, Nat.reduceMul, Int.reduceAdd, Int.reduceSub, Int.reduceLE, Int.reduceLT, Int.reduceNeg, Int.reduceMul, Int.reduceEq, Int.reduceNe, Nat.reduceLeDiff, Nat.reduceSub, hn4]; rfl) (good_cells _)
  have rx : ∃ t, S5.row px = .cells t [.int .i64 X.kind, ofL X.name, xn, xk] := ⟨_, by rw [hS5, hpx]; simp only [XX, wC_seq, wC_seqj, splice_def, Nat.reduceEqDiff, ↓reduceIte, reduceCtorEq, Int.reduceToNat, Nat.reduceAdd, Nat.reduceMul, Int.reduceAdd, Int.reduceSub, Int.reduceLE, Int.reduceLT, Int.reduceNeg, Int.reduceMul, Int.reduceEq, Int.reduceNe, Nat.reduceLeDiff, Nat.reduceSub, hn4]; rfl⟩
  have ry : ∃ t, S5.row py = .cells t [.int .i64 Y.kind, ofL Y.name, yn, yk] := ⟨_, by rw [hS5, hpy]; simp only [XX, wC_seq, wC_seqj, splice_def, Nat.reduceEqDiff, ↓reduceIte, reduceCtorEq, Int.reduceToNat, Nat.reduceAdd, Nat.reduceMul, Int.reduceAdd, Int.reduceSub, Int.reduceLE, Int.reduceLT, Int.reduceNeg, Int.reduceMul, Int.reduceEq, Int.reduceNe, Nat.reduceLeDiff, Nat.reduceSub, hn4]; rfl⟩
  rw [← hS5, ← hpx, ← hpy]
  clear hS5
  obtain ⟨tx, rx⟩ := rx
  obtain ⟨ty, ry⟩ := ry
  have G25 := G24.trans G45
  have PW : ∀ r, S2.row r = .none → ¬ W r := fun r h w => by obtain ⟨_, _, _, _, _, _, hT0⟩ := hT; exact hT0.own r w h
  have hX5 : TyC (fun r => S2.row r = .none) S5 [.int .i64 X.kind, ofL X.name, xn, xk] X := hx.imp fun r p e => ⟨p, by rw [G45.same r (by rw [gt2.same r e]; exact e), gt2.same r e]; rfl⟩
  have hY5 : TyC (fun r => S2.row r = .none) S5 [.int .i64 Y.kind, ofL Y.name, yn, yk] Y := hy.imp fun r p e => ⟨Ch.fresh (Ch.of (fun _ => False) gt1) p, G45.same r e⟩
  rw [wC_seq]; simp only [XX, splice_def, Nat.reduceEqDiff, ↓reduceIte, reduceCtorEq, Int.reduceToNat, Nat.reduceAdd, Nat.reduceMul, Int.reduceAdd, Int.reduceSub, Int.reduceLE, Int.reduceLT, Int.reduceNeg, Int.reduceMul, Int.reduceEq, Int.reduceNe, Nat.reduceLeDiff, Nat.reduceSub, rx]
  have w5 := (G2.trans G25).wf
  refine wCall_plain (addTop w5 (hT.gr G25) hX5 PW) ?_
  rintro _ S6 ⟨c6, ⟨W6, F6, b1, b2, b3, T6⟩, rfl⟩
  have nxW : ∀ {r}, S2.row r = .none → S5.row r ≠ .none → ¬ W6 r := fun h e w => by rcases b2 _ w with w | w; exact PW _ h w; exact e w
  have py2 : S2.row py = .none := Ch.fresh (Ch.of (fun _ => False) G24) pyn
  have px2 : S2.row px = .none := Ch.fresh (Ch.of (fun _ => False) G24) pxn
  have ry6 : S6.row py = .cells ty [.int .i64 Y.kind, ofL Y.name, yn, yk] := by rw [c6.same _ (ne_cells ry) (PW _ py2), ry]
  have rx6 : S6.row px = .cells tx [.int .i64 X.kind, ofL X.name, xn, xk] := by rw [c6.same _ (ne_cells rx) (PW _ px2), rx]
  simp only [XX, splice_def, Nat.reduceEqDiff, ↓reduceIte, reduceCtorEq, Int.reduceToNat, Nat.reduceAdd, Nat.reduceMul, Int.reduceAdd, Int.reduceSub, Int.reduceLE, Int.reduceLT, Int.reduceNeg, Int.reduceMul, Int.reduceEq, Int.reduceNe, Nat.reduceLeDiff, Nat.reduceSub]
  rw [wC_seq]; simp only [XX, splice_def, Nat.reduceEqDiff, ↓reduceIte, reduceCtorEq, Int.reduceToNat, Nat.reduceAdd, Nat.reduceMul, Int.reduceAdd, Int.reduceSub, Int.reduceLE, Int.reduceLT, Int.reduceNeg, Int.reduceMul, Int.reduceEq, Int.reduceNe, Nat.reduceLeDiff, Nat.reduceSub, ry6]
  have hX6 : TyC (fun r => S2.row r = .none ∧ S5.row r ≠ .none) S6 [.int .i64 X.kind, ofL X.name, xn, xk] X := hX5.imp fun r p e => ⟨⟨p, e⟩, c6.same r e (PW r p)⟩
  have hY6 : TyC (fun r => S2.row r = .none ∧ S5.row r ≠ .none) S6 [.int .i64 Y.kind, ofL Y.name, yn, yk] Y := hY5.imp fun r p e => ⟨⟨p, e⟩, c6.same r e (PW r p)⟩
  refine wCall_plain (addTop c6.wf T6 hY6 fun r p => nxW p.1 p.2) ?_
  rintro _ S7 ⟨c7, ⟨W7, F7, b4, b5, b6, T7⟩, rfl⟩
  simp only [XX, splice_def, Nat.reduceEqDiff, ↓reduceIte, reduceCtorEq, Int.reduceToNat, Nat.reduceAdd, Nat.reduceMul, Int.reduceAdd, Int.reduceSub, Int.reduceLE, Int.reduceLT, Int.reduceNeg, Int.reduceMul, Int.reduceEq, Int.reduceNe, Nat.reduceLeDiff, Nat.reduceSub]
  obtain ⟨A, hA⟩ : ∃ A, A = addT X 400 tb0 := ⟨_, rfl⟩
  rw [← hA] at T7 ⊢
  obtain ⟨B, hB⟩ : ∃ B, B = addT Y 400 A.1 := ⟨_, rfl⟩
  rw [← hB] at T7 ⊢
  by_cases f1 : A.2.2.1 = 0
  rotate_left
  · rw [wC_seqj, wC_seq]; simp only [XX, wC_seq, wC_seqj, splice_def, Nat.reduceEqDiff, ↓reduceIte, reduceCtorEq, Int.reduceToNat, Nat.reduceAdd, Nat.reduceMul, Int.reduceAdd, Int.reduceSub, Int.reduceLE, Int.reduceLT, Int.reduceNeg, Int.reduceMul, Int.reduceEq, Int.reduceNe, Nat.reduceLeDiff, Nat.reduceSub, f1]
  by_cases f4 : B.2.2.1 = 0
  rotate_left
  · rw [wC_seqj, wC_seq]; simp only [XX, wC_seq, wC_seqj, splice_def, Nat.reduceEqDiff, ↓reduceIte, reduceCtorEq, Int.reduceToNat, Nat.reduceAdd, Nat.reduceMul, Int.reduceAdd, Int.reduceSub, Int.reduceLE, Int.reduceLT, Int.reduceNeg, Int.reduceMul, Int.reduceEq, Int.reduceNe, Nat.reduceLeDiff, Nat.reduceSub, f1, f4]
  rw [wC_seqj, wC_seq]; simp only [XX, splice_def, Nat.reduceEqDiff, ↓reduceIte, reduceCtorEq, Int.reduceToNat, Nat.reduceAdd, Nat.reduceMul, Int.reduceAdd, Int.reduceSub, Int.reduceLE, Int.reduceLT, Int.reduceNeg, Int.reduceMul, Int.reduceEq, Int.reduceNe, Nat.reduceLeDiff, Nat.reduceSub, f1, f4]
  have acy0 : Acy tb0 := fun i nd h => by
    match i, h with
    | 0, h => injection h with h; rw [← h]; exact ⟨by decide, fun k hk => absurd hk (by simp)⟩
    | i + 1, h => cases h
  have acyA : Acy A.1 ∧ (A.2.2.1 = 0 → A.2.1 < A.1.nodes.length) := by rw [hA]; exact addT_acy X nX acy0
  have acyB : Acy B.1 ∧ (B.2.2.1 = 0 → B.2.1 < B.1.nodes.length) := by rw [hB]; exact addT_acy Y nY acyA.1
  obtain ⟨rA, xA1, xA2, xA3⟩ := addT_ok X (left := 400) (tb := tb0) (by rw [← hA]; exact f1)
  obtain ⟨rB, xB1, xB2, xB3⟩ := addT_ok Y (left := 400) (tb := A.1) (by rw [← hB]; exact f4)
  rw [← hA] at xA1 xA2 xA3
  rw [← hB] at xB1 xB2 xB3
  have iB : A.2.1 < B.1.nodes.length := by have := acyA.2 f1; rw [xB1]; simp only [List.length_append]; omega
  have jB := acyB.2 f4
  obtain ⟨is, his⟩ : ∃ is, fitsS B.1 (B.2.1 + 1) [] A.2.1 B.2.1 = some is := Option.isSome_iff_exists.1 (fits_some acyB.1 _ _ _ _ (Nat.lt_succ_self _))
  have ry7 : S7.row py = .cells ty [.int .i64 Y.kind, ofL Y.name, yn, yk] := by rw [c7.same _ (ne_cells ry6) (nxW py2 (ne_cells ry)), ry6]
  have rx7 : S7.row px = .cells tx [.int .i64 X.kind, ofL X.name, xn, xk] := by rw [c7.same _ (ne_cells rx6) (nxW px2 (ne_cells rx)), rx6]
  rw [wC_seq]; simp only [XX, splice_def, Nat.reduceEqDiff, ↓reduceIte, reduceCtorEq, Int.reduceToNat, Nat.reduceAdd, Nat.reduceMul, Int.reduceAdd, Int.reduceSub, Int.reduceLE, Int.reduceLT, Int.reduceNeg, Int.reduceMul, Int.reduceEq, Int.reduceNe, Nat.reduceLeDiff, Nat.reduceSub]
  refine wCall_plain (leC c7.wf T7 iB jB his) ?_
  rintro _ S8 ⟨g8, rfl⟩
  simp only [XX, splice_def, Nat.reduceEqDiff, ↓reduceIte, reduceCtorEq, Int.reduceToNat, Nat.reduceAdd, Nat.reduceMul, Int.reduceAdd, Int.reduceSub, Int.reduceLE, Int.reduceLT, Int.reduceNeg, Int.reduceMul, Int.reduceEq, Int.reduceNe, Nat.reduceLeDiff, Nat.reduceSub]
  have xA2' : lookT B.1.nodes X = some A.2.1 := by rw [xB1]; exact look_app X xA2
  obtain ⟨idx1, nx1, nx2⟩ := look_node xA2'
  obtain ⟨idy1, ny1, ny2⟩ := look_node xB2
  have rx8 := g8.cells rx7
  have ry8 := g8.cells ry7
  obtain ⟨M, hM⟩ : ∃ M : Fr → St → Prop, ∀ fr S, M fr S ↔ (S8 = S ∧ fr 5 = .ptr rt 0 ∧ fr 7 = .ptr px 0 ∧ fr 8 = .ptr py 0 ∧ fr 9 = .int .i64 A.2.1 ∧ fr 11 = .int .i64 B.2.1 ∧ fr 13 = .bool is.1) := ⟨_, fun _ _ => Iff.rfl⟩
  refine wC_cut M ?_ ?_
  · obtain ⟨ib, iw⟩ := is
    cases ib with
    | false =>
      simp only [XX, wC_seq, wC_seqj, splice_def, Nat.reduceEqDiff, ↓reduceIte, reduceCtorEq, Int.reduceToNat, Nat.reduceAdd, Nat.reduceMul, Int.reduceAdd, Int.reduceSub, Int.reduceLE, Int.reduceLT, Int.reduceNeg, Int.reduceMul, Int.reduceEq, Int.reduceNe, Nat.reduceLeDiff, Nat.reduceSub]
      exact (hM _ _).2 ⟨rfl, by simp only [XX, wC_seq, wC_seqj, splice_def, Nat.reduceEqDiff, ↓reduceIte, reduceCtorEq, Int.reduceToNat, Nat.reduceAdd, Nat.reduceMul, Int.reduceAdd, Int.reduceSub, Int.reduceLE, Int.reduceLT, Int.reduceNeg, Int.reduceMul, Int.reduceEq, Int.reduceNe, Nat.reduceLeDiff, Nat.reduceSub], by simp only [XX, wC_seq, wC_seqj, splice_def, Nat.reduceEqDiff, ↓reduceIte, reduceCtorEq, Int.reduceToNat, Nat.reduceAdd, Nat.reduceMul, Int.reduceAdd, Int.reduceSub, Int.reduceLE, Int.reduceLT, Int.reduceNeg, Int.reduceMul, Int.reduceEq, Int.reduceNe, Nat.reduceLeDiff, Nat.reduceSub], by simp only [XX, wC_seq, wC_seqj, splice_def, Nat.reduceEqDiff, ↓reduceIte, reduceCtorEq, Int.reduceToNat, Nat.reduceAdd, Nat.reduceMul, Int.reduceAdd, Int.reduceSub, Int.reduceLE, Int.reduceLT, Int.reduceNeg, Int.reduceMul, Int.reduceEq, Int.reduceNe, Nat.reduceLeDiff, Nat.reduceSub], by simp only [XX, wC_seq, wC_seqj, splice_def, Nat.reduceEqDiff, ↓reduceIte, reduceCtorEq, Int.reduceToNat, Nat.reduceAdd, Nat.reduceMul, Int.reduceAdd, Int.reduceSub, Int.reduceLE, Int.reduceLT, Int.reduceNeg, Int.reduceMul, Int.reduceEq, Int.reduceNe, Nat.reduceLeDiff, Nat.reduceSub], by simp only [XX, wC_seq, wC_seqj, splice_def, Nat.reduceEqDiff, ↓reduceIte, reduceCtorEq, Int.reduceToNat, Nat.reduceAdd, Nat.reduceMul, Int.reduceAdd, Int.reduceSub, Int.reduceLE, Int.reduceLT, Int.reduceNeg, Int.reduceMul, Int.reduceEq, Int.reduceNe, Nat.reduceLeDiff, Nat.reduceSub], by simp only [XX, wC_seq, wC_seqj, splice_def, Nat.reduceEqDiff, ↓reduceIte, reduceCtorEq, Int.reduceToNat, Nat.reduceAdd, Nat.reduceMul, Int.reduceAdd, Int.reduceSub, Int.reduceLE, Int.reduceLT, Int.reduceNeg, Int.reduceMul, Int.reduceEq, Int.reduceNe, Nat.reduceLeDiff, Nat.reduceSub]⟩
    | true =>
      by_cases hk : X.kind = Y.kind
      · simp only [XX, wC_seq, wC_seqj, splice_def, Nat.reduceEqDiff, ↓reduceIte, reduceCtorEq, Int.reduceToNat, Nat.reduceAdd, Nat.reduceMul, Int.reduceAdd, Int.reduceSub, Int.reduceLE, Int.reduceLT, Int.reduceNeg, Int.reduceMul, Int.reduceEq, Int.reduceNe, Nat.reduceLeDiff, Nat.reduceSub, rx8, ry8, hk]
        exact (hM _ _).2 ⟨rfl, by simp only [XX, wC_seq, wC_seqj, splice_def, Nat.reduceEqDiff, ↓reduceIte, reduceCtorEq, Int.reduceToNat, Nat.reduceAdd, Nat.reduceMul, Int.reduceAdd, Int.reduceSub, Int.reduceLE, Int.reduceLT, Int.reduceNeg, Int.reduceMul, Int.reduceEq, Int.reduceNe, Nat.reduceLeDiff, Nat.reduceSub], by simp only [XX, wC_seq, wC_seqj, splice_def, Nat.reduceEqDiff, ↓reduceIte, reduceCtorEq, Int.reduceToNat, Nat.reduceAdd, Nat.reduceMul, Int.reduceAdd, Int.reduceSub, Int.reduceLE, Int.reduceLT, Int.reduceNeg, Int.reduceMul, Int.reduceEq, Int.reduceNe, Nat.reduceLeDiff, Nat.reduceSub], by simp only [XX, wC_seq, wC_seqj, splice_def, Nat.reduceEqDiff, ↓reduceIte, reduceCtorEq, Int.reduceToNat, Nat.reduceAdd, Nat.reduceMul, Int.reduceAdd, Int.reduceSub, Int.reduceLE, Int.reduceLT, Int.reduceNeg, Int.reduceMul, Int.reduceEq, Int.reduceNe, Nat.reduceLeDiff, Nat.reduceSub], by simp only [XX, wC_seq, wC_seqj, splice_def, Nat.reduceEqDiff, ↓reduceIte, reduceCtorEq, Int.reduceToNat, Nat.reduceAdd, Nat.reduceMul, Int.reduceAdd, Int.reduceSub, Int.reduceLE, Int.reduceLT, Int.reduceNeg, Int.reduceMul, Int.reduceEq, Int.reduceNe, Nat.reduceLeDiff, Nat.reduceSub], by simp only [XX, wC_seq, wC_seqj, splice_def, Nat.reduceEqDiff, ↓reduceIte, reduceCtorEq, Int.reduceToNat, Nat.reduceAdd, Nat.reduceMul, Int.reduceAdd, Int.reduceSub, Int.reduceLE, Int.reduceLT, Int.reduceNeg, Int.reduceMul, Int.reduceEq, Int.reduceNe, Nat.reduceLeDiff, Nat.reduceSub], by simp only [XX, wC_seq, wC_seqj, splice_def, Nat.reduceEqDiff, ↓reduceIte, reduceCtorEq, Int.reduceToNat, Nat.reduceAdd, Nat.reduceMul, Int.reduceAdd, Int.reduceSub, Int.reduceLE, Int.reduceLT, Int.reduceNeg, Int.reduceMul, Int.reduceEq, Int.reduceNe, Nat.reduceLeDiff, Nat.reduceSub]⟩
      · have h6 : Y.kind = 6 := (fits_kinds acyB.1 nx1 ny1 his).resolve_left hk
        have hk6 : ¬ X.kind = 6 := fun e => hk (by rw [e, h6])
        simp only [XX, wC_seq, wC_seqj, splice_def, Nat.reduceEqDiff, ↓reduceIte, reduceCtorEq, Int.reduceToNat, Nat.reduceAdd, Nat.reduceMul, Int.reduceAdd, Int.reduceSub, Int.reduceLE, Int.reduceLT, Int.reduceNeg, Int.reduceMul, Int.reduceEq, Int.reduceNe, Nat.reduceLeDiff, Nat.reduceSub, rx8, ry8, hk6, h6]
        exact (hM _ _).2 ⟨rfl, by simp only [XX, wC_seq, wC_seqj, splice_def, Nat.reduceEqDiff, ↓reduceIte, reduceCtorEq, Int.reduceToNat, Nat.reduceAdd, Nat.reduceMul, Int.reduceAdd, Int.reduceSub, Int.reduceLE, Int.reduceLT, Int.reduceNeg, Int.reduceMul, Int.reduceEq, Int.reduceNe, Nat.reduceLeDiff, Nat.reduceSub], by simp only [XX, wC_seq, wC_seqj, splice_def, Nat.reduceEqDiff, ↓reduceIte, reduceCtorEq, Int.reduceToNat, Nat.reduceAdd, Nat.reduceMul, Int.reduceAdd, Int.reduceSub, Int.reduceLE, Int.reduceLT, Int.reduceNeg, Int.reduceMul, Int.reduceEq, Int.reduceNe, Nat.reduceLeDiff, Nat.reduceSub], by simp only [XX, wC_seq, wC_seqj, splice_def, Nat.reduceEqDiff, ↓reduceIte, reduceCtorEq, Int.reduceToNat, Nat.reduceAdd, Nat.reduceMul, Int.reduceAdd, Int.reduceSub, Int.reduceLE, Int.reduceLT, Int.reduceNeg, Int.reduceMul, Int.reduceEq, Int.reduceNe, Nat.reduceLeDiff, Nat.reduceSub], by simp only [XX, wC_seq, wC_seqj, splice_def, Nat.reduceEqDiff, ↓reduceIte, reduceCtorEq, Int.reduceToNat, Nat.reduceAdd, Nat.reduceMul, Int.reduceAdd, Int.reduceSub, Int.reduceLE, Int.reduceLT, Int.reduceNeg, Int.reduceMul, Int.reduceEq, Int.reduceNe, Nat.reduceLeDiff, Nat.reduceSub], by simp only [XX, wC_seq, wC_seqj, splice_def, Nat.reduceEqDiff, ↓reduceIte, reduceCtorEq, Int.reduceToNat, Nat.reduceAdd, Nat.reduceMul, Int.reduceAdd, Int.reduceSub, Int.reduceLE, Int.reduceLT, Int.reduceNeg, Int.reduceMul, Int.reduceEq, Int.reduceNe, Nat.reduceLeDiff, Nat.reduceSub], by simp only [XX, wC_seq, wC_seqj, splice_def, Nat.reduceEqDiff, ↓reduceIte, reduceCtorEq, Int.reduceToNat, Nat.reduceAdd, Nat.reduceMul, Int.reduceAdd, Int.reduceSub, Int.reduceLE, Int.reduceLT, Int.reduceNeg, Int.reduceMul, Int.reduceEq, Int.reduceNe, Nat.reduceLeDiff, Nat.reduceSub]⟩
  intro fr S hMf
  obtain ⟨rfl, f5, f7, f8, f9, f11, f13⟩ := (hM _ _).1 hMf
  have T8 : TabX S8 W7 rt B.1 := ⟨g8.wf, F7, T7.gr g8⟩
  have H8 : Holds B.1 X Y A.2.1 B.2.1 is.1 := ⟨acyB.1, xA2', xB2, _, is.2, his⟩
  have nx8 : ∀ r, S2.row r = .none → S5.row r ≠ .none → ¬ W7 r := fun r h e w => by
    rcases b5 r w with w | w
    · exact nxW h e w
    · exact ne_keep c6 e (PW r h) w
  have hX8 : TyC (fun r => ¬ W7 r) S8 [.int .i64 X.kind, ofL X.name, xn, xk] X := hX6.imp fun r p e => ⟨nx8 r p.1 p.2, by rw [g8.same r (by rw [c7.same r e (nxW p.1 p.2)]; exact e), c7.same r e (nxW p.1 p.2)]⟩
  have hY8 : TyC (fun r => ¬ W7 r) S8 [.int .i64 Y.kind, ofL Y.name, yn, yk] Y := hY6.imp fun r p e => ⟨nx8 r p.1 p.2, by rw [g8.same r (by rw [c7.same r e (nxW p.1 p.2)]; exact e), c7.same r e (nxW p.1 p.2)]⟩
  have n8x : ¬ W7 px := nx8 _ px2 (ne_cells rx)
  have n8y : ¬ W7 py := nx8 _ py2 (ne_cells ry)
  have hXn : X.kind = 6 → ∃ c, X = .mk 6 [] [] [c] := fun h => by rw [hX] at h ⊢; exact opt_tree [] 3 q1 h
  have hXa : (addT X 400 tb0).2.2.1 = 0 := by rw [← hA]; exact f1
  obtain ⟨i, hi⟩ : ∃ i, i = A.2.1 := ⟨_, rfl⟩
  obtain ⟨j0, hj0⟩ : ∃ j, j = B.2.1 := ⟨_, rfl⟩
  obtain ⟨is1, his1⟩ : ∃ b, b = is.1 := ⟨_, rfl⟩
  rw [← hi, ← hj0, ← his1] at H8
  rw [← hi] at f9
  rw [← hj0] at f11
  rw [← his1] at f13
  clear his his1 hi hj0 nx8 xA1 xA2 xA3 xB1 xB2 xB3 acyA acyB acy0 hA hB iB jB xA2' nx1 nx2 ny1 ny2 hX6 hY6 hX5 hY5 rx6 ry6 rx7 ry7 nxW px2 py2 T6 T7
  obtain ⟨J2, hJ2⟩ : ∃ J2 : Fr → St → Prop, ∀ fr S, J2 fr S ↔ (∃ W tb, TabX S W rt tb ∧ Holds tb X Y i j0 is1 ∧ Kept S8 W7 S W ∧ fr 5 = .ptr rt 0 ∧ fr 7 = .ptr px 0 ∧ fr 8 = .ptr py 0 ∧ fr 9 = .int .i64 i ∧ fr 11 = .int .i64 j0 ∧ fr 13 = .bool is1) := ⟨_, fun _ _ => Iff.rfl⟩
  refine wC_cut J2 ?_ ?_
  · rw [wC_seq]; simp only [XX, splice_def, Nat.reduceEqDiff, ↓reduceIte, reduceCtorEq, Int.reduceToNat, Nat.reduceAdd, Nat.reduceMul, Int.reduceAdd, Int.reduceSub, Int.reduceLE, Int.reduceLT, Int.reduceNeg, Int.reduceMul, Int.reduceEq, Int.reduceNe, Nat.reduceLeDiff, Nat.reduceSub]
    obtain ⟨L, hL⟩ : ∃ L : Nat → Fr → St → Prop, ∀ j fr S, L j fr S ↔ (∃ (k : Nat) (W : Pt → Prop) (tb : Tb), j + k = 6 ∧ 4 ≤ k ∧ fr 15 = .int .i64 k ∧ TabX S W rt tb ∧ Holds tb X Y i j0 is1 ∧ Kept S8 W7 S W ∧ fr 5 = .ptr rt 0 ∧ fr 7 = .ptr px 0 ∧ fr 8 = .ptr py 0 ∧ fr 9 = .int .i64 i ∧ fr 11 = .int .i64 j0 ∧ fr 13 = .bool is1) := ⟨_, fun _ _ _ => Iff.rfl⟩
    refine wC_loop L 2 (by decide) ((hL _ _ _).2 ⟨4, W7, B.1, rfl, Nat.le_refl _, by simp only [XX, wC_seq, wC_seqj, splice_def, Nat.reduceEqDiff, ↓reduceIte, reduceCtorEq, Int.reduceToNat, Nat.reduceAdd, Nat.reduceMul, Int.reduceAdd, Int.reduceSub, Int.reduceLE, Int.reduceLT, Int.reduceNeg, Int.reduceMul, Int.reduceEq, Int.reduceNe, Nat.reduceLeDiff, Nat.reduceSub]; rfl, T8, H8, Kept.refl _ _, by simp only [XX, wC_seq, wC_seqj, splice_def, Nat.reduceEqDiff, ↓reduceIte, reduceCtorEq, Int.reduceToNat, Nat.reduceAdd, Nat.reduceMul, Int.reduceAdd, Int.reduceSub, Int.reduceLE, Int.reduceLT, Int.reduceNeg, Int.reduceMul, Int.reduceEq, Int.reduceNe, Nat.reduceLeDiff, Nat.reduceSub, f5], by simp only [XX, wC_seq, wC_seqj, splice_def, Nat.reduceEqDiff, ↓reduceIte, reduceCtorEq, Int.reduceToNat, Nat.reduceAdd, Nat.reduceMul, Int.reduceAdd, Int.reduceSub, Int.reduceLE, Int.reduceLT, Int.reduceNeg, Int.reduceMul, Int.reduceEq, Int.reduceNe, Nat.reduceLeDiff, Nat.reduceSub, f7], by simp only [XX, wC_seq, wC_seqj, splice_def, Nat.reduceEqDiff, ↓reduceIte, reduceCtorEq, Int.reduceToNat, Nat.reduceAdd, Nat.reduceMul, Int.reduceAdd, Int.reduceSub, Int.reduceLE, Int.reduceLT, Int.reduceNeg, Int.reduceMul, Int.reduceEq, Int.reduceNe, Nat.reduceLeDiff, Nat.reduceSub, f8], by simp only [XX, wC_seq, wC_seqj, splice_def, Nat.reduceEqDiff, ↓reduceIte, reduceCtorEq, Int.reduceToNat, Nat.reduceAdd, Nat.reduceMul, Int.reduceAdd, Int.reduceSub, Int.reduceLE, Int.reduceLT, Int.reduceNeg, Int.reduceMul, Int.reduceEq, Int.reduceNe, Nat.reduceLeDiff, Nat.reduceSub, f9], by simp only [XX, wC_seq, wC_seqj, splice_def, Nat.reduceEqDiff, ↓reduceIte, reduceCtorEq, Int.reduceToNat, Nat.reduceAdd, Nat.reduceMul, Int.reduceAdd, Int.reduceSub, Int.reduceLE, Int.reduceLT, Int.reduceNeg, Int.reduceMul, Int.reduceEq, Int.reduceNe, Nat.reduceLeDiff, Nat.reduceSub, f11], by simp only [XX, wC_seq, wC_seqj, splice_def, Nat.reduceEqDiff, ↓reduceIte, reduceCtorEq, Int.reduceToNat, Nat.reduceAdd, Nat.reduceMul, Int.reduceAdd, Int.reduceSub, Int.reduceLE, Int.reduceLT, Int.reduceNeg, Int.reduceMul, Int.reduceEq, Int.reduceNe, Nat.reduceLeDiff, Nat.reduceSub, f13]⟩) ?_
    clear f5 f7 f8 f9 f11 f13
    intro j fr S hLj
    obtain ⟨k, W, tb, hj, hk4, f15, hT, H, hK, f5, f7, f8, f9, f11, f13⟩ := (hL _ _ _).1 hLj
    by_cases hk : k ≤ 5
    · have hk' : (k : Int) ≤ 5 := by omega
      have hk45 : (k : Int) = 4 ∨ (k : Int) = 5 := by omega
      have rx := hK.row rx8 n8x
      have ry := hK.row ry8 n8y
      have wx := hK.ty hX8
      have wy := hK.ty hY8
      have wS := hT.1
      obtain ⟨nS, hnS⟩ : ∃ n, S.nx = up 0 n := ⟨_, up0 _⟩
      rw [wC_seqj, wC_seq]; simp only [XX, splice_def, Nat.reduceEqDiff, ↓reduceIte, reduceCtorEq, Int.reduceToNat, Nat.reduceAdd, Nat.reduceMul, Int.reduceAdd, Int.reduceSub, Int.reduceLE, Int.reduceLT, Int.reduceNeg, Int.reduceMul, Int.reduceEq, Int.reduceNe, Nat.reduceLeDiff, Nat.reduceSub, f15, hk']
      rw [wC_seqj]; simp only [XX, splice_def, Nat.reduceEqDiff, ↓reduceIte, reduceCtorEq, Int.reduceToNat, Nat.reduceAdd, Nat.reduceMul, Int.reduceAdd, Int.reduceSub, Int.reduceLE, Int.reduceLT, Int.reduceNeg, Int.reduceMul, Int.reduceEq, Int.reduceNe, Nat.reduceLeDiff, Nat.reduceSub]
      rw [wC_seq]; simp only [XX, splice_def, Nat.reduceEqDiff, ↓reduceIte, reduceCtorEq, Int.reduceToNat, Nat.reduceAdd, Nat.reduceMul, Int.reduceAdd, Int.reduceSub, Int.reduceLE, Int.reduceLT, Int.reduceNeg, Int.reduceMul, Int.reduceEq, Int.reduceNe, Nat.reduceLeDiff, Nat.reduceSub, f5, f15, f7, rx, hnS, d1, d2, d3, d4]
      have gS : Gr S (S.new fun t => .cells t [.int .i64 X.kind, ofL X.name, xn, xk]) := Gr.new wS (good_cells _)
      have tyX : TyC (fun r => ¬ W r) (S.new fun t => .cells t [.int .i64 X.kind, ofL X.name, xn, xk]) [.int .i64 k, ofL [], .snil, .slx (up 0 nS) 0 1 4 1] (.mk k [] [] [X]) := ty_wrap hT hnS wx
      refine wCall_plain (addX (hT.gr gS) tyX) ?_
      rintro _ Sa ⟨Wa, Ta, Ka, rfl⟩
      simp only [XX, splice_def, Nat.reduceEqDiff, ↓reduceIte, reduceCtorEq, Int.reduceToNat, Nat.reduceAdd, Nat.reduceMul, Int.reduceAdd, Int.reduceSub, Int.reduceLE, Int.reduceLT, Int.reduceNeg, Int.reduceMul, Int.reduceEq, Int.reduceNe, Nat.reduceLeDiff, Nat.reduceSub]
      have KA := hK.trans ((Kept.gr gS W).trans Ka)
      have ryA := KA.row ry8 n8y
      have wyA := KA.ty hY8
      obtain ⟨nA, hnA⟩ : ∃ n, Sa.nx = up 0 n := ⟨_, up0 _⟩
      rw [wC_seq]; simp only [XX, splice_def, Nat.reduceEqDiff, ↓reduceIte, reduceCtorEq, Int.reduceToNat, Nat.reduceAdd, Nat.reduceMul, Int.reduceAdd, Int.reduceSub, Int.reduceLE, Int.reduceLT, Int.reduceNeg, Int.reduceMul, Int.reduceEq, Int.reduceNe, Nat.reduceLeDiff, Nat.reduceSub, f5, f15, f8, ryA, hnA, d5, d6, d7, d8]
      have gA : Gr Sa (Sa.new fun t => .cells t [.int .i64 Y.kind, ofL Y.name, yn, yk]) := Gr.new Ta.1 (good_cells _)
      refine wCall_plain (addX (Ta.gr gA) (ty_wrap Ta hnA wyA)) ?_
      rintro _ Sb ⟨Wb, Tb, Kb, rfl⟩
      simp only [XX, splice_def, Nat.reduceEqDiff, ↓reduceIte, reduceCtorEq, Int.reduceToNat, Nat.reduceAdd, Nat.reduceMul, Int.reduceAdd, Int.reduceSub, Int.reduceLE, Int.reduceLT, Int.reduceNeg, Int.reduceMul, Int.reduceEq, Int.reduceNe, Nat.reduceLeDiff, Nat.reduceSub]
      have KB := KA.trans ((Kept.gr gA Wa).trans Kb)
      have n1 : noName (.mk k [] [] [X]) = true := by rw [noName, noNames, noNames, nX]; rcases hk45 with h | h <;> rw [h] <;> rfl
      have n2 : noName (.mk k [] [] [Y]) = true := by rw [noName, noNames, noNames, nY]; rcases hk45 with h | h <;> rw [h] <;> rfl
      have HA := H.add n1 400
      have HB := HA.add n2 400
      have wr := fun h1 h2 => H.wrap nX nY hk45 h1 h2
      have lp := addT_lt (left := 400) n1 H.acy (Nat.lt_of_le_of_lt (Nat.zero_le _) H.lt.1)
      have lu := addT_lt (left := 400) n2 HA.acy (Nat.lt_of_le_of_lt (Nat.zero_le _) HA.lt.1)
      obtain ⟨rg, hrg⟩ := addT_grow (.mk k [] [] [Y]) 400 (addT (.mk k [] [] [X]) 400 tb).1
      have ec := addT_err (.mk k [] [] [X]) 400 tb
      have ed := addT_err (.mk k [] [] [Y]) 400 (addT (.mk k [] [] [X]) 400 tb).1
      obtain ⟨C, hC⟩ : ∃ C, C = addT (.mk k [] [] [X]) 400 tb := ⟨_, rfl⟩
      rw [← hC] at wr lp lu hrg ec ed Tb HB ⊢
      obtain ⟨D, hD⟩ : ∃ D, D = addT (.mk k [] [] [Y]) 400 C.1 := ⟨_, rfl⟩
      rw [← hD] at wr lu hrg ed Tb HB ⊢
      have lp : C.2.1 < D.1.nodes.length := by rw [hrg]; simp only [List.length_append]; omega
      obtain ⟨le, hle, hle2⟩ : ∃ le, (∃ f V, fitsS D.1 f [] C.2.1 D.2.1 = some (le, V)) ∧ (C.2.2.1 = 0 → D.2.2.1 = 0 → le = is1) := by
        by_cases e : C.2.2.1 = 0 ∧ D.2.2.1 = 0
        · exact ⟨is1, wr e.1 e.2, fun _ _ => rfl⟩
        · obtain ⟨x, hx⟩ := Option.isSome_iff_exists.1 (fits_some HB.acy _ [] C.2.1 D.2.1 (Nat.lt_succ_self _))
          exact ⟨x.1, ⟨_, x.2, hx⟩, fun e1 e2 => absurd ⟨e1, e2⟩ e⟩
      rw [wC_seq]; simp only [XX, splice_def, Nat.reduceEqDiff, ↓reduceIte, reduceCtorEq, Int.reduceToNat, Nat.reduceAdd, Nat.reduceMul, Int.reduceAdd, Int.reduceSub, Int.reduceLE, Int.reduceLT, Int.reduceNeg, Int.reduceMul, Int.reduceEq, Int.reduceNe, Nat.reduceLeDiff, Nat.reduceSub, f5]
      refine wCall_plain (leX Tb lp lu hle) ?_
      rintro _ Sc ⟨Tc, Kc, nc, rfl⟩
      have hadd : IntKind.i64.wrap ((k : Int) + 1) = ((k + 1 : Nat) : Int) := by rw [i64_in (by omega) (by omega)]; rfl
      rcases ec with ec | ec
      · rcases ed with ed | ed
        · rw [hle2 ec ed]
          simp only [XX, wC_seq, wC_seqj, splice_def, Nat.reduceEqDiff, ↓reduceIte, reduceCtorEq, Int.reduceToNat, Nat.reduceAdd, Nat.reduceMul, Int.reduceAdd, Int.reduceSub, Int.reduceLE, Int.reduceLT, Int.reduceNeg, Int.reduceMul, Int.reduceEq, Int.reduceNe, Nat.reduceLeDiff, Nat.reduceSub, ec, ed, f13, f15, hadd]
          exact ⟨6 - (k + 1), by omega, (hL _ _ _).2 ⟨k + 1, Wb, D.1, by omega, by omega, by simp only [XX, wC_seq, wC_seqj, splice_def, Nat.reduceEqDiff, ↓reduceIte, reduceCtorEq, Int.reduceToNat, Nat.reduceAdd, Nat.reduceMul, Int.reduceAdd, Int.reduceSub, Int.reduceLE, Int.reduceLT, Int.reduceNeg, Int.reduceMul, Int.reduceEq, Int.reduceNe, Nat.reduceLeDiff, Nat.reduceSub], Tc, HB, KB.trans Kc, by simp only [XX, wC_seq, wC_seqj, splice_def, Nat.reduceEqDiff, ↓reduceIte, reduceCtorEq, Int.reduceToNat, Nat.reduceAdd, Nat.reduceMul, Int.reduceAdd, Int.reduceSub, Int.reduceLE, Int.reduceLT, Int.reduceNeg, Int.reduceMul, Int.reduceEq, Int.reduceNe, Nat.reduceLeDiff, Nat.reduceSub, f5], by simp only [XX, wC_seq, wC_seqj, splice_def, Nat.reduceEqDiff, ↓reduceIte, reduceCtorEq, Int.reduceToNat, Nat.reduceAdd, Nat.reduceMul, Int.reduceAdd, Int.reduceSub, Int.reduceLE, Int.reduceLT, Int.reduceNeg, Int.reduceMul, Int.reduceEq, Int.reduceNe, Nat.reduceLeDiff, Nat.reduceSub, f7], by simp only [XX, wC_seq, wC_seqj, splice_def, Nat.reduceEqDiff, ↓reduceIte, reduceCtorEq, Int.reduceToNat, Nat.reduceAdd, Nat.reduceMul, Int.reduceAdd, Int.reduceSub, Int.reduceLE, Int.reduceLT, Int.reduceNeg, Int.reduceMul, Int.reduceEq, Int.reduceNe, Nat.reduceLeDiff, Nat.reduceSub, f8], by simp only [XX, wC_seq, wC_seqj, splice_def, Nat.reduceEqDiff, ↓reduceIte, reduceCtorEq, Int.reduceToNat, Nat.reduceAdd, Nat.reduceMul, Int.reduceAdd, Int.reduceSub, Int.reduceLE, Int.reduceLT, Int.reduceNeg, Int.reduceMul, Int.reduceEq, Int.reduceNe, Nat.reduceLeDiff, Nat.reduceSub, f9], by simp only [XX, wC_seq, wC_seqj, splice_def, Nat.reduceEqDiff, ↓reduceIte, reduceCtorEq, Int.reduceToNat, Nat.reduceAdd, Nat.reduceMul, Int.reduceAdd, Int.reduceSub, Int.reduceLE, Int.reduceLT, Int.reduceNeg, Int.reduceMul, Int.reduceEq, Int.reduceNe, Nat.reduceLeDiff, Nat.reduceSub, f11], by simp only [XX, wC_seq, wC_seqj, splice_def, Nat.reduceEqDiff, ↓reduceIte, reduceCtorEq, Int.reduceToNat, Nat.reduceAdd, Nat.reduceMul, Int.reduceAdd, Int.reduceSub, Int.reduceLE, Int.reduceLT, Int.reduceNeg, Int.reduceMul, Int.reduceEq, Int.reduceNe, Nat.reduceLeDiff, Nat.reduceSub, f13]⟩⟩
        · simp only [XX, wC_seq, wC_seqj, splice_def, Nat.reduceEqDiff, ↓reduceIte, reduceCtorEq, Int.reduceToNat, Nat.reduceAdd, Nat.reduceMul, Int.reduceAdd, Int.reduceSub, Int.reduceLE, Int.reduceLT, Int.reduceNeg, Int.reduceMul, Int.reduceEq, Int.reduceNe, Nat.reduceLeDiff, Nat.reduceSub, ec, ed, f13, f15, hadd]
      · simp only [XX, wC_seq, wC_seqj, splice_def, Nat.reduceEqDiff, ↓reduceIte, reduceCtorEq, Int.reduceToNat, Nat.reduceAdd, Nat.reduceMul, Int.reduceAdd, Int.reduceSub, Int.reduceLE, Int.reduceLT, Int.reduceNeg, Int.reduceMul, Int.reduceEq, Int.reduceNe, Nat.reduceLeDiff, Nat.reduceSub, ec, f13, f15, hadd]
    · have hk' : ¬ (k : Int) ≤ 5 := by omega
      simp only [XX, wC_seq, wC_seqj, splice_def, Nat.reduceEqDiff, ↓reduceIte, reduceCtorEq, Int.reduceToNat, Nat.reduceAdd, Nat.reduceMul, Int.reduceAdd, Int.reduceSub, Int.reduceLE, Int.reduceLT, Int.reduceNeg, Int.reduceMul, Int.reduceEq, Int.reduceNe, Nat.reduceLeDiff, Nat.reduceSub, f15, hk']
      exact (hJ2 _ _).2 ⟨W, tb, hT, H, hK, by simp only [XX, wC_seq, wC_seqj, splice_def, Nat.reduceEqDiff, ↓reduceIte, reduceCtorEq, Int.reduceToNat, Nat.reduceAdd, Nat.reduceMul, Int.reduceAdd, Int.reduceSub, Int.reduceLE, Int.reduceLT, Int.reduceNeg, Int.reduceMul, Int.reduceEq, Int.reduceNe, Nat.reduceLeDiff, Nat.reduceSub, f5], by simp only [XX, wC_seq, wC_seqj, splice_def, Nat.reduceEqDiff, ↓reduceIte, reduceCtorEq, Int.reduceToNat, Nat.reduceAdd, Nat.reduceMul, Int.reduceAdd, Int.reduceSub, Int.reduceLE, Int.reduceLT, Int.reduceNeg, Int.reduceMul, Int.reduceEq, Int.reduceNe, Nat.reduceLeDiff, Nat.reduceSub, f7], by simp only [XX, wC_seq, wC_seqj, splice_def, Nat.reduceEqDiff, ↓reduceIte, reduceCtorEq, Int.reduceToNat, Nat.reduceAdd, Nat.reduceMul, Int.reduceAdd, Int.reduceSub, Int.reduceLE, Int.reduceLT, Int.reduceNeg, Int.reduceMul, Int.reduceEq, Int.reduceNe, Nat.reduceLeDiff, Nat.reduceSub, f8], by simp only [XX, wC_seq, wC_seqj, splice_def, Nat.reduceEqDiff, ↓reduceIte, reduceCtorEq, Int.reduceToNat, Nat.reduceAdd, Nat.reduceMul, Int.reduceAdd, Int.reduceSub, Int.reduceLE, Int.reduceLT, Int.reduceNeg, Int.reduceMul, Int.reduceEq, Int.reduceNe, Nat.reduceLeDiff, Nat.reduceSub, f9], by simp only [XX, wC_seq, wC_seqj, splice_def, Nat.reduceEqDiff, ↓reduceIte, reduceCtorEq, Int.reduceToNat, Nat.reduceAdd, Nat.reduceMul, Int.reduceAdd, Int.reduceSub, Int.reduceLE, Int.reduceLT, Int.reduceNeg, Int.reduceMul, Int.reduceEq, Int.reduceNe, Nat.reduceLeDiff, Nat.reduceSub, f11], by simp only [XX, wC_seq, wC_seqj, splice_def, Nat.reduceEqDiff, ↓reduceIte, reduceCtorEq, Int.reduceToNat, Nat.reduceAdd, Nat.reduceMul, Int.reduceAdd, Int.reduceSub, Int.reduceLE, Int.reduceLT, Int.reduceNeg, Int.reduceMul, Int.reduceEq, Int.reduceNe, Nat.reduceLeDiff, Nat.reduceSub, f13]⟩
  clear f5 f7 f8 f9 f11 f13
  intro fr S hJf
  obtain ⟨W, tb, hT, H, hK, f5, f7, f8, f9, f11, f13⟩ := (hJ2 _ _).1 hJf
  rw [wC_seq]; simp only [XX, splice_def, Nat.reduceEqDiff, ↓reduceIte, reduceCtorEq, Int.reduceToNat, Nat.reduceAdd, Nat.reduceMul, Int.reduceAdd, Int.reduceSub, Int.reduceLE, Int.reduceLT, Int.reduceNeg, Int.reduceMul, Int.reduceEq, Int.reduceNe, Nat.reduceLeDiff, Nat.reduceSub, f5, f11]
  refine wCall_plain (optX j0 hT) ?_
  rintro _ Sa ⟨Wa, Ta, Ka, rfl⟩
  simp only [XX, splice_def, Nat.reduceEqDiff, ↓reduceIte, reduceCtorEq, Int.reduceToNat, Nat.reduceAdd, Nat.reduceMul, Int.reduceAdd, Int.reduceSub, Int.reduceLE, Int.reduceLT, Int.reduceNeg, Int.reduceMul, Int.reduceEq, Int.reduceNe, Nat.reduceLeDiff, Nat.reduceSub]
  have KA := hK.trans Ka
  have ryA := KA.row ry8 n8y
  by_cases g0 : (layS tb ⟨6, [], [], [j0]⟩).2.2 = 0
  rotate_left
  · rw [wC_seqj, wC_seq]; simp only [XX, wC_seq, wC_seqj, splice_def, Nat.reduceEqDiff, ↓reduceIte, reduceCtorEq, Int.reduceToNat, Nat.reduceAdd, Nat.reduceMul, Int.reduceAdd, Int.reduceSub, Int.reduceLE, Int.reduceLT, Int.reduceNeg, Int.reduceMul, Int.reduceEq, Int.reduceNe, Nat.reduceLeDiff, Nat.reduceSub, g0]
  by_cases y6 : Y.kind = 6
  · rw [wC_seqj, wC_seq]; simp only [XX, wC_seq, wC_seqj, splice_def, Nat.reduceEqDiff, ↓reduceIte, reduceCtorEq, Int.reduceToNat, Nat.reduceAdd, Nat.reduceMul, Int.reduceAdd, Int.reduceSub, Int.reduceLE, Int.reduceLT, Int.reduceNeg, Int.reduceMul, Int.reduceEq, Int.reduceNe, Nat.reduceLeDiff, Nat.reduceSub, g0, f8, ryA, y6]
  rw [wC_seqj, wC_seq]; simp only [XX, splice_def, Nat.reduceEqDiff, ↓reduceIte, reduceCtorEq, Int.reduceToNat, Nat.reduceAdd, Nat.reduceMul, Int.reduceAdd, Int.reduceSub, Int.reduceLE, Int.reduceLT, Int.reduceNeg, Int.reduceMul, Int.reduceEq, Int.reduceNe, Nat.reduceLeDiff, Nat.reduceSub, g0, f8, ryA, y6]
  have HL := H.lay
  have lo := lay_lt g0
  by_cases x6 : X.kind = 6
  · obtain ⟨c, hc⟩ := hXn x6
    obtain ⟨ids, i1, i2⟩ := look_node H.x
    rw [hc] at i1 i2
    have i2 : looksT tb.nodes [c] = some ids := i2
    rw [looksT] at i2
    cases hk : lookT tb.nodes c with
    | none => rw [hk] at i2; cases i2
    | some k =>
      rw [hk, looksT] at i2
      injection i2 with i2
      rw [← i2] at i1
      obtain ⟨is', h1, h2⟩ := H.opts i1 g0
      rw [wC_seq]; simp only [XX, splice_def, Nat.reduceEqDiff, ↓reduceIte, reduceCtorEq, Int.reduceToNat, Nat.reduceAdd, Nat.reduceMul, Int.reduceAdd, Int.reduceSub, Int.reduceLE, Int.reduceLT, Int.reduceNeg, Int.reduceMul, Int.reduceEq, Int.reduceNe, Nat.reduceLeDiff, Nat.reduceSub, f5, f9]
      refine wCall_plain (leX Ta HL.lt.1 lo h2) ?_
      rintro _ Sb ⟨Tb, Kb, nb, rfl⟩
      simp only [XX, splice_def, Nat.reduceEqDiff, ↓reduceIte, reduceCtorEq, Int.reduceToNat, Nat.reduceAdd, Nat.reduceMul, Int.reduceAdd, Int.reduceSub, Int.reduceLE, Int.reduceLT, Int.reduceNeg, Int.reduceMul, Int.reduceEq, Int.reduceNe, Nat.reduceLeDiff, Nat.reduceSub]
      have KB := KA.trans Kb
      have rxB := KB.row rx8 n8x
      have wxB := KB.ty hX8
      have ek : X.kids = [c] := by rw [hc]; rfl
      obtain ⟨nv, kv, es, he, s1, s2, s3, s4⟩ := wxB.inv
      injection he with _ he; injection he with _ he; injection he with he1 he; injection he with he2 _
      subst he1; subst he2
      have hes : 0 < es.length := by rw [s3, ek]; exact Nat.zero_lt_one
      obtain ⟨q, o, a1, a2, a3, a4, a5⟩ := s2.elem hes
      have a1 : iaddrSV 4 xk (.int .i64 0) = some (.ptr q o, .no) := a1
      have tc : TyC (fun r => ¬ Wa r) Sb es[0] c := by
        have := s4 0 hes (by rw [ek]; exact Nat.zero_lt_one)
        simp only [ek, List.getElem_cons_zero] at this
        exact this
      rw [wC_seqj, wC_seq]; simp only [XX, splice_def, Nat.reduceEqDiff, ↓reduceIte, reduceCtorEq, Int.reduceToNat, Nat.reduceAdd, Nat.reduceMul, Int.reduceAdd, Int.reduceSub, Int.reduceLE, Int.reduceLT, Int.reduceNeg, Int.reduceMul, Int.reduceEq, Int.reduceNe, Nat.reduceLeDiff, Nat.reduceSub, f7, rxB, x6]
      rw [wC_seq]; simp only [XX, splice_def, Nat.reduceEqDiff, ↓reduceIte, reduceCtorEq, Int.reduceToNat, Nat.reduceAdd, Nat.reduceMul, Int.reduceAdd, Int.reduceSub, Int.reduceLE, Int.reduceLT, Int.reduceNeg, Int.reduceMul, Int.reduceEq, Int.reduceNe, Nat.reduceLeDiff, Nat.reduceSub, f5, f7, rxB, a1, a4]
      refine wCall_plain (addX Tb tc) ?_
      rintro _ Sc ⟨Wc, Tc, Kc, rfl⟩
      have hkl : lookT (layS tb ⟨6, [], [], [j0]⟩).1.nodes c = some k := by
        obtain ⟨r, hr⟩ := layS_grow tb ⟨6, [], [], [j0]⟩
        rw [hr]; exact look_app c hk
      have hthere := kid_there (by rw [← hc]; exact hXa) hkl
      rw [hthere] at Tc ⊢
      have kl : k < (layS tb ⟨6, [], [], [j0]⟩).1.nodes.length := by
        obtain ⟨_, k1, _⟩ := look_node hkl
        exact (List.getElem?_eq_some_iff.1 k1).1
      simp only [XX, splice_def, Nat.reduceEqDiff, ↓reduceIte, reduceCtorEq, Int.reduceToNat, Nat.reduceAdd, Nat.reduceMul, Int.reduceAdd, Int.reduceSub, Int.reduceLE, Int.reduceLT, Int.reduceNeg, Int.reduceMul, Int.reduceEq, Int.reduceNe, Nat.reduceLeDiff, Nat.reduceSub, f5, f11]
      refine wCall_plain (leX Tc kl HL.lt.2 h1) ?_
      rintro _ Sd ⟨Td, Kd, nd, rfl⟩
      simp only [XX, wC_seq, wC_seqj, splice_def, Nat.reduceEqDiff, ↓reduceIte, reduceCtorEq, Int.reduceToNat, Nat.reduceAdd, Nat.reduceMul, Int.reduceAdd, Int.reduceSub, Int.reduceLE, Int.reduceLT, Int.reduceNeg, Int.reduceMul, Int.reduceEq, Int.reduceNe, Nat.reduceLeDiff, Nat.reduceSub]
  · have h2 := H.opt x6 g0
    rw [wC_seq]; simp only [XX, splice_def, Nat.reduceEqDiff, ↓reduceIte, reduceCtorEq, Int.reduceToNat, Nat.reduceAdd, Nat.reduceMul, Int.reduceAdd, Int.reduceSub, Int.reduceLE, Int.reduceLT, Int.reduceNeg, Int.reduceMul, Int.reduceEq, Int.reduceNe, Nat.reduceLeDiff, Nat.reduceSub, f5, f9]
    refine wCall_plain (leX Ta HL.lt.1 lo h2) ?_
    rintro _ Sb ⟨Tb, Kb, nb, rfl⟩
    have rxB := (KA.trans Kb).row rx8 n8x
    simp only [XX, wC_seq, wC_seqj, splice_def, Nat.reduceEqDiff, ↓reduceIte, reduceCtorEq, Int.reduceToNat, Nat.reduceAdd, Nat.reduceMul, Int.reduceAdd, Int.reduceSub, Int.reduceLE, Int.reduceLT, Int.reduceNeg, Int.reduceMul, Int.reduceEq, Int.reduceNe, Nat.reduceLeDiff, Nat.reduceSub, f7, f13, rxB, x6]
theorem kindsL (st : St) (hw : WF st) (e1 : List V) (q1 : Rw) (h1 : RwC (fun _ => True) st e1 q1) (e2 : List V) (q2 : Rw) (h2 : RwC (fun _ => True) st e2 q2) :
    Does (tabT tabD) n_spruelaw6_SubKinds [.agg e1, .agg e2] st fun v' _ => v' = .bool true := kindsC st hw e1 e2 q1 q2 h1 h2
end Go.Proofs.Ytjblgoefcobkgaa
