/- 'ConsShares': what it answers. -/
import Derived.Test.YtajifckdgaoncaaKnown5
import Derived.Test.YtajifckdgaoncaaTree
import Derived.Test.YtajifckdgaoncaaWithin
namespace Go.Proofs.Ytajifckdgaoncaa
open Eva Go.RowKit
set_option maxRecDepth 100000
set_option linter.unusedSimpArgs false
set_option linter.unusedVariables false
set_option maxHeartbeats 4000000 in
theorem sharesL (st : St) (hw : WF st) (e1 : List V) (q1 : Rw) (h1 : RwC (fun _ => True) st e1 q1) (nn : Int) (hn1 : -9223372036854775808 ≤ nn) (hn2 : nn < 9223372036854775808) :
    Does (tabT tabD) n_spruelaw5_ConsShares [.agg e1, .int .i64 nn] st fun v' _ => v' = .bool true := by
  refine does_fn at_spruelaw5_ConsShares rfl ?_
  obtain ⟨n0, hn0⟩ : ∃ n, st.nx = up 0 n := ⟨_, up0 _⟩
  have g1 := h1
  obtain ⟨nv1, kv1, es1, rfl, _, _, _, a1, a2, _, _, _⟩ := h1.inv
  have c1 := a1.cells
  have s1 := a1.sc
  have c2 := a2.cells
  have s2 := a2.sc
  obtain ⟨p1, hp1⟩ : ∃ b, b = up 0 n0 := ⟨_, rfl⟩
  obtain ⟨I, hI⟩ : ∃ I : Fr → St → Prop, ∀ fr S, I fr S ↔ (fr 1 = .int .i64 nn ∧ fr 2 = .ptr p1 0 ∧ Gr st S ∧ (∃ t, S.row p1 = .cells t [.int .i64 q1.kind, .int .i64 q1.n, nv1, kv1])) := ⟨_, fun _ _ => Iff.rfl⟩
  simp only [cf_spruelaw5_ConsShares, XX, splice_def, Nat.reduceEqDiff, ↓reduceIte, reduceCtorEq, Int.reduceToNat, Nat.reduceAdd, Nat.reduceMul, Int.reduceAdd, Int.reduceSub, Int.reduceLE, Int.reduceLT, Int.reduceNeg, Int.reduceMul, Int.reduceEq, Int.reduceNe, Nat.reduceLeDiff, Nat.reduceSub]
  refine wC_scut I ?_ ?_
  · simp only [XX, wC_seq, wC_seqj, splice_def, Nat.reduceEqDiff, ↓reduceIte, reduceCtorEq, Int.reduceToNat, Nat.reduceAdd, Nat.reduceMul, Int.reduceAdd, Int.reduceSub, Int.reduceLE, Int.reduceLT, Int.reduceNeg, Int.reduceMul, Int.reduceEq, Int.reduceNe, Nat.reduceLeDiff, Nat.reduceSub, hn0, c1, s1, c2, s2]
    exact (hI _ _).2 ⟨by simp only [XX, wC_seq, wC_seqj, splice_def, Nat.reduceEqDiff, ↓reduceIte, reduceCtorEq, Int.reduceToNat, Nat.reduceAdd, Nat.reduceMul, Int.reduceAdd, Int.reduceSub, Int.reduceLE, Int.reduceLT, Int.reduceNeg, Int.reduceMul, Int.reduceEq, Int.reduceNe, Nat.reduceLeDiff, Nat.reduceSub], by simp only [XX, wC_seq, wC_seqj, splice_def, Nat.reduceEqDiff, ↓reduceIte, reduceCtorEq, Int.reduceToNat, Nat.reduceAdd, Nat.reduceMul, Int.reduceAdd, Int.reduceSub, Int.reduceLE, Int.reduceLT, Int.reduceNeg, Int.reduceMul, Int.reduceEq, Int.reduceNe, Nat.reduceLeDiff, Nat.reduceSub, hp1], (Gr.refl hw).nn (good_cells _), ⟨_, by rw [hp1]; simp only [XX, wC_seq, wC_seqj, splice_def, Nat.reduceEqDiff, ↓reduceIte, reduceCtorEq, Int.reduceToNat, Nat.reduceAdd, Nat.reduceMul, Int.reduceAdd, Int.reduceSub, Int.reduceLE, Int.reduceLT, Int.reduceNeg, Int.reduceMul, Int.reduceEq, Int.reduceNe, Nat.reduceLeDiff, Nat.reduceSub, hn0]; rfl⟩⟩
  intro fr S0 hIf
  obtain ⟨f1, f2, G0, ⟨t1, r1⟩⟩ := (hI _ _).1 hIf
  rw [wC_seqj, wC_seq]; simp only [XX, splice_def, Nat.reduceEqDiff, ↓reduceIte, reduceCtorEq, Int.reduceToNat, Nat.reduceAdd, Nat.reduceMul, Int.reduceAdd, Int.reduceSub, Int.reduceLE, Int.reduceLT, Int.reduceNeg, Int.reduceMul, Int.reduceEq, Int.reduceNe, Nat.reduceLeDiff, Nat.reduceSub]
  refine wCall_plain (known5 S0 G0.wf) ?_
  rintro _ S0 ⟨gk, rfl⟩
  have G0 := G0.trans gk
  have r1 := gk.cells r1
  simp only [XX, splice_def, Nat.reduceEqDiff, ↓reduceIte, reduceCtorEq, Int.reduceToNat, Nat.reduceAdd, Nat.reduceMul, Int.reduceAdd, Int.reduceSub, Int.reduceLE, Int.reduceLT, Int.reduceNeg, Int.reduceMul, Int.reduceEq, Int.reduceNe, Nat.reduceLeDiff, Nat.reduceSub]
  rw [wC_seqj, wC_seq]; simp only [XX, splice_def, Nat.reduceEqDiff, ↓reduceIte, reduceCtorEq, Int.reduceToNat, Nat.reduceAdd, Nat.reduceMul, Int.reduceAdd, Int.reduceSub, Int.reduceLE, Int.reduceLT, Int.reduceNeg, Int.reduceMul, Int.reduceEq, Int.reduceNe, Nat.reduceLeDiff, Nat.reduceSub, f2, r1]
  refine wCall_plain (fewC g1 _ G0 30 (by decide) (by decide)) ?_
  rintro _ S1 ⟨gf1, m1, rfl, _, _⟩
  by_cases hm1 : m1 = 0
  · simp only [XX, wC_seq, wC_seqj, splice_def, Nat.reduceEqDiff, ↓reduceIte, reduceCtorEq, Int.reduceToNat, Nat.reduceAdd, Nat.reduceMul, Int.reduceAdd, Int.reduceSub, Int.reduceLE, Int.reduceLT, Int.reduceNeg, Int.reduceMul, Int.reduceEq, Int.reduceNe, Nat.reduceLeDiff, Nat.reduceSub, hm1]
  have G1 := G0.trans gf1
  have r1 := gf1.cells r1
  simp only [XX, splice_def, Nat.reduceEqDiff, ↓reduceIte, reduceCtorEq, Int.reduceToNat, Nat.reduceAdd, Nat.reduceMul, Int.reduceAdd, Int.reduceSub, Int.reduceLE, Int.reduceLT, Int.reduceNeg, Int.reduceMul, Int.reduceEq, Int.reduceNe, Nat.reduceLeDiff, Nat.reduceSub, hm1]
  rw [wC_seq]; simp only [XX, splice_def, Nat.reduceEqDiff, ↓reduceIte, reduceCtorEq, Int.reduceToNat, Nat.reduceAdd, Nat.reduceMul, Int.reduceAdd, Int.reduceSub, Int.reduceLE, Int.reduceLT, Int.reduceNeg, Int.reduceMul, Int.reduceEq, Int.reduceNe, Nat.reduceLeDiff, Nat.reduceSub, f2, r1]
  have T4 : TreeAt [] 4 := treeC [] (by decide) 3 (by decide)
  refine wCall_plain (T4 G1.wf (g1.gr G1 |>.imp fun r _ _ => ⟨trivial, rfl⟩) (SlAt.nil (fun _ => False) _ _)) ?_
  rintro _ S2 ⟨gt, x, rfl, hx⟩
  obtain ⟨xn, xk, xe, rfl, u1, u2, u3, u4⟩ := hx.inv
  have d1 := u1.cells
  have d2 := u1.sc
  have d3 := u2.cells
  have d4 := u2.sc
  obtain ⟨X, hX⟩ : ∃ X, X = treeS [] 4 q1 := ⟨_, rfl⟩
  rw [← hX] at hx ⊢
  have w2 := gt.wf
  obtain ⟨n2, hn2'⟩ : ∃ n, S2.nx = up 0 n := ⟨_, up0 _⟩
  simp only [XX, splice_def, Nat.reduceEqDiff, ↓reduceIte, reduceCtorEq, Int.reduceToNat, Nat.reduceAdd, Nat.reduceMul, Int.reduceAdd, Int.reduceSub, Int.reduceLE, Int.reduceLT, Int.reduceNeg, Int.reduceMul, Int.reduceEq, Int.reduceNe, Nat.reduceLeDiff, Nat.reduceSub, hn2', d1, d2, d3, d4]
  obtain ⟨S3, hS3⟩ : ∃ S3, S3 = ((S2.new fun t => .cells t [.int .i64 0, ofL [], .snil, .snil]).wr (up 0 n2) S2.t fun u => .cells u [.int .i64 X.kind, ofL X.name, xn, xk]) := ⟨_, rfl⟩
  have G23 : Gr S2 S3 := by rw [hS3]; exact (Gr.refl w2).nw hn2' (good_cells _) (good_cells _)
  obtain ⟨tx, rx⟩ : ∃ t, S3.row (up 0 n2) = .cells t [.int .i64 X.kind, ofL X.name, xn, xk] := ⟨_, by rw [hS3]; simp only [XX, wC_seq, wC_seqj, splice_def, Nat.reduceEqDiff, ↓reduceIte, reduceCtorEq, Int.reduceToNat, Nat.reduceAdd, Nat.reduceMul, Int.reduceAdd, Int.reduceSub, Int.reduceLE, Int.reduceLT, Int.reduceNeg, Int.reduceMul, Int.reduceEq, Int.reduceNe, Nat.reduceLeDiff, Nat.reduceSub, hn2']; rfl⟩
  rw [← hS3]
  clear hS3
  have hX3 : TyC (fun _ => True) S3 [.int .i64 X.kind, ofL X.name, xn, xk] X := hx.imp fun r _ e => ⟨trivial, G23.same r e⟩
  by_cases x6 : X.kind = 6
  · rw [wC_seqj, wC_seq]; simp only [XX, wC_seq, wC_seqj, splice_def, Nat.reduceEqDiff, ↓reduceIte, reduceCtorEq, Int.reduceToNat, Nat.reduceAdd, Nat.reduceMul, Int.reduceAdd, Int.reduceSub, Int.reduceLE, Int.reduceLT, Int.reduceNeg, Int.reduceMul, Int.reduceEq, Int.reduceNe, Nat.reduceLeDiff, Nat.reduceSub, rx, x6]
  rw [wC_seqj, wC_seq]; simp only [XX, splice_def, Nat.reduceEqDiff, ↓reduceIte, reduceCtorEq, Int.reduceToNat, Nat.reduceAdd, Nat.reduceMul, Int.reduceAdd, Int.reduceSub, Int.reduceLE, Int.reduceLT, Int.reduceNeg, Int.reduceMul, Int.reduceEq, Int.reduceNe, Nat.reduceLeDiff, Nat.reduceSub, rx, x6]
  rw [wC_seq]; simp only [XX, splice_def, Nat.reduceEqDiff, ↓reduceIte, reduceCtorEq, Int.reduceToNat, Nat.reduceAdd, Nat.reduceMul, Int.reduceAdd, Int.reduceSub, Int.reduceLE, Int.reduceLT, Int.reduceNeg, Int.reduceMul, Int.reduceEq, Int.reduceNe, Nat.reduceLeDiff, Nat.reduceSub, rx, d1, d2, d3, d4]
  refine wCall_plain (newX1 G23.wf hX3) ?_
  rintro v S4 ⟨G4, hp⟩
  cases hnw : newS ⟨X, [], []⟩ with
  | mk o er =>
  rw [hnw] at hp
  cases o with
  | none =>
    have hp : v = .tup [.pnil, .int .i64 er] := hp
    have he := new_none hnw
    rw [hp]
    simp only [XX, wC_seq, wC_seqj, splice_def, Nat.reduceEqDiff, ↓reduceIte, reduceCtorEq, Int.reduceToNat, Nat.reduceAdd, Nat.reduceMul, Int.reduceAdd, Int.reduceSub, Int.reduceLE, Int.reduceLT, Int.reduceNeg, Int.reduceMul, Int.reduceEq, Int.reduceNe, Nat.reduceLeDiff, Nat.reduceSub, he]
  | some tb =>
  obtain ⟨rfl, hl⟩ := new_one hnw
  obtain ⟨rt, W, rfl, T4, K4⟩ := hp
  have rx4 := K4.row rx fun h => h
  have hX4 := K4.ty (hX3.imp fun r _ _ => ⟨fun h => h, rfl⟩)
  have w4 := T4.1
  obtain ⟨n4, hn4⟩ : ∃ n, S4.nx = up 0 n := ⟨_, up0 _⟩
  simp only [XX, splice_def, Nat.reduceEqDiff, ↓reduceIte, reduceCtorEq, Int.reduceToNat, Nat.reduceAdd, Nat.reduceMul, Int.reduceAdd, Int.reduceSub, Int.reduceLE, Int.reduceLT, Int.reduceNeg, Int.reduceMul, Int.reduceEq, Int.reduceNe, Nat.reduceLeDiff, Nat.reduceSub]
  rw [wC_seqj, wC_seq]; simp only [XX, splice_def, Nat.reduceEqDiff, ↓reduceIte, reduceCtorEq, Int.reduceToNat, Nat.reduceAdd, Nat.reduceMul, Int.reduceAdd, Int.reduceSub, Int.reduceLE, Int.reduceLT, Int.reduceNeg, Int.reduceMul, Int.reduceEq, Int.reduceNe, Nat.reduceLeDiff, Nat.reduceSub]
  rw [wC_seq]; simp only [XX, splice_def, Nat.reduceEqDiff, ↓reduceIte, reduceCtorEq, Int.reduceToNat, Nat.reduceAdd, Nat.reduceMul, Int.reduceAdd, Int.reduceSub, Int.reduceLE, Int.reduceLT, Int.reduceNeg, Int.reduceMul, Int.reduceEq, Int.reduceNe, Nat.reduceLeDiff, Nat.reduceSub]
  refine wCall_plain (lenX T4) ?_
  rintro _ _ ⟨rfl, rfl⟩
  simp only [XX, splice_def, Nat.reduceEqDiff, ↓reduceIte, reduceCtorEq, Int.reduceToNat, Nat.reduceAdd, Nat.reduceMul, Int.reduceAdd, Int.reduceSub, Int.reduceLE, Int.reduceLT, Int.reduceNeg, Int.reduceMul, Int.reduceEq, Int.reduceNe, Nat.reduceLeDiff, Nat.reduceSub]
  have ox4 := fun k => nes (ne_up w4 hn4 (ne_cells rx4) k)
  rw [wC_seq]; simp only [XX, splice_def, Nat.reduceEqDiff, ↓reduceIte, reduceCtorEq, Int.reduceToNat, Nat.reduceAdd, Nat.reduceMul, Int.reduceAdd, Int.reduceSub, Int.reduceLE, Int.reduceLT, Int.reduceNeg, Int.reduceMul, Int.reduceEq, Int.reduceNe, Nat.reduceLeDiff, Nat.reduceSub, rx4, hn4, d1, d2, d3, d4]
  obtain ⟨S5, hS5⟩ : ∃ S5, S5 = ((S4.new fun t => .cells t [.int .i64 0, ofL [], .snil, .snil]).wr (up 0 n4) S4.t fun u => .cells u [.int .i64 X.kind, ofL X.name, xn, xk]) := ⟨_, rfl⟩
  have G45 : Gr S4 S5 := by rw [hS5]; exact (Gr.refl w4).nw hn4 (good_cells _) (good_cells _)
  obtain ⟨py, hpy⟩ : ∃ p, p = up 0 n4 := ⟨_, rfl⟩
  obtain ⟨ty, ry⟩ : ∃ t, S5.row py = .cells t [.int .i64 X.kind, ofL X.name, xn, xk] := ⟨_, by rw [hS5, hpy]; simp only [XX, wC_seq, wC_seqj, splice_def, Nat.reduceEqDiff, ↓reduceIte, reduceCtorEq, Int.reduceToNat, Nat.reduceAdd, Nat.reduceMul, Int.reduceAdd, Int.reduceSub, Int.reduceLE, Int.reduceLT, Int.reduceNeg, Int.reduceMul, Int.reduceEq, Int.reduceNe, Nat.reduceLeDiff, Nat.reduceSub, hn4]; rfl⟩
  rw [← hS5, ← hpy]
  have py4 : S4.row py = .none := by rw [hpy]; exact nx0 w4 hn4 0
  clear hS5
  have hX5 : TyC (fun r => ¬ W r ∧ r ≠ py) S5 [.int .i64 X.kind, ofL X.name, xn, xk] X := hX4.imp fun r n e => ⟨⟨n, fun h => e (by rw [h]; exact py4)⟩, G45.same r e⟩
  rw [wC_seq]; simp only [XX, splice_def, Nat.reduceEqDiff, ↓reduceIte, reduceCtorEq, Int.reduceToNat, Nat.reduceAdd, Nat.reduceMul, Int.reduceAdd, Int.reduceSub, Int.reduceLE, Int.reduceLT, Int.reduceNeg, Int.reduceMul, Int.reduceEq, Int.reduceNe, Nat.reduceLeDiff, Nat.reduceSub, f1]
  refine wCall_plain (withinC nn 6 _ (by decide) (by decide)) ?_
  rintro _ _ ⟨rfl, rfl⟩
  obtain ⟨m, hm⟩ : ∃ m : Nat, nn % 6 = m := ⟨(nn % 6).toNat, by have := Int.emod_nonneg nn (show (6 : Int) ≠ 0 by decide); omega⟩
  have hm6 : m < 6 := by have := Int.emod_lt_of_pos nn (show (0 : Int) < 6 by decide); omega
  rw [hm]
  simp only [XX, splice_def, Nat.reduceEqDiff, ↓reduceIte, reduceCtorEq, Int.reduceToNat, Nat.reduceAdd, Nat.reduceMul, Int.reduceAdd, Int.reduceSub, Int.reduceLE, Int.reduceLT, Int.reduceNeg, Int.reduceMul, Int.reduceEq, Int.reduceNe, Nat.reduceLeDiff, Nat.reduceSub]
  obtain ⟨J, hJ⟩ : ∃ J : Fr → St → Prop, ∀ fr S, J fr S ↔ (∃ t ey, fr 1 = .int .i64 m ∧ fr 6 = .ptr rt 0 ∧ fr 8 = .int .i64 tb.nodes.length ∧ fr 9 = .ptr py 0 ∧ Gr S4 S ∧ S.row py = .cells t ey ∧ TyC (fun r => ¬ W r ∧ r ≠ py) S ey (wrapT X m)) := ⟨_, fun _ _ => Iff.rfl⟩
  refine wC_cut J ?_ ?_
  · rw [wC_seq]; simp only [XX, splice_def, Nat.reduceEqDiff, ↓reduceIte, reduceCtorEq, Int.reduceToNat, Nat.reduceAdd, Nat.reduceMul, Int.reduceAdd, Int.reduceSub, Int.reduceLE, Int.reduceLT, Int.reduceNeg, Int.reduceMul, Int.reduceEq, Int.reduceNe, Nat.reduceLeDiff, Nat.reduceSub]
    obtain ⟨L, hL⟩ : ∃ L : Nat → Fr → St → Prop, ∀ j fr S, L j fr S ↔ ∃ (k : Nat) (t : Nat) (ey : List V), j + k = m ∧ fr 10 = .int .i64 k ∧ fr 1 = .int .i64 m ∧ fr 6 = .ptr rt 0 ∧ fr 8 = .int .i64 tb.nodes.length ∧ fr 9 = .ptr py 0 ∧ Gr S4 S ∧ S.row py = .cells t ey ∧ TyC (fun r => ¬ W r ∧ r ≠ py) S ey (wrapT X k) := ⟨_, fun _ _ _ => Iff.rfl⟩
    refine wC_loop L m (by omega) ((hL _ _ _).2 ⟨0, ty, _, rfl, by simp only [XX, wC_seq, wC_seqj, splice_def, Nat.reduceEqDiff, ↓reduceIte, reduceCtorEq, Int.reduceToNat, Nat.reduceAdd, Nat.reduceMul, Int.reduceAdd, Int.reduceSub, Int.reduceLE, Int.reduceLT, Int.reduceNeg, Int.reduceMul, Int.reduceEq, Int.reduceNe, Nat.reduceLeDiff, Nat.reduceSub]; rfl, by simp only [XX, wC_seq, wC_seqj, splice_def, Nat.reduceEqDiff, ↓reduceIte, reduceCtorEq, Int.reduceToNat, Nat.reduceAdd, Nat.reduceMul, Int.reduceAdd, Int.reduceSub, Int.reduceLE, Int.reduceLT, Int.reduceNeg, Int.reduceMul, Int.reduceEq, Int.reduceNe, Nat.reduceLeDiff, Nat.reduceSub], by simp only [XX, wC_seq, wC_seqj, splice_def, Nat.reduceEqDiff, ↓reduceIte, reduceCtorEq, Int.reduceToNat, Nat.reduceAdd, Nat.reduceMul, Int.reduceAdd, Int.reduceSub, Int.reduceLE, Int.reduceLT, Int.reduceNeg, Int.reduceMul, Int.reduceEq, Int.reduceNe, Nat.reduceLeDiff, Nat.reduceSub], by simp only [XX, wC_seq, wC_seqj, splice_def, Nat.reduceEqDiff, ↓reduceIte, reduceCtorEq, Int.reduceToNat, Nat.reduceAdd, Nat.reduceMul, Int.reduceAdd, Int.reduceSub, Int.reduceLE, Int.reduceLT, Int.reduceNeg, Int.reduceMul, Int.reduceEq, Int.reduceNe, Nat.reduceLeDiff, Nat.reduceSub], by simp only [XX, wC_seq, wC_seqj, splice_def, Nat.reduceEqDiff, ↓reduceIte, reduceCtorEq, Int.reduceToNat, Nat.reduceAdd, Nat.reduceMul, Int.reduceAdd, Int.reduceSub, Int.reduceLE, Int.reduceLT, Int.reduceNeg, Int.reduceMul, Int.reduceEq, Int.reduceNe, Nat.reduceLeDiff, Nat.reduceSub], G45, ry, hX5⟩) ?_
    intro j fr S hLj
    obtain ⟨k, t, ey, hj, f10, f1, f6, f8, f9, hg, rk, hty⟩ := (hL _ _ _).1 hLj
    by_cases hk : k < m
    · have hk' : (k : Int) < m := by omega
      obtain ⟨kv1, kv2, es, rfl, z1, z2, z3, z4⟩ := hty.inv
      have b1 := z1.cells
      have b2 := z1.sc
      have b3 := z2.cells
      have b4 := z2.sc
      have wS := hg.wf
      obtain ⟨nS, hnS⟩ : ∃ n, S.nx = up 0 n := ⟨_, up0 _⟩
      have oS := fun k => nes (ne_up wS hnS (ne_cells rk) k)
      have two : (2 : Int) ≠ 0 := by decide
      have hmod : (k : Int).tmod 2 = ((k % 2 : Nat) : Int) := by show Int.tmod (k : Int) ((2 : Nat) : Int) = _; rfl
      have hadd : IntKind.i64.wrap ((k : Int) + 1) = ((k + 1 : Nat) : Int) := by rw [i64_in (by omega) (by omega)]; rfl
      obtain ⟨Sn, hSn⟩ : ∃ Sn, Sn = ((S.new fun t => .cells t [.int .i64 4, .int .i64 5]).new fun t => .cells t [.int .i64 (wrapT X k).kind, ofL (wrapT X k).name, kv1, kv2]) := ⟨_, rfl⟩
      have gn : Gr S Sn := by rw [hSn]; exact (Gr.new wS (good_cells _)).nn (good_cells _)
      have rkn : Sn.row py = .cells t [.int .i64 (wrapT X k).kind, ofL (wrapT X k).name, kv1, kv2] := gn.cells rk
      have q1n : S.row (up 1 nS) = .none := nx0 wS hnS 1
      have q14 : S4.row (up 1 nS) = .none := Ch.fresh (Ch.of (fun _ => False) hg) q1n
      have ne1 : up 1 nS ≠ py := fun e => by rw [e, rk] at q1n; cases q1n
      have rn1 : ∃ t, Sn.row (up 1 nS) = .cells t [.int .i64 (wrapT X k).kind, ofL (wrapT X k).name, kv1, kv2] := ⟨_, by rw [hSn]; simp only [XX, wC_seq, wC_seqj, splice_def, Nat.reduceEqDiff, ↓reduceIte, reduceCtorEq, Int.reduceToNat, Nat.reduceAdd, Nat.reduceMul, Int.reduceAdd, Int.reduceSub, Int.reduceLE, Int.reduceLT, Int.reduceNeg, Int.reduceMul, Int.reduceEq, Int.reduceNe, Nat.reduceLeDiff, Nat.reduceSub, hnS]; rfl⟩
      have done : ∀ kd : Int, Gr S4 (Sn.wr py t fun u => .cells u [.int .i64 kd, ofL [], .snil, .slx (up 1 nS) 0 1 4 1]) ∧ TyC (fun r => ¬ W r ∧ r ≠ py) (Sn.wr py t fun u => .cells u [.int .i64 kd, ofL [], .snil, .slx (up 1 nS) 0 1 4 1]) [.int .i64 kd, ofL [], .snil, .slx (up 1 nS) 0 1 4 1] (.mk kd [] [] [wrapT X k]) := fun kd => by
        refine ⟨(hg.trans gn).wr py4 (ne_cells rkn) (by rw [rkn]; rfl) (good_cells _), ?_⟩
        obtain ⟨tn, rn1⟩ := rn1
        refine .mk (es := [[.int .i64 (wrapT X k).kind, ofL (wrapT X k).name, kv1, kv2]]) (SlAt.nil _ _ _) (SlAt.freshx (es := [[.int .i64 (wrapT X k).kind, ofL (wrapT X k).name, kv1, kv2]]) (t := tn) (by rw [row_wr_ne _ _ _ ne1, rn1]; rfl) ⟨T4.own q14, ne1⟩ (by simp)) rfl fun i h h' => ?_
        have : i = 0 := by simpa using h
        subst this
        exact hty.imp fun r p e => ⟨p, by rw [row_wr_ne _ _ _ p.2, gn.same r e]⟩
      have two : (2 : Int) ≠ 0 := by decide
      rcases (show k % 2 = 0 ∨ k % 2 = 1 by omega) with hk2 | hk2
      · rw [hk2] at hmod
        have hmod : (k : Int).tmod 2 = 0 := hmod
        simp only [XX, wC_seq, wC_seqj, splice_def, Nat.reduceEqDiff, ↓reduceIte, reduceCtorEq, Int.reduceToNat, Nat.reduceAdd, Nat.reduceMul, Int.reduceAdd, Int.reduceSub, Int.reduceLE, Int.reduceLT, Int.reduceNeg, Int.reduceMul, Int.reduceEq, Int.reduceNe, Nat.reduceLeDiff, Nat.reduceSub, f10, f1, hk', hmod, two, f9, rk, hnS, oS, b1, b2, b3, b4, apartAll_nil, hadd]
        rw [← hSn]
        refine ⟨by decide, m - (k + 1), by omega, (hL _ _ _).2 ⟨k + 1, _, _, by omega, by simp only [XX, wC_seq, wC_seqj, splice_def, Nat.reduceEqDiff, ↓reduceIte, reduceCtorEq, Int.reduceToNat, Nat.reduceAdd, Nat.reduceMul, Int.reduceAdd, Int.reduceSub, Int.reduceLE, Int.reduceLT, Int.reduceNeg, Int.reduceMul, Int.reduceEq, Int.reduceNe, Nat.reduceLeDiff, Nat.reduceSub], by simp only [XX, wC_seq, wC_seqj, splice_def, Nat.reduceEqDiff, ↓reduceIte, reduceCtorEq, Int.reduceToNat, Nat.reduceAdd, Nat.reduceMul, Int.reduceAdd, Int.reduceSub, Int.reduceLE, Int.reduceLT, Int.reduceNeg, Int.reduceMul, Int.reduceEq, Int.reduceNe, Nat.reduceLeDiff, Nat.reduceSub, f1], by simp only [XX, wC_seq, wC_seqj, splice_def, Nat.reduceEqDiff, ↓reduceIte, reduceCtorEq, Int.reduceToNat, Nat.reduceAdd, Nat.reduceMul, Int.reduceAdd, Int.reduceSub, Int.reduceLE, Int.reduceLT, Int.reduceNeg, Int.reduceMul, Int.reduceEq, Int.reduceNe, Nat.reduceLeDiff, Nat.reduceSub, f6], by simp only [XX, wC_seq, wC_seqj, splice_def, Nat.reduceEqDiff, ↓reduceIte, reduceCtorEq, Int.reduceToNat, Nat.reduceAdd, Nat.reduceMul, Int.reduceAdd, Int.reduceSub, Int.reduceLE, Int.reduceLT, Int.reduceNeg, Int.reduceMul, Int.reduceEq, Int.reduceNe, Nat.reduceLeDiff, Nat.reduceSub, f8], by simp only [XX, wC_seq, wC_seqj, splice_def, Nat.reduceEqDiff, ↓reduceIte, reduceCtorEq, Int.reduceToNat, Nat.reduceAdd, Nat.reduceMul, Int.reduceAdd, Int.reduceSub, Int.reduceLE, Int.reduceLT, Int.reduceNeg, Int.reduceMul, Int.reduceEq, Int.reduceNe, Nat.reduceLeDiff, Nat.reduceSub, f9], (done 4).1, row_wr_same _ _ _ _, ?_⟩⟩
        rw [wrapT, if_pos hk2]
        exact (done 4).2
      · rw [hk2] at hmod
        have hmod : (k : Int).tmod 2 = 1 := hmod
        simp only [XX, wC_seq, wC_seqj, splice_def, Nat.reduceEqDiff, ↓reduceIte, reduceCtorEq, Int.reduceToNat, Nat.reduceAdd, Nat.reduceMul, Int.reduceAdd, Int.reduceSub, Int.reduceLE, Int.reduceLT, Int.reduceNeg, Int.reduceMul, Int.reduceEq, Int.reduceNe, Nat.reduceLeDiff, Nat.reduceSub, f10, f1, hk', hmod, two, f9, rk, hnS, oS, b1, b2, b3, b4, apartAll_nil, hadd]
        rw [← hSn]
        refine ⟨by decide, m - (k + 1), by omega, (hL _ _ _).2 ⟨k + 1, _, _, by omega, by simp only [XX, wC_seq, wC_seqj, splice_def, Nat.reduceEqDiff, ↓reduceIte, reduceCtorEq, Int.reduceToNat, Nat.reduceAdd, Nat.reduceMul, Int.reduceAdd, Int.reduceSub, Int.reduceLE, Int.reduceLT, Int.reduceNeg, Int.reduceMul, Int.reduceEq, Int.reduceNe, Nat.reduceLeDiff, Nat.reduceSub], by simp only [XX, wC_seq, wC_seqj, splice_def, Nat.reduceEqDiff, ↓reduceIte, reduceCtorEq, Int.reduceToNat, Nat.reduceAdd, Nat.reduceMul, Int.reduceAdd, Int.reduceSub, Int.reduceLE, Int.reduceLT, Int.reduceNeg, Int.reduceMul, Int.reduceEq, Int.reduceNe, Nat.reduceLeDiff, Nat.reduceSub, f1], by simp only [XX, wC_seq, wC_seqj, splice_def, Nat.reduceEqDiff, ↓reduceIte, reduceCtorEq, Int.reduceToNat, Nat.reduceAdd, Nat.reduceMul, Int.reduceAdd, Int.reduceSub, Int.reduceLE, Int.reduceLT, Int.reduceNeg, Int.reduceMul, Int.reduceEq, Int.reduceNe, Nat.reduceLeDiff, Nat.reduceSub, f6], by simp only [XX, wC_seq, wC_seqj, splice_def, Nat.reduceEqDiff, ↓reduceIte, reduceCtorEq, Int.reduceToNat, Nat.reduceAdd, Nat.reduceMul, Int.reduceAdd, Int.reduceSub, Int.reduceLE, Int.reduceLT, Int.reduceNeg, Int.reduceMul, Int.reduceEq, Int.reduceNe, Nat.reduceLeDiff, Nat.reduceSub, f8], by simp only [XX, wC_seq, wC_seqj, splice_def, Nat.reduceEqDiff, ↓reduceIte, reduceCtorEq, Int.reduceToNat, Nat.reduceAdd, Nat.reduceMul, Int.reduceAdd, Int.reduceSub, Int.reduceLE, Int.reduceLT, Int.reduceNeg, Int.reduceMul, Int.reduceEq, Int.reduceNe, Nat.reduceLeDiff, Nat.reduceSub, f9], (done 5).1, row_wr_same _ _ _ _, ?_⟩⟩
        rw [wrapT, if_neg (by omega)]
        exact (done 5).2
    · have hk' : ¬ (k : Int) < m := by omega
      have hkm : k = m := by omega
      subst hkm
      simp only [XX, wC_seq, wC_seqj, splice_def, Nat.reduceEqDiff, ↓reduceIte, reduceCtorEq, Int.reduceToNat, Nat.reduceAdd, Nat.reduceMul, Int.reduceAdd, Int.reduceSub, Int.reduceLE, Int.reduceLT, Int.reduceNeg, Int.reduceMul, Int.reduceEq, Int.reduceNe, Nat.reduceLeDiff, Nat.reduceSub, f10, f1, hk']
      exact (hJ _ _).2 ⟨t, ey, by simp only [XX, wC_seq, wC_seqj, splice_def, Nat.reduceEqDiff, ↓reduceIte, reduceCtorEq, Int.reduceToNat, Nat.reduceAdd, Nat.reduceMul, Int.reduceAdd, Int.reduceSub, Int.reduceLE, Int.reduceLT, Int.reduceNeg, Int.reduceMul, Int.reduceEq, Int.reduceNe, Nat.reduceLeDiff, Nat.reduceSub, f1], by simp only [XX, wC_seq, wC_seqj, splice_def, Nat.reduceEqDiff, ↓reduceIte, reduceCtorEq, Int.reduceToNat, Nat.reduceAdd, Nat.reduceMul, Int.reduceAdd, Int.reduceSub, Int.reduceLE, Int.reduceLT, Int.reduceNeg, Int.reduceMul, Int.reduceEq, Int.reduceNe, Nat.reduceLeDiff, Nat.reduceSub, f6], by simp only [XX, wC_seq, wC_seqj, splice_def, Nat.reduceEqDiff, ↓reduceIte, reduceCtorEq, Int.reduceToNat, Nat.reduceAdd, Nat.reduceMul, Int.reduceAdd, Int.reduceSub, Int.reduceLE, Int.reduceLT, Int.reduceNeg, Int.reduceMul, Int.reduceEq, Int.reduceNe, Nat.reduceLeDiff, Nat.reduceSub, f8], by simp only [XX, wC_seq, wC_seqj, splice_def, Nat.reduceEqDiff, ↓reduceIte, reduceCtorEq, Int.reduceToNat, Nat.reduceAdd, Nat.reduceMul, Int.reduceAdd, Int.reduceSub, Int.reduceLE, Int.reduceLT, Int.reduceNeg, Int.reduceMul, Int.reduceEq, Int.reduceNe, Nat.reduceLeDiff, Nat.reduceSub, f9], hg, rk, hty⟩
  intro fr S6 hJf
  obtain ⟨t6, ey, f1, f6, f8, f9, G6, ry6, hY6⟩ := (hJ _ _).1 hJf
  obtain ⟨yv1, yv2, ys, rfl, z1, z2, z3, z4⟩ := hY6.inv
  rw [wC_seq]; simp only [XX, splice_def, Nat.reduceEqDiff, ↓reduceIte, reduceCtorEq, Int.reduceToNat, Nat.reduceAdd, Nat.reduceMul, Int.reduceAdd, Int.reduceSub, Int.reduceLE, Int.reduceLT, Int.reduceNeg, Int.reduceMul, Int.reduceEq, Int.reduceNe, Nat.reduceLeDiff, Nat.reduceSub, f6, f9, ry6]
  refine wCall_plain (addX (T4.gr G6) (hY6.imp fun r p _ => ⟨p.1, rfl⟩)) ?_
  rintro _ S7 ⟨W7, T7, K7, rfl⟩
  simp only [XX, splice_def, Nat.reduceEqDiff, ↓reduceIte, reduceCtorEq, Int.reduceToNat, Nat.reduceAdd, Nat.reduceMul, Int.reduceAdd, Int.reduceSub, Int.reduceLE, Int.reduceLT, Int.reduceNeg, Int.reduceMul, Int.reduceEq, Int.reduceNe, Nat.reduceLeDiff, Nat.reduceSub]
  have hwl := wrap_len (x := X) hl m (left := 400) (by decide)
  have herr := addT_err (wrapT X m) 400 tb
  have hok := addT_ok (wrapT X m) (left := 400) (tb := tb)
  obtain ⟨D, hD⟩ : ∃ D, D = addT (wrapT X m) 400 tb := ⟨_, rfl⟩
  rw [← hD] at T7 hwl herr hok ⊢
  rcases herr with he | he
  rotate_left
  · rw [wC_seqj, wC_seq]; simp only [XX, wC_seq, wC_seqj, splice_def, Nat.reduceEqDiff, ↓reduceIte, reduceCtorEq, Int.reduceToNat, Nat.reduceAdd, Nat.reduceMul, Int.reduceAdd, Int.reduceSub, Int.reduceLE, Int.reduceLT, Int.reduceNeg, Int.reduceMul, Int.reduceEq, Int.reduceNe, Nat.reduceLeDiff, Nat.reduceSub, he]
  obtain ⟨rD, d5, d6, _⟩ := hok he
  have hwl := hwl he
  have hX7 : lookT D.1.nodes X = some tb.main := by rw [d5]; exact look_app X hl
  have hmain : D.1.main = tb.main := by rw [d5]
  rw [wC_seqj, wC_seq]; simp only [XX, splice_def, Nat.reduceEqDiff, ↓reduceIte, reduceCtorEq, Int.reduceToNat, Nat.reduceAdd, Nat.reduceMul, Int.reduceAdd, Int.reduceSub, Int.reduceLE, Int.reduceLT, Int.reduceNeg, Int.reduceMul, Int.reduceEq, Int.reduceNe, Nat.reduceLeDiff, Nat.reduceSub, he]
  obtain ⟨J2, hJ2⟩ : ∃ J : Fr → St → Prop, ∀ fr S, J fr S ↔ (fr 1 = .int .i64 m ∧ fr 6 = .ptr rt 0 ∧ fr 8 = .int .i64 tb.nodes.length ∧ fr 11 = .int .i64 tb.main ∧ TabX S W7 rt D.1) := ⟨_, fun _ _ => Iff.rfl⟩
  refine wC_cut J2 ?_ ?_
  · rw [wC_seq]; simp only [XX, splice_def, Nat.reduceEqDiff, ↓reduceIte, reduceCtorEq, Int.reduceToNat, Nat.reduceAdd, Nat.reduceMul, Int.reduceAdd, Int.reduceSub, Int.reduceLE, Int.reduceLT, Int.reduceNeg, Int.reduceMul, Int.reduceEq, Int.reduceNe, Nat.reduceLeDiff, Nat.reduceSub, f1]
    obtain ⟨L, hL⟩ : ∃ L : Nat → Fr → St → Prop, ∀ j fr S, L j fr S ↔ ∃ (k id : Nat), j = k ∧ k ≤ m ∧ fr 13 = .int .i64 k ∧ fr 11 = .int .i64 id ∧ lookT D.1.nodes (wrapT X k) = some id ∧ fr 1 = .int .i64 m ∧ fr 6 = .ptr rt 0 ∧ fr 8 = .int .i64 tb.nodes.length ∧ TabX S W7 rt D.1 := ⟨_, fun _ _ _ => Iff.rfl⟩
    refine wC_loop L m (by omega) ((hL _ _ _).2 ⟨m, D.2.1, rfl, Nat.le_refl _, by simp only [XX, wC_seq, wC_seqj, splice_def, Nat.reduceEqDiff, ↓reduceIte, reduceCtorEq, Int.reduceToNat, Nat.reduceAdd, Nat.reduceMul, Int.reduceAdd, Int.reduceSub, Int.reduceLE, Int.reduceLT, Int.reduceNeg, Int.reduceMul, Int.reduceEq, Int.reduceNe, Nat.reduceLeDiff, Nat.reduceSub], by simp only [XX, wC_seq, wC_seqj, splice_def, Nat.reduceEqDiff, ↓reduceIte, reduceCtorEq, Int.reduceToNat, Nat.reduceAdd, Nat.reduceMul, Int.reduceAdd, Int.reduceSub, Int.reduceLE, Int.reduceLT, Int.reduceNeg, Int.reduceMul, Int.reduceEq, Int.reduceNe, Nat.reduceLeDiff, Nat.reduceSub], d6, by simp only [XX, wC_seq, wC_seqj, splice_def, Nat.reduceEqDiff, ↓reduceIte, reduceCtorEq, Int.reduceToNat, Nat.reduceAdd, Nat.reduceMul, Int.reduceAdd, Int.reduceSub, Int.reduceLE, Int.reduceLT, Int.reduceNeg, Int.reduceMul, Int.reduceEq, Int.reduceNe, Nat.reduceLeDiff, Nat.reduceSub, f1], by simp only [XX, wC_seq, wC_seqj, splice_def, Nat.reduceEqDiff, ↓reduceIte, reduceCtorEq, Int.reduceToNat, Nat.reduceAdd, Nat.reduceMul, Int.reduceAdd, Int.reduceSub, Int.reduceLE, Int.reduceLT, Int.reduceNeg, Int.reduceMul, Int.reduceEq, Int.reduceNe, Nat.reduceLeDiff, Nat.reduceSub, f6], by simp only [XX, wC_seq, wC_seqj, splice_def, Nat.reduceEqDiff, ↓reduceIte, reduceCtorEq, Int.reduceToNat, Nat.reduceAdd, Nat.reduceMul, Int.reduceAdd, Int.reduceSub, Int.reduceLE, Int.reduceLT, Int.reduceNeg, Int.reduceMul, Int.reduceEq, Int.reduceNe, Nat.reduceLeDiff, Nat.reduceSub, f8], T7⟩) ?_
    intro j fr S hLj
    obtain ⟨k, id, rfl, hkm, f13, f11, hid, f1, f6, f8, TS⟩ := (hL _ _ _).1 hLj
    cases j with
    | zero =>
      have h0 : ¬ (0 : Int) < ((0 : Nat) : Int) := by decide
      rw [show wrapT X 0 = X from rfl, hX7] at hid
      injection hid with hid
      subst hid
      simp only [XX, wC_seq, wC_seqj, splice_def, Nat.reduceEqDiff, ↓reduceIte, reduceCtorEq, Int.reduceToNat, Nat.reduceAdd, Nat.reduceMul, Int.reduceAdd, Int.reduceSub, Int.reduceLE, Int.reduceLT, Int.reduceNeg, Int.reduceMul, Int.reduceEq, Int.reduceNe, Nat.reduceLeDiff, Nat.reduceSub, f13, h0]
      exact (hJ2 _ _).2 ⟨by simp only [XX, wC_seq, wC_seqj, splice_def, Nat.reduceEqDiff, ↓reduceIte, reduceCtorEq, Int.reduceToNat, Nat.reduceAdd, Nat.reduceMul, Int.reduceAdd, Int.reduceSub, Int.reduceLE, Int.reduceLT, Int.reduceNeg, Int.reduceMul, Int.reduceEq, Int.reduceNe, Nat.reduceLeDiff, Nat.reduceSub, f1], by simp only [XX, wC_seq, wC_seqj, splice_def, Nat.reduceEqDiff, ↓reduceIte, reduceCtorEq, Int.reduceToNat, Nat.reduceAdd, Nat.reduceMul, Int.reduceAdd, Int.reduceSub, Int.reduceLE, Int.reduceLT, Int.reduceNeg, Int.reduceMul, Int.reduceEq, Int.reduceNe, Nat.reduceLeDiff, Nat.reduceSub, f6], by simp only [XX, wC_seq, wC_seqj, splice_def, Nat.reduceEqDiff, ↓reduceIte, reduceCtorEq, Int.reduceToNat, Nat.reduceAdd, Nat.reduceMul, Int.reduceAdd, Int.reduceSub, Int.reduceLE, Int.reduceLT, Int.reduceNeg, Int.reduceMul, Int.reduceEq, Int.reduceNe, Nat.reduceLeDiff, Nat.reduceSub, f8], by simp only [XX, wC_seq, wC_seqj, splice_def, Nat.reduceEqDiff, ↓reduceIte, reduceCtorEq, Int.reduceToNat, Nat.reduceAdd, Nat.reduceMul, Int.reduceAdd, Int.reduceSub, Int.reduceLE, Int.reduceLT, Int.reduceNeg, Int.reduceMul, Int.reduceEq, Int.reduceNe, Nat.reduceLeDiff, Nat.reduceSub, f11], TS⟩
    | succ k =>
      obtain ⟨i, hn, hi⟩ := wrap_down hid
      have hlt := (List.getElem?_eq_some_iff.1 hn).1
      have hne : D.1.nodes[id] = ⟨if k % 2 = 0 then 4 else 5, [], [], [i]⟩ := (List.getElem?_eq_some_iff.1 hn).2
      have hk' : (0 : Int) < ((k + 1 : Nat) : Int) := by omega
      rw [wC_seqj, wC_seq]; simp only [XX, splice_def, Nat.reduceEqDiff, ↓reduceIte, reduceCtorEq, Int.reduceToNat, Nat.reduceAdd, Nat.reduceMul, Int.reduceAdd, Int.reduceSub, Int.reduceLE, Int.reduceLT, Int.reduceNeg, Int.reduceMul, Int.reduceEq, Int.reduceNe, Nat.reduceLeDiff, Nat.reduceSub, f13, hk']
      rw [wC_seqj]; simp only [XX, splice_def, Nat.reduceEqDiff, ↓reduceIte, reduceCtorEq, Int.reduceToNat, Nat.reduceAdd, Nat.reduceMul, Int.reduceAdd, Int.reduceSub, Int.reduceLE, Int.reduceLT, Int.reduceNeg, Int.reduceMul, Int.reduceEq, Int.reduceNe, Nat.reduceLeDiff, Nat.reduceSub]
      rw [wC_seq]; simp only [XX, splice_def, Nat.reduceEqDiff, ↓reduceIte, reduceCtorEq, Int.reduceToNat, Nat.reduceAdd, Nat.reduceMul, Int.reduceAdd, Int.reduceSub, Int.reduceLE, Int.reduceLT, Int.reduceNeg, Int.reduceMul, Int.reduceEq, Int.reduceNe, Nat.reduceLeDiff, Nat.reduceSub, f6, f11]
      refine wCall_plain (nodeX TS hlt) ?_
      rintro _ Sa ⟨Ta, ga, e, rfl, hnd⟩
      rw [hne] at hnd
      obtain ⟨nv, kv, rfl, y1, y2⟩ := hnd
      have b1 := y1.cells
      have b2 := y1.sc
      have b3 := y2.cells
      have b4 := y2.sc
      have wa := Ta.1
      obtain ⟨nA, hnA⟩ : ∃ n, Sa.nx = up 0 n := ⟨_, up0 _⟩
      simp only [XX, splice_def, Nat.reduceEqDiff, ↓reduceIte, reduceCtorEq, Int.reduceToNat, Nat.reduceAdd, Nat.reduceMul, Int.reduceAdd, Int.reduceSub, Int.reduceLE, Int.reduceLT, Int.reduceNeg, Int.reduceMul, Int.reduceEq, Int.reduceNe, Nat.reduceLeDiff, Nat.reduceSub, hnA, b1, b2, b3, b4]
      obtain ⟨kk, hkk⟩ : ∃ kk : Int, kk = if k % 2 = 0 then 4 else 5 := ⟨_, rfl⟩
      rw [← hkk]
      obtain ⟨Sb, hSb⟩ : ∃ Sb, Sb = ((Sa.new fun t => .cells t [.int .i64 0, ofL [], .snil, .snil]).wr (up 0 nA) Sa.t fun u => .cells u [.int .i64 kk, ofL [], nv, kv]) := ⟨_, rfl⟩
      have gb : Gr Sa Sb := by rw [hSb]; exact (Gr.refl wa).nw hnA (good_cells _) (good_cells _)
      obtain ⟨tb1, rb⟩ : ∃ t, Sb.row (up 0 nA) = .cells t [.int .i64 kk, ofL [], nv, kv] := ⟨_, by rw [hSb]; simp only [XX, wC_seq, wC_seqj, splice_def, Nat.reduceEqDiff, ↓reduceIte, reduceCtorEq, Int.reduceToNat, Nat.reduceAdd, Nat.reduceMul, Int.reduceAdd, Int.reduceSub, Int.reduceLE, Int.reduceLT, Int.reduceNeg, Int.reduceMul, Int.reduceEq, Int.reduceNe, Nat.reduceLeDiff, Nat.reduceSub, hnA]; rfl⟩
      rw [← hSb]
      have y3 := y2.gr gb
      have hlen : lenLV kv = some (.int .i64 1, .no) := y3.len
      obtain ⟨r, q, o1, o2, o3, o4⟩ := SlAt.one (xs := [V.int .i64 (i : Int)]) (i := 0) y3 (by simp)
      have o1 : iaddrSV 1 kv (.int .i64 0) = some (.ptr r q, .no) := o1
      have o4 : ld1 (Sb.row r) q = some (.int .i64 i, .no) := o4
      rw [wC_seqj, wC_seq]; simp only [XX, splice_def, Nat.reduceEqDiff, ↓reduceIte, reduceCtorEq, Int.reduceToNat, Nat.reduceAdd, Nat.reduceMul, Int.reduceAdd, Int.reduceSub, Int.reduceLE, Int.reduceLT, Int.reduceNeg, Int.reduceMul, Int.reduceEq, Int.reduceNe, Nat.reduceLeDiff, Nat.reduceSub, rb, hlen]
      have hsub : IntKind.i64.wrap (((k + 1 : Nat) : Int) - 1) = (k : Int) := by rw [i64_in (by omega) (by omega)]; omega
      simp only [XX, wC_seq, wC_seqj, splice_def, Nat.reduceEqDiff, ↓reduceIte, reduceCtorEq, Int.reduceToNat, Nat.reduceAdd, Nat.reduceMul, Int.reduceAdd, Int.reduceSub, Int.reduceLE, Int.reduceLT, Int.reduceNeg, Int.reduceMul, Int.reduceEq, Int.reduceNe, Nat.reduceLeDiff, Nat.reduceSub, rb, o1, o4, f13, hsub]
      exact ⟨k, Nat.lt_succ_self _, (hL _ _ _).2 ⟨k, i, rfl, by omega, by simp only [XX, wC_seq, wC_seqj, splice_def, Nat.reduceEqDiff, ↓reduceIte, reduceCtorEq, Int.reduceToNat, Nat.reduceAdd, Nat.reduceMul, Int.reduceAdd, Int.reduceSub, Int.reduceLE, Int.reduceLT, Int.reduceNeg, Int.reduceMul, Int.reduceEq, Int.reduceNe, Nat.reduceLeDiff, Nat.reduceSub], by simp only [XX, wC_seq, wC_seqj, splice_def, Nat.reduceEqDiff, ↓reduceIte, reduceCtorEq, Int.reduceToNat, Nat.reduceAdd, Nat.reduceMul, Int.reduceAdd, Int.reduceSub, Int.reduceLE, Int.reduceLT, Int.reduceNeg, Int.reduceMul, Int.reduceEq, Int.reduceNe, Nat.reduceLeDiff, Nat.reduceSub], hi, by simp only [XX, wC_seq, wC_seqj, splice_def, Nat.reduceEqDiff, ↓reduceIte, reduceCtorEq, Int.reduceToNat, Nat.reduceAdd, Nat.reduceMul, Int.reduceAdd, Int.reduceSub, Int.reduceLE, Int.reduceLT, Int.reduceNeg, Int.reduceMul, Int.reduceEq, Int.reduceNe, Nat.reduceLeDiff, Nat.reduceSub, f1], by simp only [XX, wC_seq, wC_seqj, splice_def, Nat.reduceEqDiff, ↓reduceIte, reduceCtorEq, Int.reduceToNat, Nat.reduceAdd, Nat.reduceMul, Int.reduceAdd, Int.reduceSub, Int.reduceLE, Int.reduceLT, Int.reduceNeg, Int.reduceMul, Int.reduceEq, Int.reduceNe, Nat.reduceLeDiff, Nat.reduceSub, f6], by simp only [XX, wC_seq, wC_seqj, splice_def, Nat.reduceEqDiff, ↓reduceIte, reduceCtorEq, Int.reduceToNat, Nat.reduceAdd, Nat.reduceMul, Int.reduceAdd, Int.reduceSub, Int.reduceLE, Int.reduceLT, Int.reduceNeg, Int.reduceMul, Int.reduceEq, Int.reduceNe, Nat.reduceLeDiff, Nat.reduceSub, f8], Ta.gr gb⟩⟩
  intro fr S hJf
  obtain ⟨f1, f6, f8, f11, TS⟩ := (hJ2 _ _).1 hJf
  simp only [XX, wC_seq, wC_seqj, splice_def, Nat.reduceEqDiff, ↓reduceIte, reduceCtorEq, Int.reduceToNat, Nat.reduceAdd, Nat.reduceMul, Int.reduceAdd, Int.reduceSub, Int.reduceLE, Int.reduceLT, Int.reduceNeg, Int.reduceMul, Int.reduceEq, Int.reduceNe, Nat.reduceLeDiff, Nat.reduceSub, f6, f11]
  refine wCall_plain (mainX TS) ?_
  rintro _ _ ⟨rfl, rfl⟩
  rw [hmain]
  simp only [XX, wC_seq, wC_seqj, splice_def, Nat.reduceEqDiff, ↓reduceIte, reduceCtorEq, Int.reduceToNat, Nat.reduceAdd, Nat.reduceMul, Int.reduceAdd, Int.reduceSub, Int.reduceLE, Int.reduceLT, Int.reduceNeg, Int.reduceMul, Int.reduceEq, Int.reduceNe, Nat.reduceLeDiff, Nat.reduceSub, f6]
  refine wCall_plain (lenX TS) ?_
  rintro _ _ ⟨rfl, rfl⟩
  have hle : tb.nodes.length ≤ 120 := by
    obtain ⟨_, _, _, _, _, _, _, _, hT⟩ := T4
    exact hT.few
  have hadd : IntKind.i64.wrap ((tb.nodes.length : Int) + (m : Int)) = (tb.nodes.length : Int) + (m : Int) := i64_in (by omega) (by omega)
  have hfin : (D.1.nodes.length : Int) ≤ (tb.nodes.length : Int) + (m : Int) := by omega
  simp only [XX, wC_seq, wC_seqj, splice_def, Nat.reduceEqDiff, ↓reduceIte, reduceCtorEq, Int.reduceToNat, Nat.reduceAdd, Nat.reduceMul, Int.reduceAdd, Int.reduceSub, Int.reduceLE, Int.reduceLT, Int.reduceNeg, Int.reduceMul, Int.reduceEq, Int.reduceNe, Nat.reduceLeDiff, Nat.reduceSub, f8, f1, hadd, hfin]
end Go.Proofs.Ytajifckdgaoncaa
