/- Raw trees: few, a kid, a name. -/
import Derived.Test.YtajifckdgaoncaaMon
import Derived.Test.YtajifckdgaoncaaEvdZ
namespace Go.Proofs.Ytajifckdgaoncaa
open Eva Go.RowKit
set_option maxRecDepth 100000
set_option linter.unusedSimpArgs false
set_option linter.unusedVariables false
theorem within3C (a n : Int) (st : St) (h0 : 0 < n) (h1 : n < 4611686018427387904) : Does (tabT tabD) n_spruelaw3_within [.int .i64 a, .int .i64 n] st fun v st' => v = .int .i64 (a % n) ∧ st = st' := by
  refine does_fn at_spruelaw3_within rfl ?_
  have hn : n ≠ 0 := by omega
  have e1 := Int.emod_nonneg a hn
  have e2 := Int.emod_lt_of_pos a h0
  rcases tmodC a h0 with ⟨h3, h4⟩ | ⟨h3, h4⟩
  · simp only [cf_spruelaw3_within, XX, wC_seq, wC_seqj, splice_def, Nat.reduceEqDiff, ↓reduceIte, reduceCtorEq, Int.reduceToNat, Nat.reduceAdd, Nat.reduceMul, Int.reduceAdd, Int.reduceSub, Int.reduceLE, Int.reduceLT, Int.reduceNeg, Int.reduceMul, Int.reduceEq, Int.reduceNe, Nat.reduceLeDiff, Nat.reduceSub, hn, h3]
    rw [h4]
  · have hw : IntKind.i64.wrap (a.tmod n + n) = a % n := by rw [h4, i64_in (by omega) (by omega)]
    simp only [cf_spruelaw3_within, XX, wC_seq, wC_seqj, splice_def, Nat.reduceEqDiff, ↓reduceIte, reduceCtorEq, Int.reduceToNat, Nat.reduceAdd, Nat.reduceMul, Int.reduceAdd, Int.reduceSub, Int.reduceLE, Int.reduceLT, Int.reduceNeg, Int.reduceMul, Int.reduceEq, Int.reduceNe, Nat.reduceLeDiff, Nat.reduceSub, hn, h3, hw]
theorem nameC (z : Int) (st : St) (hw : WF st) : Does (tabT tabD) n_spruelaw3_Name [.int .i64 z] st fun v st' => Gr st st' ∧ v = ofL (nameS z) := by
  refine does_fn at_spruelaw3_Name rfl ?_
  obtain ⟨q, hq⟩ : ∃ q, st.nx = q := ⟨_, rfl⟩
  simp only [cf_spruelaw3_Name, XX, wC_seq, wC_seqj, splice_def, Nat.reduceEqDiff, ↓reduceIte, reduceCtorEq, Int.reduceToNat, Nat.reduceAdd, Nat.reduceMul, Int.reduceAdd, Int.reduceSub, Int.reduceLE, Int.reduceLT, Int.reduceNeg, Int.reduceMul, Int.reduceEq, Int.reduceNe, Nat.reduceLeDiff, Nat.reduceSub, hq]
  refine wCall_plain (within3C z 7 _ (by decide) (by decide)) ?_
  rintro _ _ ⟨rfl, rfl⟩
  have e1 := Int.emod_nonneg z (show (7 : Int) ≠ 0 by decide)
  have e2 := Int.emod_lt_of_pos z (show (0 : Int) < 7 by decide)
  obtain ⟨m, hm⟩ : ∃ m : Nat, z % 7 = m := ⟨(z % 7).toNat, by omega⟩
  have hs : nameS z = nms7.getD m [] := by unfold nameS; rw [hm]; rfl
  rw [hm] at e1 e2 ⊢
  rw [hs]
  clear hs hm
  have hg : ∀ l, Gr st (st.new fun u => .cells u l) := fun l => Gr.new hw (good_cells _)
  have hr : (st.new fun u => Row.cells u [ofL [97], ofL [98], ofL [99], ofL [110, 97, 109, 101], ofL [110], ofL [73, 110, 116], ofL [116, 121, 112, 101]]).row q = .cells st.t [ofL [97], ofL [98], ofL [99], ofL [110, 97, 109, 101], ofL [110], ofL [73, 110, 116], ofL [116, 121, 112, 101]] := by rw [← hq]; exact row_new_nx _ _
  have c : m = 0 ∨ m = 1 ∨ m = 2 ∨ m = 3 ∨ m = 4 ∨ m = 5 ∨ m = 6 := by omega
  rcases c with rfl | rfl | rfl | rfl | rfl | rfl | rfl
  all_goals simp only [XX, wC_seq, wC_seqj, splice_def, Nat.reduceEqDiff, ↓reduceIte, reduceCtorEq, Int.reduceToNat, Nat.reduceAdd, Nat.reduceMul, Int.reduceAdd, Int.reduceSub, Int.reduceLE, Int.reduceLT, Int.reduceNeg, Int.reduceMul, Int.reduceEq, Int.reduceNe, Nat.reduceLeDiff, Nat.reduceSub, hr]
  all_goals exact ⟨⟨by decide, by decide⟩, hg _, rfl⟩
theorem wrap64 (z : Int) : In64 (IntKind.i64.wrap z) := by
  have h1 := Int.emod_nonneg z (show (18446744073709551616 : Int) ≠ 0 by decide)
  have h2 := Int.emod_lt_of_pos z (show (0 : Int) < 18446744073709551616 by decide)
  have e : IntKind.i64.wrap z = if (9223372036854775808 : Int) ≤ z % 18446744073709551616 then z % 18446744073709551616 - 18446744073709551616 else z % 18446744073709551616 := by
    simp [IntKind.wrap, IntKind.bits, IntKind.signed]
  unfold In64
  rw [e]
  split <;> omega
set_option maxHeartbeats 1000000 in
theorem kidC {P : Pt → Prop} {st : St} {e : List V} {r : Rw} (hw : WF st) (h : RwC P st e r) (i : Nat) (hi : i < 1000) : Does (tabT tabD) n_spruelaw3_kid [.agg e, .int .i64 i] st fun v st' => Gr st st' ∧ ∃ e', v = .agg e' ∧ RwC P st' e' (kidS r i) := by
  refine does_fn at_spruelaw3_kid rfl ?_
  obtain ⟨nv, kv, es, rfl, hk, hn, hz, h1, h2, h3, ⟨hl1, hl2⟩, h4⟩ := h.inv
  obtain ⟨n0, hn0⟩ : ∃ n, st.nx = up 0 n := ⟨_, up0 _⟩
  have c1 := h1.cells
  have s1 := h1.sc
  have c2 := h2.cells
  have s2 := h2.sc
  have len2 := h2.len
  simp only [cf_spruelaw3_kid, XX, splice_def, Nat.reduceEqDiff, ↓reduceIte, reduceCtorEq, Int.reduceToNat, Nat.reduceAdd, Nat.reduceMul, Int.reduceAdd, Int.reduceSub, Int.reduceLE, Int.reduceLT, Int.reduceNeg, Int.reduceMul, Int.reduceEq, Int.reduceNe, Nat.reduceLeDiff, Nat.reduceSub]
  rw [wC_seq]; simp only [XX, splice_def, Nat.reduceEqDiff, ↓reduceIte, reduceCtorEq, Int.reduceToNat, Nat.reduceAdd, Nat.reduceMul, Int.reduceAdd, Int.reduceSub, Int.reduceLE, Int.reduceLT, Int.reduceNeg, Int.reduceMul, Int.reduceEq, Int.reduceNe, Nat.reduceLeDiff, Nat.reduceSub, hn0, c1, s1, c2, s2]
  have rel : ∀ f g : Nat → Row, Gr st ((st.new f).new g) → True := fun _ _ _ => trivial
  have gg : Gr st ((st.new fun t => .cells t [.int .i64 r.kind, .int .i64 r.n, nv, kv]).new fun t => .cells t [.int .i64 0, .int .i64 0, .snil, .snil]) := ((Gr.refl hw).nn (good_cells _)).nn (good_cells _)
  by_cases h0 : r.kids.length = 0
  · rw [h3, h0] at len2
    rw [wC_seqj, wC_seq]; simp only [XX, wC_seq, wC_seqj, splice_def, Nat.reduceEqDiff, ↓reduceIte, reduceCtorEq, Int.reduceToNat, Nat.reduceAdd, Nat.reduceMul, Int.reduceAdd, Int.reduceSub, Int.reduceLE, Int.reduceLT, Int.reduceNeg, Int.reduceMul, Int.reduceEq, Int.reduceNe, Nat.reduceLeDiff, Nat.reduceSub, hn0, len2, Int.natCast_zero]
    have gw := gg.wr (p := up 1 n0) (f := fun u => .cells u [.int .i64 (IntKind.i64.wrap (r.n + i)), .int .i64 r.kind, .snil, .snil]) (nx0 hw hn0 1) (by simp only [XX, wC_seq, wC_seqj, splice_def, Nat.reduceEqDiff, ↓reduceIte, reduceCtorEq, Int.reduceToNat, Nat.reduceAdd, Nat.reduceMul, Int.reduceAdd, Int.reduceSub, Int.reduceLE, Int.reduceLT, Int.reduceNeg, Int.reduceMul, Int.reduceEq, Int.reduceNe, Nat.reduceLeDiff, Nat.reduceSub, hn0]) (by simp only [XX, wC_seq, wC_seqj, splice_def, Nat.reduceEqDiff, ↓reduceIte, reduceCtorEq, Int.reduceToNat, Nat.reduceAdd, Nat.reduceMul, Int.reduceAdd, Int.reduceSub, Int.reduceLE, Int.reduceLT, Int.reduceNeg, Int.reduceMul, Int.reduceEq, Int.reduceNe, Nat.reduceLeDiff, Nat.reduceSub, hn0]; rfl) (good_cells _)
    refine ⟨gw, _, rfl, ?_⟩
    rw [kidS, if_pos h0]
    exact .mk (es := []) (wrap64 _) hk (fun z hz => absurd hz (by simp)) (SlAt.nil _ _ _) (SlAt.nil _ _ _) rfl ⟨by decide, by decide⟩ fun i h => absurd h (by simp)
  · have h0' : (es.length : Int) ≠ 0 := by omega
    rw [wC_seqj, wC_seq]; simp only [XX, splice_def, Nat.reduceEqDiff, ↓reduceIte, reduceCtorEq, Int.reduceToNat, Nat.reduceAdd, Nat.reduceMul, Int.reduceAdd, Int.reduceSub, Int.reduceLE, Int.reduceLT, Int.reduceNeg, Int.reduceMul, Int.reduceEq, Int.reduceNe, Nat.reduceLeDiff, Nat.reduceSub, hn0, len2, h0']
    have hj : i % es.length < es.length := Nat.mod_lt _ (by omega)
    have hmod : (i : Int).tmod (es.length : Int) = ((i % es.length : Nat) : Int) := rfl
    obtain ⟨q, o, a1, a2, a3, a4, a5⟩ := h2.elem hj
    have hkid := h4 _ hj (by omega)
    obtain ⟨nv', kv', es', he, hk', hn', hz', b1, b2, b3, b4, b5⟩ := hkid.inv
    rw [he] at a4
    have c3 := b1.cells
    have s3 := b1.sc
    have c4 := b2.cells
    have s4 := b2.sc
    have oq := fun k => nes (ne_up hw hn0 a3 k)
    simp only [XX, wC_seq, wC_seqj, splice_def, Nat.reduceEqDiff, ↓reduceIte, reduceCtorEq, Int.reduceToNat, Nat.reduceAdd, Nat.reduceMul, Int.reduceAdd, Int.reduceSub, Int.reduceLE, Int.reduceLT, Int.reduceNeg, Int.reduceMul, Int.reduceEq, Int.reduceNe, Nat.reduceLeDiff, Nat.reduceSub, hn0, len2, h0', hmod, a1, a4, c3, s3, c4, s4, oq]
    have gw := gg.wr (p := up 1 n0) (f := fun u => .cells u [.int .i64 r.kids[i % es.length].kind, .int .i64 r.kids[i % es.length].n, nv', kv']) (nx0 hw hn0 1) (by simp only [XX, wC_seq, wC_seqj, splice_def, Nat.reduceEqDiff, ↓reduceIte, reduceCtorEq, Int.reduceToNat, Nat.reduceAdd, Nat.reduceMul, Int.reduceAdd, Int.reduceSub, Int.reduceLE, Int.reduceLT, Int.reduceNeg, Int.reduceMul, Int.reduceEq, Int.reduceNe, Nat.reduceLeDiff, Nat.reduceSub, hn0]) (by simp only [XX, wC_seq, wC_seqj, splice_def, Nat.reduceEqDiff, ↓reduceIte, reduceCtorEq, Int.reduceToNat, Nat.reduceAdd, Nat.reduceMul, Int.reduceAdd, Int.reduceSub, Int.reduceLE, Int.reduceLT, Int.reduceNeg, Int.reduceMul, Int.reduceEq, Int.reduceNe, Nat.reduceLeDiff, Nat.reduceSub, hn0]; rfl) (good_cells _)
    refine ⟨gw, _, rfl, ?_⟩
    have e : ∀ j, j = i % r.kids.length → ∀ hj' : j < r.kids.length, kidS r i = r.kids[j] := by
      rintro j rfl hj'
      rw [kidS, if_neg h0]
      simp only [List.getD_eq_getElem?_getD, List.getElem?_eq_getElem hj', Option.getD_some]
    rw [e (i % es.length) (by rw [h3]) (by omega)]
    have := hkid.gr gw
    rw [he] at this
    exact this
set_option maxHeartbeats 1000000 in
theorem fewC {P : Pt → Prop} {st0 : St} {e : List V} {r : Rw} (h : RwC P st0 e r) : ∀ (st : St), Gr st0 st → ∀ most : Int, -4611686018427387904 < most → most < 4611686018427387904 → Does (tabT tabD) n_spruelaw3_Few [.agg e, .int .i64 most] st fun v st' => Gr st st' ∧ ∃ m, v = .int .i64 m ∧ 0 ≤ m ∧ (m ≤ most ∨ m = 0) := by
  induction h with
  | @mk rk rn zs ks nv kv es hk hn hz h1 h2 h3 hl h4 ih =>
  intro st g0 most hm1 hm2
  have hw := g0.wf
  refine does_fn at_spruelaw3_Few rfl ?_
  obtain ⟨n0, hn0⟩ : ∃ n, st.nx = up 0 n := ⟨_, up0 _⟩
  have c1 := h1.cells
  have s1 := h1.sc
  have c2 := h2.cells
  have s2 := h2.sc
  have len1 := h1.len
  have len2 := h2.len
  rw [cellsI_len] at len1
  simp only [cf_spruelaw3_Few, XX, splice_def, Nat.reduceEqDiff, ↓reduceIte, reduceCtorEq, Int.reduceToNat, Nat.reduceAdd, Nat.reduceMul, Int.reduceAdd, Int.reduceSub, Int.reduceLE, Int.reduceLT, Int.reduceNeg, Int.reduceMul, Int.reduceEq, Int.reduceNe, Nat.reduceLeDiff, Nat.reduceSub]
  rw [wC_seq]; simp only [XX, splice_def, Nat.reduceEqDiff, ↓reduceIte, reduceCtorEq, Int.reduceToNat, Nat.reduceAdd, Nat.reduceMul, Int.reduceAdd, Int.reduceSub, Int.reduceLE, Int.reduceLT, Int.reduceNeg, Int.reduceMul, Int.reduceEq, Int.reduceNe, Nat.reduceLeDiff, Nat.reduceSub, hn0, c1, s1, c2, s2]
  have gb : Gr st (st.new fun t => .cells t [.int .i64 rk, .int .i64 rn, nv, kv]) := Gr.new hw (good_cells _)
  by_cases h0 : most ≤ 0
  · rw [wC_seqj, wC_seq]; simp only [XX, wC_seq, wC_seqj, splice_def, Nat.reduceEqDiff, ↓reduceIte, reduceCtorEq, Int.reduceToNat, Nat.reduceAdd, Nat.reduceMul, Int.reduceAdd, Int.reduceSub, Int.reduceLE, Int.reduceLT, Int.reduceNeg, Int.reduceMul, Int.reduceEq, Int.reduceNe, Nat.reduceLeDiff, Nat.reduceSub, h0]
    exact ⟨gb, 0, rfl, by omega, .inr rfl⟩
  by_cases ha : (10 : Int) < es.length
  · rw [wC_seqj, wC_seq]; simp only [XX, wC_seq, wC_seqj, splice_def, Nat.reduceEqDiff, ↓reduceIte, reduceCtorEq, Int.reduceToNat, Nat.reduceAdd, Nat.reduceMul, Int.reduceAdd, Int.reduceSub, Int.reduceLE, Int.reduceLT, Int.reduceNeg, Int.reduceMul, Int.reduceEq, Int.reduceNe, Nat.reduceLeDiff, Nat.reduceSub, h0, hn0, len2, ha]
    exact ⟨gb, 0, rfl, by omega, .inr rfl⟩
  by_cases hb : (20 : Int) < zs.length
  · rw [wC_seqj, wC_seq]; simp only [XX, wC_seq, wC_seqj, splice_def, Nat.reduceEqDiff, ↓reduceIte, reduceCtorEq, Int.reduceToNat, Nat.reduceAdd, Nat.reduceMul, Int.reduceAdd, Int.reduceSub, Int.reduceLE, Int.reduceLT, Int.reduceNeg, Int.reduceMul, Int.reduceEq, Int.reduceNe, Nat.reduceLeDiff, Nat.reduceSub, h0, hn0, len2, len1, ha, hb]
    exact ⟨gb, 0, rfl, by omega, .inr rfl⟩
  rw [wC_seqj, wC_seq]; simp only [XX, splice_def, Nat.reduceEqDiff, ↓reduceIte, reduceCtorEq, Int.reduceToNat, Nat.reduceAdd, Nat.reduceMul, Int.reduceAdd, Int.reduceSub, Int.reduceLE, Int.reduceLT, Int.reduceNeg, Int.reduceMul, Int.reduceEq, Int.reduceNe, Nat.reduceLeDiff, Nat.reduceSub, h0, hn0, len2, len1, ha, hb]
  have hsub : IntKind.i64.wrap (most - 1) = most - 1 := i64_in (by omega) (by omega)
  rw [wC_seq]; simp only [XX, splice_def, Nat.reduceEqDiff, ↓reduceIte, reduceCtorEq, Int.reduceToNat, Nat.reduceAdd, Nat.reduceMul, Int.reduceAdd, Int.reduceSub, Int.reduceLE, Int.reduceLT, Int.reduceNeg, Int.reduceMul, Int.reduceEq, Int.reduceNe, Nat.reduceLeDiff, Nat.reduceSub, hsub]
  obtain ⟨J, hJ⟩ : ∃ J : Fr → St → Prop, ∀ fr S, J fr S ↔ (Gr st S ∧ ∃ m, fr 1 = .int .i64 m ∧ 0 ≤ m ∧ m ≤ most) := ⟨_, fun _ _ => Iff.rfl⟩
  refine wC_cut J ?_ ?_
  · rw [wC_seq]; simp only [XX, splice_def, Nat.reduceEqDiff, ↓reduceIte, reduceCtorEq, Int.reduceToNat, Nat.reduceAdd, Nat.reduceMul, Int.reduceAdd, Int.reduceSub, Int.reduceLE, Int.reduceLT, Int.reduceNeg, Int.reduceMul, Int.reduceEq, Int.reduceNe, Nat.reduceLeDiff, Nat.reduceSub]
    obtain ⟨L, hL⟩ : ∃ L : Nat → Fr → St → Prop, ∀ j fr S, L j fr S ↔ ∃ (i : Nat) (m t : Int), j + i = es.length ∧ Gr st S ∧ fr 1 = .int .i64 m ∧ 0 ≤ m ∧ m ≤ most ∧ fr 2 = .ptr (up 0 n0) 0 ∧ fr 5 = .int .i64 i ∧ S.row (up 0 n0) = .cells st.t [.int .i64 rk, .int .i64 rn, nv, kv] := ⟨_, fun _ _ _ => Iff.rfl⟩
    refine wC_loop L es.length (by omega) ((hL _ _ _).2 ⟨0, most - 1, 0, by omega, gb, by simp only [XX, wC_seq, wC_seqj, splice_def, Nat.reduceEqDiff, ↓reduceIte, reduceCtorEq, Int.reduceToNat, Nat.reduceAdd, Nat.reduceMul, Int.reduceAdd, Int.reduceSub, Int.reduceLE, Int.reduceLT, Int.reduceNeg, Int.reduceMul, Int.reduceEq, Int.reduceNe, Nat.reduceLeDiff, Nat.reduceSub], by omega, by omega, by simp only [XX, wC_seq, wC_seqj, splice_def, Nat.reduceEqDiff, ↓reduceIte, reduceCtorEq, Int.reduceToNat, Nat.reduceAdd, Nat.reduceMul, Int.reduceAdd, Int.reduceSub, Int.reduceLE, Int.reduceLT, Int.reduceNeg, Int.reduceMul, Int.reduceEq, Int.reduceNe, Nat.reduceLeDiff, Nat.reduceSub], by simp only [XX, wC_seq, wC_seqj, splice_def, Nat.reduceEqDiff, ↓reduceIte, reduceCtorEq, Int.reduceToNat, Nat.reduceAdd, Nat.reduceMul, Int.reduceAdd, Int.reduceSub, Int.reduceLE, Int.reduceLT, Int.reduceNeg, Int.reduceMul, Int.reduceEq, Int.reduceNe, Nat.reduceLeDiff, Nat.reduceSub]; rfl, by rw [← hn0]; exact row_new_nx _ _⟩) ?_
    intro j fr S hLj
    obtain ⟨i, m, _, hj, hg, f1, hm3, hm4, f2, f5, rb⟩ := (hL _ _ _).1 hLj
    by_cases hi : i < es.length
    · have hi' : (i : Int) < es.length := by omega
      by_cases hm0 : 0 < m
      · obtain ⟨q, o, a1, a2, a3, a4, a5⟩ := (h2.gr (g0.trans hg)).elem hi
        have hadd1 : IntKind.i64.wrap ((i : Int) + 1) = ((i + 1 : Nat) : Int) := by rw [i64_in (by omega) (by omega)]; rfl
        simp only [XX, wC_seq, wC_seqj, splice_def, Nat.reduceEqDiff, ↓reduceIte, reduceCtorEq, Int.reduceToNat, Nat.reduceAdd, Nat.reduceMul, Int.reduceAdd, Int.reduceSub, Int.reduceLE, Int.reduceLT, Int.reduceNeg, Int.reduceMul, Int.reduceEq, Int.reduceNe, Nat.reduceLeDiff, Nat.reduceSub, f1, f2, f5, rb, len2, hi', hm0, a1, a4]
        refine wCall_plain (ih i hi (by omega) S (g0.trans hg) m (by omega) (by omega)) ?_
        rintro _ S' ⟨g', m', rfl, b1, b2⟩
        simp only [XX, wC_seq, wC_seqj, splice_def, Nat.reduceEqDiff, ↓reduceIte, reduceCtorEq, Int.reduceToNat, Nat.reduceAdd, Nat.reduceMul, Int.reduceAdd, Int.reduceSub, Int.reduceLE, Int.reduceLT, Int.reduceNeg, Int.reduceMul, Int.reduceEq, Int.reduceNe, Nat.reduceLeDiff, Nat.reduceSub, f1, f2, f5, hadd1]
        exact ⟨es.length - (i + 1), by omega, (hL _ _ _).2 ⟨i + 1, m', 0, by omega, hg.trans g', by simp only [XX, wC_seq, wC_seqj, splice_def, Nat.reduceEqDiff, ↓reduceIte, reduceCtorEq, Int.reduceToNat, Nat.reduceAdd, Nat.reduceMul, Int.reduceAdd, Int.reduceSub, Int.reduceLE, Int.reduceLT, Int.reduceNeg, Int.reduceMul, Int.reduceEq, Int.reduceNe, Nat.reduceLeDiff, Nat.reduceSub], b1, by omega, by simp only [XX, wC_seq, wC_seqj, splice_def, Nat.reduceEqDiff, ↓reduceIte, reduceCtorEq, Int.reduceToNat, Nat.reduceAdd, Nat.reduceMul, Int.reduceAdd, Int.reduceSub, Int.reduceLE, Int.reduceLT, Int.reduceNeg, Int.reduceMul, Int.reduceEq, Int.reduceNe, Nat.reduceLeDiff, Nat.reduceSub, f2], by simp only [XX, wC_seq, wC_seqj, splice_def, Nat.reduceEqDiff, ↓reduceIte, reduceCtorEq, Int.reduceToNat, Nat.reduceAdd, Nat.reduceMul, Int.reduceAdd, Int.reduceSub, Int.reduceLE, Int.reduceLT, Int.reduceNeg, Int.reduceMul, Int.reduceEq, Int.reduceNe, Nat.reduceLeDiff, Nat.reduceSub], g'.cells rb⟩⟩
      · simp only [XX, wC_seq, wC_seqj, splice_def, Nat.reduceEqDiff, ↓reduceIte, reduceCtorEq, Int.reduceToNat, Nat.reduceAdd, Nat.reduceMul, Int.reduceAdd, Int.reduceSub, Int.reduceLE, Int.reduceLT, Int.reduceNeg, Int.reduceMul, Int.reduceEq, Int.reduceNe, Nat.reduceLeDiff, Nat.reduceSub, f1, f2, f5, rb, len2, hi', hm0]
        exact (hJ _ _).2 ⟨hg, m, by simp only [XX, wC_seq, wC_seqj, splice_def, Nat.reduceEqDiff, ↓reduceIte, reduceCtorEq, Int.reduceToNat, Nat.reduceAdd, Nat.reduceMul, Int.reduceAdd, Int.reduceSub, Int.reduceLE, Int.reduceLT, Int.reduceNeg, Int.reduceMul, Int.reduceEq, Int.reduceNe, Nat.reduceLeDiff, Nat.reduceSub, f1], hm3, hm4⟩
    · have hi' : ¬ (i : Int) < es.length := by omega
      simp only [XX, wC_seq, wC_seqj, splice_def, Nat.reduceEqDiff, ↓reduceIte, reduceCtorEq, Int.reduceToNat, Nat.reduceAdd, Nat.reduceMul, Int.reduceAdd, Int.reduceSub, Int.reduceLE, Int.reduceLT, Int.reduceNeg, Int.reduceMul, Int.reduceEq, Int.reduceNe, Nat.reduceLeDiff, Nat.reduceSub, f1, f2, f5, rb, len2, hi']
      exact (hJ _ _).2 ⟨hg, m, by simp only [XX, wC_seq, wC_seqj, splice_def, Nat.reduceEqDiff, ↓reduceIte, reduceCtorEq, Int.reduceToNat, Nat.reduceAdd, Nat.reduceMul, Int.reduceAdd, Int.reduceSub, Int.reduceLE, Int.reduceLT, Int.reduceNeg, Int.reduceMul, Int.reduceEq, Int.reduceNe, Nat.reduceLeDiff, Nat.reduceSub, f1], hm3, hm4⟩
  intro fr S hJf
  obtain ⟨hg, m, f1, hm3, hm4⟩ := (hJ _ _).1 hJf
  simp only [XX, wC_seq, wC_seqj, splice_def, Nat.reduceEqDiff, ↓reduceIte, reduceCtorEq, Int.reduceToNat, Nat.reduceAdd, Nat.reduceMul, Int.reduceAdd, Int.reduceSub, Int.reduceLE, Int.reduceLT, Int.reduceNeg, Int.reduceMul, Int.reduceEq, Int.reduceNe, Nat.reduceLeDiff, Nat.reduceSub, f1]
  exact ⟨hg, m, rfl, hm3, .inl hm4⟩
end Go.Proofs.Ytajifckdgaoncaa
