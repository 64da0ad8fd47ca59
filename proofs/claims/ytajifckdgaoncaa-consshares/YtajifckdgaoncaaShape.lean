/- What is wrong with a type. -/
import Derived.Test.YtajifckdgaoncaaIdent
import Derived.Test.YtajifckdgaoncaaEvd9
namespace Go.Proofs.Ytajifckdgaoncaa
open Eva Go.RowKit
set_option maxRecDepth 100000
set_option linter.unusedSimpArgs false
set_option linter.unusedVariables false
theorem kidsC {P : Pt → Prop} {st : St} {e : List V} {t : Ty} (hw : WF st) (h : TyC P st e t) : Does (tabT tabD) n_shape_kids [.agg e] st fun v st' => Gr st st' ∧ v = .int .i64 (kidsS t : Nat) := by
  refine does_fnG tabM at_shape_kids rfl hw fun K fin => ?_
  obtain ⟨n, hn0⟩ : ∃ n, st.nx = up 0 n := ⟨_, up0 _⟩
  have hold := fun r (h : st.row r ≠ .none) => old_up hw hn0 h
  obtain ⟨k, nm, ns, ks⟩ := t
  obtain ⟨nv, kv, es, rfl, x1, x2, x3, x4⟩ := h.inv'
  have l1 := x1.len
  rw [strs_len] at l1
  have hk : kidsS (.mk k nm ns ks) = if k = 4 ∨ k = 5 ∨ k = 6 then 1 else if k = 7 ∨ k = 8 then ns.length else 0 := rfl
  have fin' := fun v => fin v (st.new fun t => .cells t [.int .i64 k, ofL nm, nv, kv]) (fun r e => by simp only [row_newI, hn0, hold r e, if_false])
  by_cases c4 : k = 4
  · simp only [cf_shape_kids, XX, wC_seq, wC_seqj, splice_def, Nat.reduceEqDiff, ↓reduceIte, reduceCtorEq, Int.reduceToNat, Nat.reduceAdd, Nat.reduceMul, Int.reduceAdd, Int.reduceSub, Int.reduceLE, Int.reduceLT, Int.reduceNeg, Int.reduceMul, Int.reduceEq, Int.reduceNe, Nat.reduceLeDiff, Nat.reduceSub, hn0, x1.cells, x2.cells, x1.sc, x2.sc, l1, c4]
    subst c4; exact fin' _ fun _ => rfl
  by_cases c5 : k = 5
  · simp only [cf_shape_kids, XX, wC_seq, wC_seqj, splice_def, Nat.reduceEqDiff, ↓reduceIte, reduceCtorEq, Int.reduceToNat, Nat.reduceAdd, Nat.reduceMul, Int.reduceAdd, Int.reduceSub, Int.reduceLE, Int.reduceLT, Int.reduceNeg, Int.reduceMul, Int.reduceEq, Int.reduceNe, Nat.reduceLeDiff, Nat.reduceSub, hn0, x1.cells, x2.cells, x1.sc, x2.sc, l1, c4, c5]
    subst c5; exact fin' _ fun _ => rfl
  by_cases c6 : k = 6
  · simp only [cf_shape_kids, XX, wC_seq, wC_seqj, splice_def, Nat.reduceEqDiff, ↓reduceIte, reduceCtorEq, Int.reduceToNat, Nat.reduceAdd, Nat.reduceMul, Int.reduceAdd, Int.reduceSub, Int.reduceLE, Int.reduceLT, Int.reduceNeg, Int.reduceMul, Int.reduceEq, Int.reduceNe, Nat.reduceLeDiff, Nat.reduceSub, hn0, x1.cells, x2.cells, x1.sc, x2.sc, l1, c4, c5, c6]
    subst c6; exact fin' _ fun _ => rfl
  by_cases c7 : k = 7
  · simp only [cf_shape_kids, XX, wC_seq, wC_seqj, splice_def, Nat.reduceEqDiff, ↓reduceIte, reduceCtorEq, Int.reduceToNat, Nat.reduceAdd, Nat.reduceMul, Int.reduceAdd, Int.reduceSub, Int.reduceLE, Int.reduceLT, Int.reduceNeg, Int.reduceMul, Int.reduceEq, Int.reduceNe, Nat.reduceLeDiff, Nat.reduceSub, hn0, x1.cells, x2.cells, x1.sc, x2.sc, l1, c4, c5, c6, c7]
    subst c7; exact fin' _ fun _ => rfl
  by_cases c8 : k = 8
  · simp only [cf_shape_kids, XX, wC_seq, wC_seqj, splice_def, Nat.reduceEqDiff, ↓reduceIte, reduceCtorEq, Int.reduceToNat, Nat.reduceAdd, Nat.reduceMul, Int.reduceAdd, Int.reduceSub, Int.reduceLE, Int.reduceLT, Int.reduceNeg, Int.reduceMul, Int.reduceEq, Int.reduceNe, Nat.reduceLeDiff, Nat.reduceSub, hn0, x1.cells, x2.cells, x1.sc, x2.sc, l1, c4, c5, c6, c7, c8]
    subst c8; exact fin' _ fun _ => rfl
  simp only [cf_shape_kids, XX, wC_seq, wC_seqj, splice_def, Nat.reduceEqDiff, ↓reduceIte, reduceCtorEq, Int.reduceToNat, Nat.reduceAdd, Nat.reduceMul, Int.reduceAdd, Int.reduceSub, Int.reduceLE, Int.reduceLT, Int.reduceNeg, Int.reduceMul, Int.reduceEq, Int.reduceNe, Nat.reduceLeDiff, Nat.reduceSub, hn0, x1.cells, x2.cells, x1.sc, x2.sc, l1, c4, c5, c6, c7, c8]
  refine fin' _ fun _ => ?_
  rw [hk, if_neg (by omega), if_neg (by omega)]; rfl
theorem namesS_step {p : Option Str} {n : Str} {r : List Str} (h1 : identB n = true) (h2 : notLess p n = false) : namesS p (n :: r) = namesS (some n) r := by
  rw [namesS, if_neg (by rw [h1]; simp), if_neg (by rw [h2]; simp)]
set_option maxHeartbeats 1000000 in
theorem fieldsC {P : Pt → Prop} {st : St} {e : List V} {t : Ty} (hw : WF st) (h : TyC P st e t) : Does (tabT tabD) n_shape_fields [.agg e] st fun v st' => Gr st st' ∧ v = .int .i64 (fieldsS t) := by
  refine does_fnG tabM at_shape_fields rfl hw fun K fin => ?_
  obtain ⟨n, hn0⟩ : ∃ n, st.nx = up 0 n := ⟨_, up0 _⟩
  have hold := fun r (h : st.row r ≠ .none) => old_up hw hn0 h
  obtain ⟨k, nm, ns, ks⟩ := t
  obtain ⟨nv, kv, es, rfl, x1, x2, x3, x4⟩ := h.inv'
  have l1 := x1.len
  rw [strs_len] at l1
  have g0 : Gr st (st.new fun t => .cells t [.int .i64 k, ofL nm, nv, kv]) := Gr.new hw (good_cells _)
  have hk : fieldsS (.mk k nm ns ks) = if 8 < ns.length then 3 else if namesS none ns ≠ 0 then namesS none ns else if k = 8 ∧ ns = [] then 12 else 0 := rfl
  have fin' := fun v => fin v (st.new fun t => .cells t [.int .i64 k, ofL nm, nv, kv]) (fun r e => by simp only [row_newI, hn0, hold r e, if_false])
  by_cases c1 : 8 < ns.length
  · have c1' : (8 : Int) < ns.length := by omega
    simp only [cf_shape_fields, XX, wC_seq, wC_seqj, splice_def, Nat.reduceEqDiff, ↓reduceIte, reduceCtorEq, Int.reduceToNat, Nat.reduceAdd, Nat.reduceMul, Int.reduceAdd, Int.reduceSub, Int.reduceLE, Int.reduceLT, Int.reduceNeg, Int.reduceMul, Int.reduceEq, Int.reduceNe, Nat.reduceLeDiff, Nat.reduceSub, hn0, x1.cells, x2.cells, x1.sc, x2.sc, l1, c1']
    exact fin' _ fun _ => by rw [hk, if_pos c1]
  have c1' : ¬ (8 : Int) < ns.length := by omega
  simp only [cf_shape_fields, XX, wC_seq, wC_seqj, splice_def, Nat.reduceEqDiff, ↓reduceIte, reduceCtorEq, Int.reduceToNat, Nat.reduceAdd, Nat.reduceMul, Int.reduceAdd, Int.reduceSub, Int.reduceLE, Int.reduceLT, Int.reduceNeg, Int.reduceMul, Int.reduceEq, Int.reduceNe, Nat.reduceLeDiff, Nat.reduceSub, hn0, x1.cells, x2.cells, x1.sc, x2.sc, l1, c1']
  obtain ⟨I, hI⟩ : ∃ I : Nat → Fr → St → Prop, ∀ j fr S, I j fr S ↔ ∃ i p, j + i = ns.length ∧ fr 1 = .ptr (up 0 n) 0 ∧ fr 10 = nv ∧ fr 11 = .int .i64 ns.length ∧ fr 12 = .int .i64 i ∧ Gr (st.new fun t => .cells t [.int .i64 k, ofL nm, nv, kv]) S ∧ namesS none ns = namesS p (ns.drop i) ∧ (p = if i = 0 then none else ns[i - 1]?) := ⟨_, fun _ _ _ => Iff.rfl⟩
  refine wC_loop I ns.length (by omega) ?_ ?_
  · refine (hI _ _ _).2 ⟨0, none, by omega, ?_, ?_, ?_, ?_, Gr.refl g0.wf, rfl, rfl⟩
    all_goals simp only [XX, wC_seq, wC_seqj, splice_def, Nat.reduceEqDiff, ↓reduceIte, reduceCtorEq, Int.reduceToNat, Nat.reduceAdd, Nat.reduceMul, Int.reduceAdd, Int.reduceSub, Int.reduceLE, Int.reduceLT, Int.reduceNeg, Int.reduceMul, Int.reduceEq, Int.reduceNe, Nat.reduceLeDiff, Nat.reduceSub]
    all_goals rfl
  · rintro j fr S hIj
    obtain ⟨i, p, hj, f1, f10, f11, f12, hg, hrec, hp⟩ := (hI _ _ _).1 hIj
    have b0 : S.row (up 0 n) = .cells st.t [.int .i64 k, ofL nm, nv, kv] := hg.cells (by simp only [XX, wC_seq, wC_seqj, splice_def, Nat.reduceEqDiff, ↓reduceIte, reduceCtorEq, Int.reduceToNat, Nat.reduceAdd, Nat.reduceMul, Int.reduceAdd, Int.reduceSub, Int.reduceLE, Int.reduceLT, Int.reduceNeg, Int.reduceMul, Int.reduceEq, Int.reduceNe, Nat.reduceLeDiff, Nat.reduceSub, hn0])
    have x1S := x1.gr (g0.trans hg)
    by_cases hi : i < ns.length
    · have hi' : (i : Int) < ns.length := by omega
      obtain ⟨q, qo, a1, a2, a3, a4⟩ := x1S.one (xs := ns.map ofL) (i := i) (by simpa using hi)
      simp only [List.getElem_map] at a4
      simp only [XX, wC_seq, wC_seqj, splice_def, Nat.reduceEqDiff, ↓reduceIte, reduceCtorEq, Int.reduceToNat, Nat.reduceAdd, Nat.reduceMul, Int.reduceAdd, Int.reduceSub, Int.reduceLE, Int.reduceLT, Int.reduceNeg, Int.reduceMul, Int.reduceEq, Int.reduceNe, Nat.reduceLeDiff, Nat.reduceSub, f1, f10, f11, f12, hi', a1, a4]
      have G := g0.trans hg
      have hd := List.drop_eq_getElem_cons hi
      refine wCall_plain (identC _ _ hg.wf) ?_
      rintro _ S2 ⟨g2, rfl⟩
      have G2 := G.trans g2
      have b2 := g2.cells b0
      cases hid : identB ns[i] with
      | false =>
        simp only [XX, wC_seq, wC_seqj, splice_def, Nat.reduceEqDiff, ↓reduceIte, reduceCtorEq, Int.reduceToNat, Nat.reduceAdd, Nat.reduceMul, Int.reduceAdd, Int.reduceSub, Int.reduceLE, Int.reduceLT, Int.reduceNeg, Int.reduceMul, Int.reduceEq, Int.reduceNe, Nat.reduceLeDiff, Nat.reduceSub]
        refine fin _ _ (fun r e => G2.same r e) fun _ => ?_
        rw [hk, if_neg c1, hrec, hd, namesS, if_pos hid]; rfl
      | true =>
        have hadd1 : IntKind.i64.wrap ((i : Int) + 1) = ((i + 1 : Nat) : Int) := by rw [i64_in (by omega) (by omega)]; rfl
        have next : ∀ {fr' : Fr}, notLess p ns[i] = false → fr' 1 = .ptr (up 0 n) 0 → fr' 10 = nv → fr' 11 = .int .i64 ns.length → fr' 12 = .int .i64 ((i + 1 : Nat) : Int) → ∃ j', j' < j ∧ I j' fr' S2 := fun {fr'} hl e1 e10 e11 e12 =>
          ⟨ns.length - (i + 1), by omega, (hI _ _ _).2 ⟨i + 1, some ns[i], by omega, e1, e10, e11, e12, hg.trans g2, by rw [hrec, hd, namesS_step hid hl], by rw [if_neg (by omega)]; simp [hi]⟩⟩
        by_cases h0 : i = 0
        · have h0' : ¬ (0 : Int) < (i : Int) := by omega
          simp only [XX, wC_seq, wC_seqj, splice_def, Nat.reduceEqDiff, ↓reduceIte, reduceCtorEq, Int.reduceToNat, Nat.reduceAdd, Nat.reduceMul, Int.reduceAdd, Int.reduceSub, Int.reduceLE, Int.reduceLT, Int.reduceNeg, Int.reduceMul, Int.reduceEq, Int.reduceNe, Nat.reduceLeDiff, Nat.reduceSub, f1, f10, f11, f12, h0', hadd1]
          refine next (by rw [hp, if_pos h0]; rfl) ?_ ?_ ?_ ?_ <;> simp only [XX, wC_seq, wC_seqj, splice_def, Nat.reduceEqDiff, ↓reduceIte, reduceCtorEq, Int.reduceToNat, Nat.reduceAdd, Nat.reduceMul, Int.reduceAdd, Int.reduceSub, Int.reduceLE, Int.reduceLT, Int.reduceNeg, Int.reduceMul, Int.reduceEq, Int.reduceNe, Nat.reduceLeDiff, Nat.reduceSub, f1, f10, f11, f12]
        · have h0' : (0 : Int) < (i : Int) := by omega
          have hsub : IntKind.i64.wrap ((i : Int) - 1) = ((i - 1 : Nat) : Int) := by rw [i64_in (by omega) (by omega)]; omega
          obtain ⟨q', qo', d1, d2, d3, d4⟩ := (x1.gr G2).one (xs := ns.map ofL) (i := i - 1) (by simp; omega)
          simp only [List.getElem_map] at d4
          have hp' : p = some ns[i - 1] := by rw [hp, if_neg h0, List.getElem?_eq_getElem (by omega)]
          cases hl : Op.bytesLess ns[i - 1] ns[i] with
          | false =>
            simp only [XX, wC_seq, wC_seqj, splice_def, Nat.reduceEqDiff, ↓reduceIte, reduceCtorEq, Int.reduceToNat, Nat.reduceAdd, Nat.reduceMul, Int.reduceAdd, Int.reduceSub, Int.reduceLE, Int.reduceLT, Int.reduceNeg, Int.reduceMul, Int.reduceEq, Int.reduceNe, Nat.reduceLeDiff, Nat.reduceSub, f1, f10, f11, f12, h0', b2, hsub, d1, d4, binV_sgeq, hl]
            refine fin _ _ (fun r e => G2.same r e) fun _ => ?_
            have hv : namesS none ns = 6 := by rw [hrec, hd, namesS, if_neg (by rw [hid]; simp), if_pos (by rw [hp', notLess, hl]; rfl)]
            rw [hk, if_neg c1, hv]; rfl
          | true =>
            simp only [XX, wC_seq, wC_seqj, splice_def, Nat.reduceEqDiff, ↓reduceIte, reduceCtorEq, Int.reduceToNat, Nat.reduceAdd, Nat.reduceMul, Int.reduceAdd, Int.reduceSub, Int.reduceLE, Int.reduceLT, Int.reduceNeg, Int.reduceMul, Int.reduceEq, Int.reduceNe, Nat.reduceLeDiff, Nat.reduceSub, f1, f10, f11, f12, h0', b2, hsub, d1, d4, binV_sgeq, hl, hadd1]
            refine next (by rw [hp', notLess, hl]; rfl) ?_ ?_ ?_ ?_ <;> simp only [XX, wC_seq, wC_seqj, splice_def, Nat.reduceEqDiff, ↓reduceIte, reduceCtorEq, Int.reduceToNat, Nat.reduceAdd, Nat.reduceMul, Int.reduceAdd, Int.reduceSub, Int.reduceLE, Int.reduceLT, Int.reduceNeg, Int.reduceMul, Int.reduceEq, Int.reduceNe, Nat.reduceLeDiff, Nat.reduceSub, f1, f10, f11, f12]
    · have hi' : ¬ (i : Int) < ns.length := by omega
      have hie : i = ns.length := by omega
      have hn : namesS none ns = 0 := by rw [hrec, hie, List.drop_length, namesS]
      have G := g0.trans hg
      by_cases c8 : k = 8
      · by_cases cn : ns.length = 0
        · have cn' : ((ns.length : Int) = 0) = True := eq_true (by omega)
          have c8' : (k = 8) = True := eq_true c8
          simp only [XX, wC_seq, wC_seqj, splice_def, Nat.reduceEqDiff, ↓reduceIte, reduceCtorEq, Int.reduceToNat, Nat.reduceAdd, Nat.reduceMul, Int.reduceAdd, Int.reduceSub, Int.reduceLE, Int.reduceLT, Int.reduceNeg, Int.reduceMul, Int.reduceEq, Int.reduceNe, Nat.reduceLeDiff, Nat.reduceSub, f1, f10, f11, f12, hi', b0, l1, c8', cn']
          refine fin _ _ (fun r e => G.same r e) fun _ => ?_
          rw [hk, if_neg c1, hn, if_neg (by simp), if_pos ⟨c8, List.length_eq_zero_iff.1 cn⟩]
        · have cn' : ((ns.length : Int) = 0) = False := eq_false (by omega)
          have c8' : (k = 8) = True := eq_true c8
          simp only [XX, wC_seq, wC_seqj, splice_def, Nat.reduceEqDiff, ↓reduceIte, reduceCtorEq, Int.reduceToNat, Nat.reduceAdd, Nat.reduceMul, Int.reduceAdd, Int.reduceSub, Int.reduceLE, Int.reduceLT, Int.reduceNeg, Int.reduceMul, Int.reduceEq, Int.reduceNe, Nat.reduceLeDiff, Nat.reduceSub, f1, f10, f11, f12, hi', b0, l1, c8', cn']
          refine fin _ _ (fun r e => G.same r e) fun _ => ?_
          rw [hk, if_neg c1, hn, if_neg (by simp), if_neg fun h => cn (by rw [h.2]; rfl)]
      · simp only [XX, wC_seq, wC_seqj, splice_def, Nat.reduceEqDiff, ↓reduceIte, reduceCtorEq, Int.reduceToNat, Nat.reduceAdd, Nat.reduceMul, Int.reduceAdd, Int.reduceSub, Int.reduceLE, Int.reduceLT, Int.reduceNeg, Int.reduceMul, Int.reduceEq, Int.reduceNe, Nat.reduceLeDiff, Nat.reduceSub, f1, f10, f11, f12, hi', b0, l1, c8]
        refine fin _ _ (fun r e => G.same r e) fun _ => ?_
        rw [hk, if_neg c1, hn, if_neg (by simp), if_neg fun h => c8 h.1]
end Go.Proofs.Ytajifckdgaoncaa
