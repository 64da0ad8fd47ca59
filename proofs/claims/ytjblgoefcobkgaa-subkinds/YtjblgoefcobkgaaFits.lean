/- Which types fit. -/
import Derived.Test.YtjblgoefcobkgaaOpen
import Derived.Test.YtjblgoefcobkgaaEvd9
namespace Go.Proofs.Ytjblgoefcobkgaa
open Eva Go.RowKit
set_option maxRecDepth 100000
set_option linter.unusedSimpArgs false
set_option linter.unusedVariables false
theorem indexC {P : Pt → Prop} {st : St} {v : V} {l : List Str} (n : Str) (h : SlAt P st v 1 (strs l)) (hl : l.length < 1000000) :
    Does (tabT tabD) n_slices_Index_string [v, ofL n] st fun v' st' => v' = .int .i64 (match idxN n l 0 with | some j => (j : Int) | none => -1) ∧ st = st' := by
  refine does_fn at_slices_Index_string rfl ?_
  have l1 := h.len
  rw [strs_len] at l1
  simp only [cf_slices_Index_string, XX, wC_seq, wC_seqj, splice_def, Nat.reduceEqDiff, ↓reduceIte, reduceCtorEq, Int.reduceToNat, Nat.reduceAdd, Nat.reduceMul, Int.reduceAdd, Int.reduceSub, Int.reduceLE, Int.reduceLT, Int.reduceNeg, Int.reduceMul, Int.reduceEq, Int.reduceNe, Nat.reduceLeDiff, Nat.reduceSub, l1]
  obtain ⟨K, hK⟩ : ∃ K : V → St → Prop, ∀ v' S, K v' S ↔ (v' = .int .i64 (match idxN n l 0 with | some j => (j : Int) | none => -1) ∧ st = S) := ⟨_, fun _ _ => Iff.rfl⟩
  simp only [← hK]
  obtain ⟨L, hL⟩ : ∃ L : Nat → Fr → St → Prop, ∀ j fr S, L j fr S ↔ ∃ (i : Nat), S = st ∧ j + i = l.length ∧ fr 0 = v ∧ fr 1 = ofL n ∧ fr 7 = .int .i64 l.length ∧ fr 8 = .int .i64 i ∧ idxN n l 0 = idxN n (l.drop i) i := ⟨_, fun _ _ _ => Iff.rfl⟩
  refine wC_loop L l.length hl ((hL _ _ _).2 ⟨0, rfl, by omega, by simp only [XX, wC_seq, wC_seqj, splice_def, Nat.reduceEqDiff, ↓reduceIte, reduceCtorEq, Int.reduceToNat, Nat.reduceAdd, Nat.reduceMul, Int.reduceAdd, Int.reduceSub, Int.reduceLE, Int.reduceLT, Int.reduceNeg, Int.reduceMul, Int.reduceEq, Int.reduceNe, Nat.reduceLeDiff, Nat.reduceSub], by simp only [XX, wC_seq, wC_seqj, splice_def, Nat.reduceEqDiff, ↓reduceIte, reduceCtorEq, Int.reduceToNat, Nat.reduceAdd, Nat.reduceMul, Int.reduceAdd, Int.reduceSub, Int.reduceLE, Int.reduceLT, Int.reduceNeg, Int.reduceMul, Int.reduceEq, Int.reduceNe, Nat.reduceLeDiff, Nat.reduceSub], by simp only [XX, wC_seq, wC_seqj, splice_def, Nat.reduceEqDiff, ↓reduceIte, reduceCtorEq, Int.reduceToNat, Nat.reduceAdd, Nat.reduceMul, Int.reduceAdd, Int.reduceSub, Int.reduceLE, Int.reduceLT, Int.reduceNeg, Int.reduceMul, Int.reduceEq, Int.reduceNe, Nat.reduceLeDiff, Nat.reduceSub], by simp only [XX, wC_seq, wC_seqj, splice_def, Nat.reduceEqDiff, ↓reduceIte, reduceCtorEq, Int.reduceToNat, Nat.reduceAdd, Nat.reduceMul, Int.reduceAdd, Int.reduceSub, Int.reduceLE, Int.reduceLT, Int.reduceNeg, Int.reduceMul, Int.reduceEq, Int.reduceNe, Nat.reduceLeDiff, Nat.reduceSub]; rfl, rfl⟩) ?_
  intro j fr S hLj
  obtain ⟨i, rfl, hj, f0, f1, f7, f8, hrec⟩ := (hL _ _ _).1 hLj
  by_cases hi : i < l.length
  · have hi' : (i : Int) < l.length := by omega
    obtain ⟨q, qo, a1, a2, a3, a4⟩ := h.one (xs := l.map ofL) (i := i) (by simpa using hi)
    simp only [List.getElem_map] at a4
    have hadd1 : IntKind.i64.wrap ((i : Int) + 1) = ((i + 1 : Nat) : Int) := by rw [i64_in (by omega) (by omega)]; rfl
    rw [List.drop_eq_getElem_cons hi, idxN] at hrec
    by_cases e : n = l[i]
    · rw [if_pos e] at hrec
      have e' : (n = l[i]) = True := eq_true e
      simp only [XX, wC_seq, wC_seqj, splice_def, Nat.reduceEqDiff, ↓reduceIte, reduceCtorEq, Int.reduceToNat, Nat.reduceAdd, Nat.reduceMul, Int.reduceAdd, Int.reduceSub, Int.reduceLE, Int.reduceLT, Int.reduceNeg, Int.reduceMul, Int.reduceEq, Int.reduceNe, Nat.reduceLeDiff, Nat.reduceSub, f0, f1, f7, f8, hi', a1, a4, e']
      rw [hK, hrec]; exact ⟨rfl, rfl⟩
    · rw [if_neg e] at hrec
      have e' : (n = l[i]) = False := eq_false e
      simp only [XX, wC_seq, wC_seqj, splice_def, Nat.reduceEqDiff, ↓reduceIte, reduceCtorEq, Int.reduceToNat, Nat.reduceAdd, Nat.reduceMul, Int.reduceAdd, Int.reduceSub, Int.reduceLE, Int.reduceLT, Int.reduceNeg, Int.reduceMul, Int.reduceEq, Int.reduceNe, Nat.reduceLeDiff, Nat.reduceSub, f0, f1, f7, f8, hi', a1, a4, e', hadd1]
      exact ⟨l.length - (i + 1), by omega, (hL _ _ _).2 ⟨i + 1, rfl, by omega, by simp only [XX, wC_seq, wC_seqj, splice_def, Nat.reduceEqDiff, ↓reduceIte, reduceCtorEq, Int.reduceToNat, Nat.reduceAdd, Nat.reduceMul, Int.reduceAdd, Int.reduceSub, Int.reduceLE, Int.reduceLT, Int.reduceNeg, Int.reduceMul, Int.reduceEq, Int.reduceNe, Nat.reduceLeDiff, Nat.reduceSub, f0], by simp only [XX, wC_seq, wC_seqj, splice_def, Nat.reduceEqDiff, ↓reduceIte, reduceCtorEq, Int.reduceToNat, Nat.reduceAdd, Nat.reduceMul, Int.reduceAdd, Int.reduceSub, Int.reduceLE, Int.reduceLT, Int.reduceNeg, Int.reduceMul, Int.reduceEq, Int.reduceNe, Nat.reduceLeDiff, Nat.reduceSub, f1], by simp only [XX, wC_seq, wC_seqj, splice_def, Nat.reduceEqDiff, ↓reduceIte, reduceCtorEq, Int.reduceToNat, Nat.reduceAdd, Nat.reduceMul, Int.reduceAdd, Int.reduceSub, Int.reduceLE, Int.reduceLT, Int.reduceNeg, Int.reduceMul, Int.reduceEq, Int.reduceNe, Nat.reduceLeDiff, Nat.reduceSub, f7], by simp only [XX, wC_seq, wC_seqj, splice_def, Nat.reduceEqDiff, ↓reduceIte, reduceCtorEq, Int.reduceToNat, Nat.reduceAdd, Nat.reduceMul, Int.reduceAdd, Int.reduceSub, Int.reduceLE, Int.reduceLT, Int.reduceNeg, Int.reduceMul, Int.reduceEq, Int.reduceNe, Nat.reduceLeDiff, Nat.reduceSub], hrec⟩⟩
  · have hi' : ¬ (i : Int) < l.length := by omega
    have hie : i = l.length := by omega
    rw [hie, List.drop_length, idxN] at hrec
    simp only [XX, wC_seq, wC_seqj, splice_def, Nat.reduceEqDiff, ↓reduceIte, reduceCtorEq, Int.reduceToNat, Nat.reduceAdd, Nat.reduceMul, Int.reduceAdd, Int.reduceSub, Int.reduceLE, Int.reduceLT, Int.reduceNeg, Int.reduceMul, Int.reduceEq, Int.reduceNe, Nat.reduceLeDiff, Nat.reduceSub, f0, f1, f7, f8, hi']
    rw [hK, hrec]; exact ⟨rfl, rfl⟩
def FitsOK (f : Nat) : Prop := ∀ (W F : Pt → Prop) (st : St) (rt kr rw : Pt) (tb : Tb) (was : Was) (a b : Nat) (r : Bool × Was), WF st → AskAt W F st rt kr rw tb was → fitsS tb f was a b = some r →
  Does (tabT tabD) n_sub_asker_fits [.ptr kr 0, .int .i64 a, .int .i64 b] st fun v st' => Ch (fun r => r = rw) st st' ∧ AskAt W F st' rt kr rw tb r.2 ∧ v = .bool r.1
theorem ints_at {P : Pt → Prop} {st : St} {v : V} {l : List Nat} (h : SlAt P st v 1 (ints l)) {i : Nat} (hi : i < l.length) : ∃ r q, iaddrSV 1 v (.int .i64 i) = some (.ptr r q, .no) ∧ P r ∧ (st.row r ≠ .none) ∧ ld1 (st.row r) q = some (.int .i64 (l.getD i 0 : Nat), .no) := by
  obtain ⟨r, q, a, b, c, d⟩ := h.one (xs := l.map fun n : Nat => V.int .i64 (n : Int)) (i := i) (by simpa using hi)
  refine ⟨r, q, a, b, c, ?_⟩
  rw [d]
  simp [List.getD_eq_getElem?_getD, hi]
set_option maxHeartbeats 2000000 in
theorem kidsC2 {f : Nat} (hf : FitsOK f) {W F P : Pt → Prop} {st : St} {rt kr rw : Pt} {tb : Tb} {was : Was} {x y : Nd} {ex ey : List V} {r : Bool × Was} (hw : WF st) (hA : AskAt W F st rt kr rw tb was) (hx : NdC P st ex x) (hy : NdC P st ey y) (hP : ∀ r, P r → r ≠ rw) (hl : x.kids.length < 1000000) (hr : asksS (fitsS tb f) (kidsP y x.kids 0) was = some r) :
    Does (tabT tabD) n_sub_asker_kids [.ptr kr 0, .agg ex, .agg ey] st fun v st' => Ch (fun r => r = rw) st st' ∧ AskAt W F st' rt kr rw tb r.2 ∧ v = .bool r.1 := by
  refine does_fnC tabM at_sub_asker_kids rfl hw fun K fin => ?_
  obtain ⟨n, hn0⟩ : ∃ n, st.nx = up 0 n := ⟨_, up0 _⟩
  have hold := fun r (h : st.row r ≠ .none) => old_up hw hn0 h
  obtain ⟨nvx, kvx, rfl, x1, x2⟩ := hx
  obtain ⟨nvy, kvy, rfl, y1, y2⟩ := hy
  have lx := x2.len; have ly := y2.len
  rw [ints_len] at lx ly
  have g0 : Gr st ((st.new fun t => .cells t [.int .i64 x.kind, ofL x.name, nvx, kvx]).new fun t => .cells t [.int .i64 y.kind, ofL y.name, nvy, kvy]) := (Gr.new hw (good_cells _)).nn (good_cells _)
  simp only [cf_sub_asker_kids, XX, wC_seq, wC_seqj, splice_def, Nat.reduceEqDiff, ↓reduceIte, reduceCtorEq, Int.reduceToNat, Nat.reduceAdd, Nat.reduceMul, Int.reduceAdd, Int.reduceSub, Int.reduceLE, Int.reduceLT, Int.reduceNeg, Int.reduceMul, Int.reduceEq, Int.reduceNe, Nat.reduceLeDiff, Nat.reduceSub, hn0, x1.cells, x1.sc, x2.cells, x2.sc, y1.cells, y1.sc, y2.cells, y2.sc, lx]
  have hrw : st.row rw ≠ .none := hA.map.ne
  have o0 := ne_up hw hn0 hrw 0
  have o1 := ne_up hw hn0 hrw 1
  obtain ⟨L, hL⟩ : ∃ L : Nat → Fr → St → Prop, ∀ j fr S, L j fr S ↔ ∃ (i : Nat) (wi : Was) (t0 t1 : Nat), j + i = x.kids.length ∧ fr 0 = .ptr kr 0 ∧ fr 4 = .ptr (up 0 n) 0 ∧ fr 5 = .ptr (up 1 n) 0 ∧ fr 10 = .int .i64 x.kids.length ∧ fr 11 = .int .i64 i ∧ Ch (fun r => r = rw) st S ∧ AskAt W F S rt kr rw tb wi ∧ S.row (up 0 n) = .cells t0 [.int .i64 x.kind, ofL x.name, nvx, kvx] ∧ S.row (up 1 n) = .cells t1 [.int .i64 y.kind, ofL y.name, nvy, kvy] ∧ asksS (fitsS tb f) (kidsP y x.kids 0) was = asksS (fitsS tb f) (kidsP y (x.kids.drop i) i) wi := ⟨_, fun _ _ _ => Iff.rfl⟩
  refine wC_loop L x.kids.length hl ((hL _ _ _).2 ⟨0, was, _, _, by omega, by simp only [XX, wC_seq, wC_seqj, splice_def, Nat.reduceEqDiff, ↓reduceIte, reduceCtorEq, Int.reduceToNat, Nat.reduceAdd, Nat.reduceMul, Int.reduceAdd, Int.reduceSub, Int.reduceLE, Int.reduceLT, Int.reduceNeg, Int.reduceMul, Int.reduceEq, Int.reduceNe, Nat.reduceLeDiff, Nat.reduceSub], by simp only [XX, wC_seq, wC_seqj, splice_def, Nat.reduceEqDiff, ↓reduceIte, reduceCtorEq, Int.reduceToNat, Nat.reduceAdd, Nat.reduceMul, Int.reduceAdd, Int.reduceSub, Int.reduceLE, Int.reduceLT, Int.reduceNeg, Int.reduceMul, Int.reduceEq, Int.reduceNe, Nat.reduceLeDiff, Nat.reduceSub], by simp only [XX, wC_seq, wC_seqj, splice_def, Nat.reduceEqDiff, ↓reduceIte, reduceCtorEq, Int.reduceToNat, Nat.reduceAdd, Nat.reduceMul, Int.reduceAdd, Int.reduceSub, Int.reduceLE, Int.reduceLT, Int.reduceNeg, Int.reduceMul, Int.reduceEq, Int.reduceNe, Nat.reduceLeDiff, Nat.reduceSub], by simp only [XX, wC_seq, wC_seqj, splice_def, Nat.reduceEqDiff, ↓reduceIte, reduceCtorEq, Int.reduceToNat, Nat.reduceAdd, Nat.reduceMul, Int.reduceAdd, Int.reduceSub, Int.reduceLE, Int.reduceLT, Int.reduceNeg, Int.reduceMul, Int.reduceEq, Int.reduceNe, Nat.reduceLeDiff, Nat.reduceSub], by simp only [XX, wC_seq, wC_seqj, splice_def, Nat.reduceEqDiff, ↓reduceIte, reduceCtorEq, Int.reduceToNat, Nat.reduceAdd, Nat.reduceMul, Int.reduceAdd, Int.reduceSub, Int.reduceLE, Int.reduceLT, Int.reduceNeg, Int.reduceMul, Int.reduceEq, Int.reduceNe, Nat.reduceLeDiff, Nat.reduceSub]; rfl, Ch.of _ g0, hA.gr g0, by simp only [XX, wC_seq, wC_seqj, splice_def, Nat.reduceEqDiff, ↓reduceIte, reduceCtorEq, Int.reduceToNat, Nat.reduceAdd, Nat.reduceMul, Int.reduceAdd, Int.reduceSub, Int.reduceLE, Int.reduceLT, Int.reduceNeg, Int.reduceMul, Int.reduceEq, Int.reduceNe, Nat.reduceLeDiff, Nat.reduceSub, hn0]; rfl, by simp only [XX, wC_seq, wC_seqj, splice_def, Nat.reduceEqDiff, ↓reduceIte, reduceCtorEq, Int.reduceToNat, Nat.reduceAdd, Nat.reduceMul, Int.reduceAdd, Int.reduceSub, Int.reduceLE, Int.reduceLT, Int.reduceNeg, Int.reduceMul, Int.reduceEq, Int.reduceNe, Nat.reduceLeDiff, Nat.reduceSub, hn0]; rfl, rfl⟩) ?_
  intro j fr S hLj
  obtain ⟨i, wi, t0, t1, hj, f0, f4, f5, f10, f11, hC, hAi, r0, r1, hrec⟩ := (hL _ _ _).1 hLj
  have wS := hC.wf
  by_cases hi : i < x.kids.length
  · have hi' : (i : Int) < x.kids.length := by omega
    have hk : ∀ r, P r → st.row r ≠ .none → P r ∧ S.row r = st.row r := fun r p e => ⟨p, hC.same r e (hP r p)⟩
    have hadd1 : IntKind.i64.wrap ((i : Int) + 1) = ((i + 1 : Nat) : Int) := by rw [i64_in (by omega) (by omega)]; rfl
    have hd : x.kids.drop i = x.kids.getD i 0 :: x.kids.drop (i + 1) := by
      rw [List.drop_eq_getElem_cons hi]; simp [List.getD_eq_getElem?_getD, hi]
    rw [hd, kidsP] at hrec
    by_cases hy : i < y.kids.length
    · have hy' : ¬ (y.kids.length : Int) ≤ (i : Int) := by omega
      rw [if_pos hy, asksS] at hrec
      obtain ⟨qx, ox, a1, a2, a3, a4⟩ := ints_at (x2.imp hk) hi
      obtain ⟨qy, oy, b1, b2, b3, b4⟩ := ints_at (y2.imp hk) hy
      simp only [XX, wC_seq, wC_seqj, splice_def, Nat.reduceEqDiff, ↓reduceIte, reduceCtorEq, Int.reduceToNat, Nat.reduceAdd, Nat.reduceMul, Int.reduceAdd, Int.reduceSub, Int.reduceLE, Int.reduceLT, Int.reduceNeg, Int.reduceMul, Int.reduceEq, Int.reduceNe, Nat.reduceLeDiff, Nat.reduceSub, f0, f4, f5, f10, f11, hi', ly, hy', r0, r1, a1, a4, b1, b4]
      rw [hr] at hrec
      cases hfi : fitsS tb f wi (x.kids.getD i 0) (y.kids.getD i 0) with
      | none => rw [hfi] at hrec; cases hrec
      | some p =>
        obtain ⟨b, w2⟩ := p
        rw [hfi] at hrec
        refine wCall_markedC (W := fun r => r = rw) wS ((hf W F _ rt kr rw tb wi _ _ _ (wf_low wS _) (hAi.low _) hfi).mono fun v st' h => ⟨h.1, h.2⟩) ?_
        rintro _ S2 lo c2 ⟨hA2, rfl⟩
        have hA2' : AskAt W F { S2 with low := lo } rt kr rw tb w2 := hA2.low lo
        have cS : Ch (fun r => r = rw) st { S2 with low := lo } := hC.trans c2 fun r w => .inl w
        cases b with
        | false =>
          simp only at hrec
          injection hrec with hrec
          subst hrec
          simp only [XX, wC_seq, wC_seqj, splice_def, Nat.reduceEqDiff, ↓reduceIte, reduceCtorEq, Int.reduceToNat, Nat.reduceAdd, Nat.reduceMul, Int.reduceAdd, Int.reduceSub, Int.reduceLE, Int.reduceLT, Int.reduceNeg, Int.reduceMul, Int.reduceEq, Int.reduceNe, Nat.reduceLeDiff, Nat.reduceSub]
          exact fin _ _ (fun r a b => cS.same r a b) fun _ => ⟨hA2', rfl⟩
        | true =>
          simp only at hrec
          simp only [XX, wC_seq, wC_seqj, splice_def, Nat.reduceEqDiff, ↓reduceIte, reduceCtorEq, Int.reduceToNat, Nat.reduceAdd, Nat.reduceMul, Int.reduceAdd, Int.reduceSub, Int.reduceLE, Int.reduceLT, Int.reduceNeg, Int.reduceMul, Int.reduceEq, Int.reduceNe, Nat.reduceLeDiff, Nat.reduceSub, f0, f4, f5, f10, f11, hadd1]
          refine ⟨x.kids.length - (i + 1), by omega, (hL _ _ _).2 ⟨i + 1, w2, t0, t1, by omega, by simp only [XX, wC_seq, wC_seqj, splice_def, Nat.reduceEqDiff, ↓reduceIte, reduceCtorEq, Int.reduceToNat, Nat.reduceAdd, Nat.reduceMul, Int.reduceAdd, Int.reduceSub, Int.reduceLE, Int.reduceLT, Int.reduceNeg, Int.reduceMul, Int.reduceEq, Int.reduceNe, Nat.reduceLeDiff, Nat.reduceSub, f0], by simp only [XX, wC_seq, wC_seqj, splice_def, Nat.reduceEqDiff, ↓reduceIte, reduceCtorEq, Int.reduceToNat, Nat.reduceAdd, Nat.reduceMul, Int.reduceAdd, Int.reduceSub, Int.reduceLE, Int.reduceLT, Int.reduceNeg, Int.reduceMul, Int.reduceEq, Int.reduceNe, Nat.reduceLeDiff, Nat.reduceSub, f4], by simp only [XX, wC_seq, wC_seqj, splice_def, Nat.reduceEqDiff, ↓reduceIte, reduceCtorEq, Int.reduceToNat, Nat.reduceAdd, Nat.reduceMul, Int.reduceAdd, Int.reduceSub, Int.reduceLE, Int.reduceLT, Int.reduceNeg, Int.reduceMul, Int.reduceEq, Int.reduceNe, Nat.reduceLeDiff, Nat.reduceSub, f5], by simp only [XX, wC_seq, wC_seqj, splice_def, Nat.reduceEqDiff, ↓reduceIte, reduceCtorEq, Int.reduceToNat, Nat.reduceAdd, Nat.reduceMul, Int.reduceAdd, Int.reduceSub, Int.reduceLE, Int.reduceLT, Int.reduceNeg, Int.reduceMul, Int.reduceEq, Int.reduceNe, Nat.reduceLeDiff, Nat.reduceSub, f10], by simp only [XX, wC_seq, wC_seqj, splice_def, Nat.reduceEqDiff, ↓reduceIte, reduceCtorEq, Int.reduceToNat, Nat.reduceAdd, Nat.reduceMul, Int.reduceAdd, Int.reduceSub, Int.reduceLE, Int.reduceLT, Int.reduceNeg, Int.reduceMul, Int.reduceEq, Int.reduceNe, Nat.reduceLeDiff, Nat.reduceSub], cS, hA2', ?_, ?_, hr.trans hrec⟩⟩
          · exact (c2.same _ (ne_cells r0) (fun e => o0 e.symm)).trans r0
          · exact (c2.same _ (ne_cells r1) (fun e => o1 e.symm)).trans r1
    · have hy' : (y.kids.length : Int) ≤ (i : Int) := by omega
      rw [if_neg hy, asksS] at hrec
      simp only [XX, wC_seq, wC_seqj, splice_def, Nat.reduceEqDiff, ↓reduceIte, reduceCtorEq, Int.reduceToNat, Nat.reduceAdd, Nat.reduceMul, Int.reduceAdd, Int.reduceSub, Int.reduceLE, Int.reduceLT, Int.reduceNeg, Int.reduceMul, Int.reduceEq, Int.reduceNe, Nat.reduceLeDiff, Nat.reduceSub, f0, f4, f5, f10, f11, hi', ly, hy', r0, r1]
      refine fin _ _ (fun r a b => hC.same r a b) fun _ => ?_
      rw [hr] at hrec
      injection hrec with hrec
      subst hrec
      exact ⟨hAi, rfl⟩
  · have hi' : ¬ (i : Int) < x.kids.length := by omega
    have hie : i = x.kids.length := by omega
    rw [hie, List.drop_length, kidsP, asksS, hr] at hrec
    injection hrec with hrec
    subst hrec
    simp only [XX, wC_seq, wC_seqj, splice_def, Nat.reduceEqDiff, ↓reduceIte, reduceCtorEq, Int.reduceToNat, Nat.reduceAdd, Nat.reduceMul, Int.reduceAdd, Int.reduceSub, Int.reduceLE, Int.reduceLT, Int.reduceNeg, Int.reduceMul, Int.reduceEq, Int.reduceNe, Nat.reduceLeDiff, Nat.reduceSub, f0, f4, f5, f10, f11, hi']
    exact fin _ _ (fun r a b => hC.same r a b) fun _ => ⟨hAi, rfl⟩
end Go.Proofs.Ytjblgoefcobkgaa
