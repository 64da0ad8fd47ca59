/- Which types fit: by names; a pair opened; pairs gone through. -/
import Derived.Test.YtjblgoefcobkgaaFits
namespace Go.Proofs.Ytjblgoefcobkgaa
open Eva Go.RowKit
set_option maxRecDepth 100000
set_option linter.unusedSimpArgs false
set_option linter.unusedVariables false
set_option maxHeartbeats 4000000 in
theorem byC {f : Nat} (hf : FitsOK f) {W F P : Pt → Prop} {st : St} {rt kr rw : Pt} {tb : Tb} {was : Was} {x y : Nd} {ex ey : List V} (first : Bool) {r : Bool × Was} (hw : WF st) (hA : AskAt W F st rt kr rw tb was) (hx : NdC P st ex x) (hy : NdC P st ey y) (hP : ∀ r, P r → r ≠ rw) (hl : y.names.length < 1000000) (hlx : x.names.length < 1000000) (hr : asksS (fitsS tb f) (byP x y first y.names 0) was = some r) :
    Does (tabT tabD) n_sub_asker_by [.ptr kr 0, .agg ex, .agg ey, .bool first] st fun v st' => Ch (fun r => r = rw) st st' ∧ AskAt W F st' rt kr rw tb r.2 ∧ v = .bool r.1 := by
  refine does_fnC tabM at_sub_asker_by rfl hw fun K fin => ?_
  obtain ⟨n, hn0⟩ : ∃ n, st.nx = up 0 n := ⟨_, up0 _⟩
  have hold := fun r (h : st.row r ≠ .none) => old_up hw hn0 h
  obtain ⟨nvx, kvx, rfl, x1, x2⟩ := hx
  obtain ⟨nvy, kvy, rfl, y1, y2⟩ := hy
  have lx := x2.len; have ly := y2.len; have lny := y1.len
  rw [ints_len] at lx ly
  rw [strs_len] at lny
  have g0 : Gr st ((st.new fun t => .cells t [.int .i64 x.kind, ofL x.name, nvx, kvx]).new fun t => .cells t [.int .i64 y.kind, ofL y.name, nvy, kvy]) := (Gr.new hw (good_cells _)).nn (good_cells _)
  simp only [cf_sub_asker_by, XX, wC_seq, wC_seqj, splice_def, Nat.reduceEqDiff, ↓reduceIte, reduceCtorEq, Int.reduceToNat, Nat.reduceAdd, Nat.reduceMul, Int.reduceAdd, Int.reduceSub, Int.reduceLE, Int.reduceLT, Int.reduceNeg, Int.reduceMul, Int.reduceEq, Int.reduceNe, Nat.reduceLeDiff, Nat.reduceSub, hn0, x1.cells, x1.sc, x2.cells, x2.sc, y1.cells, y1.sc, y2.cells, y2.sc, lny]
  have hrw : st.row rw ≠ .none := hA.map.ne
  have o0 := ne_up hw hn0 hrw 0
  have o1 := ne_up hw hn0 hrw 1
  obtain ⟨L, hL⟩ : ∃ L : Nat → Fr → St → Prop, ∀ j fr S, L j fr S ↔ ∃ (i : Nat) (wi : Was) (t0 t1 : Nat), j + i = y.names.length ∧ fr 0 = .ptr kr 0 ∧ fr 3 = .bool first ∧ fr 5 = .ptr (up 0 n) 0 ∧ fr 6 = .ptr (up 1 n) 0 ∧ fr 15 = nvy ∧ fr 16 = .int .i64 y.names.length ∧ fr 17 = .int .i64 i ∧ Ch (fun r => r = rw) st S ∧ AskAt W F S rt kr rw tb wi ∧ S.row (up 0 n) = .cells t0 [.int .i64 x.kind, ofL x.name, nvx, kvx] ∧ S.row (up 1 n) = .cells t1 [.int .i64 y.kind, ofL y.name, nvy, kvy] ∧ asksS (fitsS tb f) (byP x y first y.names 0) was = asksS (fitsS tb f) (byP x y first (y.names.drop i) i) wi := ⟨_, fun _ _ _ => Iff.rfl⟩
  refine wC_loop L y.names.length hl ((hL _ _ _).2 ⟨0, was, _, _, by omega, by simp only [XX, wC_seq, wC_seqj, splice_def, Nat.reduceEqDiff, ↓reduceIte, reduceCtorEq, Int.reduceToNat, Nat.reduceAdd, Nat.reduceMul, Int.reduceAdd, Int.reduceSub, Int.reduceLE, Int.reduceLT, Int.reduceNeg, Int.reduceMul, Int.reduceEq, Int.reduceNe, Nat.reduceLeDiff, Nat.reduceSub], by simp only [XX, wC_seq, wC_seqj, splice_def, Nat.reduceEqDiff, ↓reduceIte, reduceCtorEq, Int.reduceToNat, Nat.reduceAdd, Nat.reduceMul, Int.reduceAdd, Int.reduceSub, Int.reduceLE, Int.reduceLT, Int.reduceNeg, Int.reduceMul, Int.reduceEq, Int.reduceNe, Nat.reduceLeDiff, Nat.reduceSub], by simp only [XX, wC_seq, wC_seqj, splice_def, Nat.reduceEqDiff, ↓reduceIte, reduceCtorEq, Int.reduceToNat, Nat.reduceAdd, Nat.reduceMul, Int.reduceAdd, Int.reduceSub, Int.reduceLE, Int.reduceLT, Int.reduceNeg, Int.reduceMul, Int.reduceEq, Int.reduceNe, Nat.reduceLeDiff, Nat.reduceSub], by simp only [XX, wC_seq, wC_seqj, splice_def, Nat.reduceEqDiff, ↓reduceIte, reduceCtorEq, Int.reduceToNat, Nat.reduceAdd, Nat.reduceMul, Int.reduceAdd, Int.reduceSub, Int.reduceLE, Int.reduceLT, Int.reduceNeg, Int.reduceMul, Int.reduceEq, Int.reduceNe, Nat.reduceLeDiff, Nat.reduceSub], by simp only [XX, wC_seq, wC_seqj, splice_def, Nat.reduceEqDiff, ↓reduceIte, reduceCtorEq, Int.reduceToNat, Nat.reduceAdd, Nat.reduceMul, Int.reduceAdd, Int.reduceSub, Int.reduceLE, Int.reduceLT, Int.reduceNeg, Int.reduceMul, Int.reduceEq, Int.reduceNe, Nat.reduceLeDiff, Nat.reduceSub], by simp only [XX, wC_seq, wC_seqj, splice_def, Nat.reduceEqDiff, ↓reduceIte, reduceCtorEq, Int.reduceToNat, Nat.reduceAdd, Nat.reduceMul, Int.reduceAdd, Int.reduceSub, Int.reduceLE, Int.reduceLT, Int.reduceNeg, Int.reduceMul, Int.reduceEq, Int.reduceNe, Nat.reduceLeDiff, Nat.reduceSub], by simp only [XX, wC_seq, wC_seqj, splice_def, Nat.reduceEqDiff, ↓reduceIte, reduceCtorEq, Int.reduceToNat, Nat.reduceAdd, Nat.reduceMul, Int.reduceAdd, Int.reduceSub, Int.reduceLE, Int.reduceLT, Int.reduceNeg, Int.reduceMul, Int.reduceEq, Int.reduceNe, Nat.reduceLeDiff, Nat.reduceSub]; rfl, Ch.of _ g0, hA.gr g0, by simp only [XX, wC_seq, wC_seqj, splice_def, Nat.reduceEqDiff, ↓reduceIte, reduceCtorEq, Int.reduceToNat, Nat.reduceAdd, Nat.reduceMul, Int.reduceAdd, Int.reduceSub, Int.reduceLE, Int.reduceLT, Int.reduceNeg, Int.reduceMul, Int.reduceEq, Int.reduceNe, Nat.reduceLeDiff, Nat.reduceSub, hn0]; rfl, by simp only [XX, wC_seq, wC_seqj, splice_def, Nat.reduceEqDiff, ↓reduceIte, reduceCtorEq, Int.reduceToNat, Nat.reduceAdd, Nat.reduceMul, Int.reduceAdd, Int.reduceSub, Int.reduceLE, Int.reduceLT, Int.reduceNeg, Int.reduceMul, Int.reduceEq, Int.reduceNe, Nat.reduceLeDiff, Nat.reduceSub, hn0]; rfl, rfl⟩) ?_
  intro j fr S hLj
  obtain ⟨i, wi, t0, t1, hj, f0, f3, f5, f6, f15, f16, f17, hC, hAi, r0, r1, hrec⟩ := (hL _ _ _).1 hLj
  have wS := hC.wf
  by_cases hi : i < y.names.length
  · have hi' : (i : Int) < y.names.length := by omega
    have hk : ∀ r, P r → st.row r ≠ .none → P r ∧ S.row r = st.row r := fun r p e => ⟨p, hC.same r e (hP r p)⟩
    have hadd1 : IntKind.i64.wrap ((i : Int) + 1) = ((i + 1 : Nat) : Int) := by rw [i64_in (by omega) (by omega)]; rfl
    rw [List.drop_eq_getElem_cons hi, byP] at hrec
    obtain ⟨q, qo, a1, a2, a3, a4⟩ := (y1.imp hk).one (xs := y.names.map ofL) (i := i) (by simpa using hi)
    simp only [List.getElem_map] at a4
    simp only [XX, wC_seq, wC_seqj, splice_def, Nat.reduceEqDiff, ↓reduceIte, reduceCtorEq, Int.reduceToNat, Nat.reduceAdd, Nat.reduceMul, Int.reduceAdd, Int.reduceSub, Int.reduceLE, Int.reduceLT, Int.reduceNeg, Int.reduceMul, Int.reduceEq, Int.reduceNe, Nat.reduceLeDiff, Nat.reduceSub, f0, f3, f5, f6, f15, f16, f17, hi', a1, a4, r0]
    refine wCall_plain (indexC y.names[i] (x1.imp hk) hlx) ?_
    rintro _ _ ⟨rfl, rfl⟩
    rw [hr] at hrec
    have no : ∀ {fr'}, asksS (fitsS tb f) (none :: byP x y first (y.names.drop (i + 1)) (i + 1)) wi = some r → fr' = V.bool false → K fr' S := fun h1 h2 => by
      rw [asksS] at h1
      injection h1 with h1
      subst h1
      exact fin _ _ (fun r a b => hC.same r a b) fun _ => ⟨hAi, h2⟩
    have hpb : pairN x y first y.names[i] i = match idxN y.names[i] x.names 0 with
      | none => none
      | some j => if j < x.kids.length ∧ i < y.kids.length then some (if first = true then (x.kids.getD j 0, y.kids.getD i 0) else (y.kids.getD i 0, x.kids.getD j 0)) else none := rfl
    cases hj1 : idxN y.names[i] x.names 0 with
    | none =>
      rw [hj1] at hpb
      rw [hpb] at hrec
      simp only [XX, wC_seq, wC_seqj, splice_def, Nat.reduceEqDiff, ↓reduceIte, reduceCtorEq, Int.reduceToNat, Nat.reduceAdd, Nat.reduceMul, Int.reduceAdd, Int.reduceSub, Int.reduceLE, Int.reduceLT, Int.reduceNeg, Int.reduceMul, Int.reduceEq, Int.reduceNe, Nat.reduceLeDiff, Nat.reduceSub]
      exact no hrec.symm rfl
    | some jj =>
      rw [hj1] at hpb
      simp only at hpb
      have j0 : ¬ (jj : Int) < 0 := by omega
      by_cases c1 : jj < x.kids.length
      · by_cases c2 : i < y.kids.length
        · rw [hpb, if_pos ⟨c1, c2⟩, asksS] at hrec
          have c1' : ¬ (x.kids.length : Int) ≤ (jj : Int) := by omega
          have c2' : ¬ (y.kids.length : Int) ≤ (i : Int) := by omega
          obtain ⟨qx, ox, d1, d2, d3, d4⟩ := ints_at (x2.imp hk) c1
          obtain ⟨qy, oy, e1, e2, e3, e4⟩ := ints_at (y2.imp hk) c2
          have step : ∀ (a b : Nat), (match fitsS tb f wi a b with
              | none => none
              | some (false, was) => some (false, was)
              | some (true, was) => asksS (fitsS tb f) (byP x y first (y.names.drop (i + 1)) (i + 1)) was) = some r → ∀ {Q : V → St → Prop}, (∀ S2 w2, Ch (fun r => r = rw) st S2 → AskAt W F S2 rt kr rw tb w2 → S2.row (up 0 n) = .cells t0 [.int .i64 x.kind, ofL x.name, nvx, kvx] → S2.row (up 1 n) = .cells t1 [.int .i64 y.kind, ofL y.name, nvy, kvy] → (r = (false, w2) → Q (.bool false) S2) ∧ (some r = asksS (fitsS tb f) (byP x y first (y.names.drop (i + 1)) (i + 1)) w2 → Q (.bool true) S2)) → ∀ {fr : Fr} {ow}, wCall (tabT tabD) false ow n_sub_asker_fits [.ptr kr 0, .int .i64 a, .int .i64 b] fr S Q := fun a b hs Q hQ fr ow => by
            cases hfi : fitsS tb f wi a b with
            | none => rw [hfi] at hs; cases hs
            | some p =>
              obtain ⟨bb, w2⟩ := p
              rw [hfi] at hs
              refine wCall_plain (hf W F _ rt kr rw tb wi _ _ _ wS hAi hfi) ?_
              rintro _ S2 ⟨c2, hA2, rfl⟩
              have cS : Ch (fun r => r = rw) st S2 := hC.trans c2 fun r w => .inl w
              have q := hQ S2 w2 cS hA2 ((c2.same _ (ne_cells r0) (fun e => o0 e.symm)).trans r0) ((c2.same _ (ne_cells r1) (fun e => o1 e.symm)).trans r1)
              cases bb with
              | false => simp only at hs; injection hs with hs; exact q.1 hs.symm
              | true => simp only at hs; exact q.2 hs.symm
          cases first with
          | true =>
            simp only [XX, wC_seq, wC_seqj, splice_def, Nat.reduceEqDiff, ↓reduceIte, reduceCtorEq, Int.reduceToNat, Nat.reduceAdd, Nat.reduceMul, Int.reduceAdd, Int.reduceSub, Int.reduceLE, Int.reduceLT, Int.reduceNeg, Int.reduceMul, Int.reduceEq, Int.reduceNe, Nat.reduceLeDiff, Nat.reduceSub, f0, f3, f5, f6, f15, f16, f17, j0, c1', c2', lx, ly, r0, r1, d1, d4, e1, e4]
            refine step _ _ hrec.symm fun S2 w2 cS hA2 s0 s1 => ⟨fun h => ?_, fun h => ?_⟩
            · simp only [XX, wC_seq, wC_seqj, splice_def, Nat.reduceEqDiff, ↓reduceIte, reduceCtorEq, Int.reduceToNat, Nat.reduceAdd, Nat.reduceMul, Int.reduceAdd, Int.reduceSub, Int.reduceLE, Int.reduceLT, Int.reduceNeg, Int.reduceMul, Int.reduceEq, Int.reduceNe, Nat.reduceLeDiff, Nat.reduceSub]
              exact fin _ _ (fun r a b => cS.same r a b) fun _ => by rw [h]; exact ⟨hA2, rfl⟩
            · simp only [XX, wC_seq, wC_seqj, splice_def, Nat.reduceEqDiff, ↓reduceIte, reduceCtorEq, Int.reduceToNat, Nat.reduceAdd, Nat.reduceMul, Int.reduceAdd, Int.reduceSub, Int.reduceLE, Int.reduceLT, Int.reduceNeg, Int.reduceMul, Int.reduceEq, Int.reduceNe, Nat.reduceLeDiff, Nat.reduceSub, f0, f3, f5, f6, f15, f16, f17, hadd1]
              exact ⟨y.names.length - (i + 1), by omega, (hL _ _ _).2 ⟨i + 1, w2, t0, t1, by omega, by simp only [XX, wC_seq, wC_seqj, splice_def, Nat.reduceEqDiff, ↓reduceIte, reduceCtorEq, Int.reduceToNat, Nat.reduceAdd, Nat.reduceMul, Int.reduceAdd, Int.reduceSub, Int.reduceLE, Int.reduceLT, Int.reduceNeg, Int.reduceMul, Int.reduceEq, Int.reduceNe, Nat.reduceLeDiff, Nat.reduceSub, f0], by simp only [XX, wC_seq, wC_seqj, splice_def, Nat.reduceEqDiff, ↓reduceIte, reduceCtorEq, Int.reduceToNat, Nat.reduceAdd, Nat.reduceMul, Int.reduceAdd, Int.reduceSub, Int.reduceLE, Int.reduceLT, Int.reduceNeg, Int.reduceMul, Int.reduceEq, Int.reduceNe, Nat.reduceLeDiff, Nat.reduceSub, f3], by simp only [XX, wC_seq, wC_seqj, splice_def, Nat.reduceEqDiff, ↓reduceIte, reduceCtorEq, Int.reduceToNat, Nat.reduceAdd, Nat.reduceMul, Int.reduceAdd, Int.reduceSub, Int.reduceLE, Int.reduceLT, Int.reduceNeg, Int.reduceMul, Int.reduceEq, Int.reduceNe, Nat.reduceLeDiff, Nat.reduceSub, f5], by simp only [XX, wC_seq, wC_seqj, splice_def, Nat.reduceEqDiff, ↓reduceIte, reduceCtorEq, Int.reduceToNat, Nat.reduceAdd, Nat.reduceMul, Int.reduceAdd, Int.reduceSub, Int.reduceLE, Int.reduceLT, Int.reduceNeg, Int.reduceMul, Int.reduceEq, Int.reduceNe, Nat.reduceLeDiff, Nat.reduceSub, f6], by simp only [XX, wC_seq, wC_seqj, splice_def, Nat.reduceEqDiff, ↓reduceIte, reduceCtorEq, Int.reduceToNat, Nat.reduceAdd, Nat.reduceMul, Int.reduceAdd, Int.reduceSub, Int.reduceLE, Int.reduceLT, Int.reduceNeg, Int.reduceMul, Int.reduceEq, Int.reduceNe, Nat.reduceLeDiff, Nat.reduceSub, f15], by simp only [XX, wC_seq, wC_seqj, splice_def, Nat.reduceEqDiff, ↓reduceIte, reduceCtorEq, Int.reduceToNat, Nat.reduceAdd, Nat.reduceMul, Int.reduceAdd, Int.reduceSub, Int.reduceLE, Int.reduceLT, Int.reduceNeg, Int.reduceMul, Int.reduceEq, Int.reduceNe, Nat.reduceLeDiff, Nat.reduceSub, f16], by simp only [XX, wC_seq, wC_seqj, splice_def, Nat.reduceEqDiff, ↓reduceIte, reduceCtorEq, Int.reduceToNat, Nat.reduceAdd, Nat.reduceMul, Int.reduceAdd, Int.reduceSub, Int.reduceLE, Int.reduceLT, Int.reduceNeg, Int.reduceMul, Int.reduceEq, Int.reduceNe, Nat.reduceLeDiff, Nat.reduceSub], cS, hA2, s0, s1, hr.trans h⟩⟩
          | false =>
            simp only [XX, wC_seq, wC_seqj, splice_def, Nat.reduceEqDiff, ↓reduceIte, reduceCtorEq, Int.reduceToNat, Nat.reduceAdd, Nat.reduceMul, Int.reduceAdd, Int.reduceSub, Int.reduceLE, Int.reduceLT, Int.reduceNeg, Int.reduceMul, Int.reduceEq, Int.reduceNe, Nat.reduceLeDiff, Nat.reduceSub, f0, f3, f5, f6, f15, f16, f17, j0, c1', c2', lx, ly, r0, r1, d1, d4, e1, e4]
            refine step _ _ hrec.symm fun S2 w2 cS hA2 s0 s1 => ⟨fun h => ?_, fun h => ?_⟩
            · simp only [XX, wC_seq, wC_seqj, splice_def, Nat.reduceEqDiff, ↓reduceIte, reduceCtorEq, Int.reduceToNat, Nat.reduceAdd, Nat.reduceMul, Int.reduceAdd, Int.reduceSub, Int.reduceLE, Int.reduceLT, Int.reduceNeg, Int.reduceMul, Int.reduceEq, Int.reduceNe, Nat.reduceLeDiff, Nat.reduceSub]
              exact fin _ _ (fun r a b => cS.same r a b) fun _ => by rw [h]; exact ⟨hA2, rfl⟩
            · simp only [XX, wC_seq, wC_seqj, splice_def, Nat.reduceEqDiff, ↓reduceIte, reduceCtorEq, Int.reduceToNat, Nat.reduceAdd, Nat.reduceMul, Int.reduceAdd, Int.reduceSub, Int.reduceLE, Int.reduceLT, Int.reduceNeg, Int.reduceMul, Int.reduceEq, Int.reduceNe, Nat.reduceLeDiff, Nat.reduceSub, f0, f3, f5, f6, f15, f16, f17, hadd1]
              exact ⟨y.names.length - (i + 1), by omega, (hL _ _ _).2 ⟨i + 1, w2, t0, t1, by omega, by simp only [XX, wC_seq, wC_seqj, splice_def, Nat.reduceEqDiff, ↓reduceIte, reduceCtorEq, Int.reduceToNat, Nat.reduceAdd, Nat.reduceMul, Int.reduceAdd, Int.reduceSub, Int.reduceLE, Int.reduceLT, Int.reduceNeg, Int.reduceMul, Int.reduceEq, Int.reduceNe, Nat.reduceLeDiff, Nat.reduceSub, f0], by simp only [XX, wC_seq, wC_seqj, splice_def, Nat.reduceEqDiff, ↓reduceIte, reduceCtorEq, Int.reduceToNat, Nat.reduceAdd, Nat.reduceMul, Int.reduceAdd, Int.reduceSub, Int.reduceLE, Int.reduceLT, Int.reduceNeg, Int.reduceMul, Int.reduceEq, Int.reduceNe, Nat.reduceLeDiff, Nat.reduceSub, f3], by simp only [XX, wC_seq, wC_seqj, splice_def, Nat.reduceEqDiff, ↓reduceIte, reduceCtorEq, Int.reduceToNat, Nat.reduceAdd, Nat.reduceMul, Int.reduceAdd, Int.reduceSub, Int.reduceLE, Int.reduceLT, Int.reduceNeg, Int.reduceMul, Int.reduceEq, Int.reduceNe, Nat.reduceLeDiff, Nat.reduceSub, f5], by simp only [XX, wC_seq, wC_seqj, splice_def, Nat.reduceEqDiff, ↓reduceIte, reduceCtorEq, Int.reduceToNat, Nat.reduceAdd, Nat.reduceMul, Int.reduceAdd, Int.reduceSub, Int.reduceLE, Int.reduceLT, Int.reduceNeg, Int.reduceMul, Int.reduceEq, Int.reduceNe, Nat.reduceLeDiff, Nat.reduceSub, f6], by simp only [XX, wC_seq, wC_seqj, splice_def, Nat.reduceEqDiff, ↓reduceIte, reduceCtorEq, Int.reduceToNat, Nat.reduceAdd, Nat.reduceMul, Int.reduceAdd, Int.reduceSub, Int.reduceLE, Int.reduceLT, Int.reduceNeg, Int.reduceMul, Int.reduceEq, Int.reduceNe, Nat.reduceLeDiff, Nat.reduceSub, f15], by simp only [XX, wC_seq, wC_seqj, splice_def, Nat.reduceEqDiff, ↓reduceIte, reduceCtorEq, Int.reduceToNat, Nat.reduceAdd, Nat.reduceMul, Int.reduceAdd, Int.reduceSub, Int.reduceLE, Int.reduceLT, Int.reduceNeg, Int.reduceMul, Int.reduceEq, Int.reduceNe, Nat.reduceLeDiff, Nat.reduceSub, f16], by simp only [XX, wC_seq, wC_seqj, splice_def, Nat.reduceEqDiff, ↓reduceIte, reduceCtorEq, Int.reduceToNat, Nat.reduceAdd, Nat.reduceMul, Int.reduceAdd, Int.reduceSub, Int.reduceLE, Int.reduceLT, Int.reduceNeg, Int.reduceMul, Int.reduceEq, Int.reduceNe, Nat.reduceLeDiff, Nat.reduceSub], cS, hA2, s0, s1, hr.trans h⟩⟩
        · rw [hpb, if_neg (fun h => c2 h.2)] at hrec
          have c1' : ¬ (x.kids.length : Int) ≤ (jj : Int) := by omega
          have c2' : (y.kids.length : Int) ≤ (i : Int) := by omega
          simp only [XX, wC_seq, wC_seqj, splice_def, Nat.reduceEqDiff, ↓reduceIte, reduceCtorEq, Int.reduceToNat, Nat.reduceAdd, Nat.reduceMul, Int.reduceAdd, Int.reduceSub, Int.reduceLE, Int.reduceLT, Int.reduceNeg, Int.reduceMul, Int.reduceEq, Int.reduceNe, Nat.reduceLeDiff, Nat.reduceSub, f0, f3, f5, f6, f15, f16, f17, j0, c1', c2', lx, ly, r0, r1]
          exact no hrec.symm rfl
      · rw [hpb, if_neg (fun h => c1 h.1)] at hrec
        have c1' : (x.kids.length : Int) ≤ (jj : Int) := by omega
        simp only [XX, wC_seq, wC_seqj, splice_def, Nat.reduceEqDiff, ↓reduceIte, reduceCtorEq, Int.reduceToNat, Nat.reduceAdd, Nat.reduceMul, Int.reduceAdd, Int.reduceSub, Int.reduceLE, Int.reduceLT, Int.reduceNeg, Int.reduceMul, Int.reduceEq, Int.reduceNe, Nat.reduceLeDiff, Nat.reduceSub, f0, f3, f5, f6, f15, f16, f17, j0, c1', lx, ly, r0, r1]
        exact no hrec.symm rfl
  · have hi' : ¬ (i : Int) < y.names.length := by omega
    have hie : i = y.names.length := by omega
    rw [hie, List.drop_length, byP, asksS, hr] at hrec
    injection hrec with hrec
    subst hrec
    simp only [XX, wC_seq, wC_seqj, splice_def, Nat.reduceEqDiff, ↓reduceIte, reduceCtorEq, Int.reduceToNat, Nat.reduceAdd, Nat.reduceMul, Int.reduceAdd, Int.reduceSub, Int.reduceLE, Int.reduceLT, Int.reduceNeg, Int.reduceMul, Int.reduceEq, Int.reduceNe, Nat.reduceLeDiff, Nat.reduceSub, f0, f3, f5, f6, f15, f16, f17, hi']
    exact fin _ _ (fun r a b => hC.same r a b) fun _ => ⟨hAi, rfl⟩
end Go.Proofs.Ytjblgoefcobkgaa
