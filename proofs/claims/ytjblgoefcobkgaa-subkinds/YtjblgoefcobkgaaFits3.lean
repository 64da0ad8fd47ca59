/- Which types fit: a pair opened; pairs gone through; Le. -/
import Derived.Test.YtjblgoefcobkgaaFits2
namespace Go.Proofs.Ytjblgoefcobkgaa
open Eva Go.RowKit
set_option maxRecDepth 100000
set_option linter.unusedSimpArgs false
set_option linter.unusedVariables false
set_option maxHeartbeats 4000000 in
theorem openA {f : Nat} (hf : FitsOK f) {W F : Pt → Prop} {st : St} {rt kr rw : Pt} {tb : Tb} {was : Was} {a b : Nat} {r : Bool × Was} (hw : WF st) (hA : AskAt W F st rt kr rw tb was)
    (hr : (match plan tb a b with | none => some (false, was) | some l => asksS (fitsS tb f) l was) = some r) :
    Does (tabT tabD) n_sub_asker_open [.ptr kr 0, .int .i64 a, .int .i64 b] st fun v st' => Ch (fun r => r = rw) st st' ∧ AskAt W F st' rt kr rw tb r.2 ∧ v = .bool r.1 := by
  refine does_fnC tabM at_sub_asker_open rfl hw fun K fin => ?_
  obtain ⟨tk, ck⟩ := hA.cell
  simp only [cf_sub_asker_open, XX, wC_seq, wC_seqj, splice_def, Nat.reduceEqDiff, ↓reduceIte, reduceCtorEq, Int.reduceToNat, Nat.reduceAdd, Nat.reduceMul, Int.reduceAdd, Int.reduceSub, Int.reduceLE, Int.reduceLT, Int.reduceNeg, Int.reduceMul, Int.reduceEq, Int.reduceNe, Nat.reduceLeDiff, Nat.reduceSub, ck]
  refine wCall_plain (openC hw hA.tab) ?_
  rintro _ _ ⟨rfl, rfl⟩
  simp only [XX, wC_seq, wC_seqj, splice_def, Nat.reduceEqDiff, ↓reduceIte, reduceCtorEq, Int.reduceToNat, Nat.reduceAdd, Nat.reduceMul, Int.reduceAdd, Int.reduceSub, Int.reduceLE, Int.reduceLT, Int.reduceNeg, Int.reduceMul, Int.reduceEq, Int.reduceNe, Nat.reduceLeDiff, Nat.reduceSub, ck]
  refine wCall_plain (openC hw hA.tab) ?_
  rintro _ _ ⟨rfl, rfl⟩
  have hlx := @openS_lt tb (tb.nodes.length + 1) a
  have hly := @openS_lt tb (tb.nodes.length + 1) b
  have hpl : plan tb a b = if (openS tb (tb.nodes.length + 1) a).2 = true ∧ (openS tb (tb.nodes.length + 1) b).2 = true then plan2 (openS tb (tb.nodes.length + 1) a).1 (tb.nodes.getD (openS tb (tb.nodes.length + 1) a).1 zeroNd) (tb.nodes.getD (openS tb (tb.nodes.length + 1) b).1 zeroNd) else none := rfl
  generalize openS tb (tb.nodes.length + 1) a = oa at *
  generalize openS tb (tb.nodes.length + 1) b = ob at *
  obtain ⟨a', pa⟩ := oa
  obtain ⟨b', pb⟩ := ob
  simp only at hlx hly hpl
  cases pa with
  | false =>
    simp only [XX, wC_seq, wC_seqj, splice_def, Nat.reduceEqDiff, ↓reduceIte, reduceCtorEq, Int.reduceToNat, Nat.reduceAdd, Nat.reduceMul, Int.reduceAdd, Int.reduceSub, Int.reduceLE, Int.reduceLT, Int.reduceNeg, Int.reduceMul, Int.reduceEq, Int.reduceNe, Nat.reduceLeDiff, Nat.reduceSub]
    rw [hpl, if_neg (fun h => by cases h.1)] at hr
    simp only at hr
    injection hr with hr; subst hr
    exact fin _ _ (fun _ _ _ => rfl) fun _ => ⟨hA, rfl⟩
  | true =>
  cases pb with
  | false =>
    simp only [XX, wC_seq, wC_seqj, splice_def, Nat.reduceEqDiff, ↓reduceIte, reduceCtorEq, Int.reduceToNat, Nat.reduceAdd, Nat.reduceMul, Int.reduceAdd, Int.reduceSub, Int.reduceLE, Int.reduceLT, Int.reduceNeg, Int.reduceMul, Int.reduceEq, Int.reduceNe, Nat.reduceLeDiff, Nat.reduceSub]
    rw [hpl, if_neg (fun h => by cases h.2)] at hr
    simp only at hr
    injection hr with hr; subst hr
    exact fin _ _ (fun _ _ _ => rfl) fun _ => ⟨hA, rfl⟩
  | true =>
  have hxl : a' < tb.nodes.length := hlx rfl
  have hyl : b' < tb.nodes.length := hly rfl
  rw [hpl, if_pos ⟨rfl, rfl⟩, show tb.nodes.getD a' zeroNd = tb.nodes[a'] by simp [List.getD_eq_getElem?_getD, hxl], show tb.nodes.getD b' zeroNd = tb.nodes[b'] by simp [List.getD_eq_getElem?_getD, hyl]] at hr
  have fitx : tb.nodes[a'].fit := by obtain ⟨_, _, _, _, _, _, h⟩ := hA.tab; exact h.fit _ (List.getElem_mem hxl)
  have fity : tb.nodes[b'].fit := by obtain ⟨_, _, _, _, _, _, h⟩ := hA.tab; exact h.fit _ (List.getElem_mem hyl)
  simp only [XX, wC_seq, wC_seqj, splice_def, Nat.reduceEqDiff, ↓reduceIte, reduceCtorEq, Int.reduceToNat, Nat.reduceAdd, Nat.reduceMul, Int.reduceAdd, Int.reduceSub, Int.reduceLE, Int.reduceLT, Int.reduceNeg, Int.reduceMul, Int.reduceEq, Int.reduceNe, Nat.reduceLeDiff, Nat.reduceSub, ck]
  have hrw : st.row rw ≠ .none := hA.map.ne
  refine wCall_plain (nodeC (Q := fun r => st.row r = .none) hw hA.tab hxl (fun r h => h)) ?_
  rintro _ S1 ⟨g1, ex, rfl, nx⟩
  obtain ⟨n1, hn1⟩ : ∃ n, S1.nx = up 0 n := ⟨_, up0 _⟩
  obtain ⟨nvx, kvx, rfl, x1, x2⟩ := nx
  have w1 := g1.wf
  have ck1 := g1.cells ck
  have ok1 := fun k => nes (ne_up w1 hn1 (ne_cells ck1) k)
  have G1 : Gr S1 ((S1.new fun t => .cells t [.int .i64 0, ofL [], .snil, .snil]).wr (up 0 n1) S1.t fun u => .cells u [.int .i64 tb.nodes[a'].kind, ofL tb.nodes[a'].name, nvx, kvx]) := (Gr.refl w1).nw hn1 (good_cells _) (good_cells _)
  simp only [XX, wC_seq, wC_seqj, splice_def, Nat.reduceEqDiff, ↓reduceIte, reduceCtorEq, Int.reduceToNat, Nat.reduceAdd, Nat.reduceMul, Int.reduceAdd, Int.reduceSub, Int.reduceLE, Int.reduceLT, Int.reduceNeg, Int.reduceMul, Int.reduceEq, Int.reduceNe, Nat.reduceLeDiff, Nat.reduceSub, hn1, ok1, ck1, x1.cells, x1.sc, x2.cells, x2.sc]
  refine wCall_plain (nodeC (Q := fun r => st.row r = .none) G1.wf ((hA.tab.gr g1).gr G1) hyl (fun r h => Ch.fresh (Ch.of (fun _ => False) (g1.trans G1)) h)) ?_
  rintro _ S2 ⟨g2, ey, rfl, ny⟩
  obtain ⟨n2, hn2⟩ : ∃ n, S2.nx = up 0 n := ⟨_, up0 _⟩
  obtain ⟨nvy, kvy, rfl, y1, y2⟩ := ny
  have w2 := g2.wf
  obtain ⟨tx, bx⟩ : ∃ t, S2.row (up 0 n1) = .cells t [.int .i64 tb.nodes[a'].kind, ofL tb.nodes[a'].name, nvx, kvx] := ⟨_, g2.cells (row_wr_same _ _ _ _)⟩
  have ox := fun k => nes (ne_up w2 hn2 (ne_cells bx) k)
  have G2 : Gr S2 ((S2.new fun t => .cells t [.int .i64 0, ofL [], .snil, .snil]).wr (up 0 n2) S2.t fun u => .cells u [.int .i64 tb.nodes[b'].kind, ofL tb.nodes[b'].name, nvy, kvy]) := (Gr.refl w2).nw hn2 (good_cells _) (good_cells _)
  have GG : Gr st ((S2.new fun t => .cells t [.int .i64 0, ofL [], .snil, .snil]).wr (up 0 n2) S2.t fun u => .cells u [.int .i64 tb.nodes[b'].kind, ofL tb.nodes[b'].name, nvy, kvy]) := ((g1.trans G1).trans g2).trans G2
  have ly := y2.len
  rw [ints_len] at ly
  have hA3 := hA.gr GG
  have x1' := ((x1.gr G1).gr g2).gr G2
  have x2' := ((x2.gr G1).gr g2).gr G2
  have y1' := y1.gr G2
  have y2' := y2.gr G2
  simp only [XX, wC_seq, wC_seqj, splice_def, Nat.reduceEqDiff, ↓reduceIte, reduceCtorEq, Int.reduceToNat, Nat.reduceAdd, Nat.reduceMul, Int.reduceAdd, Int.reduceSub, Int.reduceLE, Int.reduceLT, Int.reduceNeg, Int.reduceMul, Int.reduceEq, Int.reduceNe, Nat.reduceLeDiff, Nat.reduceSub, hn2, ox, bx, y1.cells, y1.sc, y2.cells, y2.sc, ly]
  generalize hX : tb.nodes[a'] = X at *
  generalize hY : tb.nodes[b'] = Y at *
  obtain ⟨S3, hS3⟩ : ∃ S3, S3 = ((S2.new fun t => .cells t [.int .i64 0, ofL [], .snil, .snil]).wr (up 0 n2) S2.t fun u => .cells u [.int .i64 Y.kind, ofL Y.name, nvy, kvy]) := ⟨_, rfl⟩
  simp only [← hS3] at GG hA3 x1' x2' y1' y2' ⊢
  have rx : S3.row (up 0 n1) = .cells tx [.int .i64 X.kind, ofL X.name, nvx, kvx] := by rw [hS3]; simp only [row_wrI, row_newI, hn2, ox, if_false]; exact bx
  obtain ⟨ty, ry⟩ : ∃ t, S3.row (up 0 n2) = .cells t [.int .i64 Y.kind, ofL Y.name, nvy, kvy] := ⟨_, by rw [hS3]; exact row_wr_same _ _ _ _⟩
  have hne : ∀ r, st.row r = .none → r ≠ rw := fun r h e => hrw (by rw [← e]; exact h)
  have done : ∀ {v : V} {st' : St}, Ch (fun r => r = rw) S3 st' → AskAt W F st' rt kr rw tb r.2 → v = .bool r.1 → K v st' := fun {v st'} c h e => fin _ _ (fun r e n => by rw [c.same r (by rw [GG.same r e]; exact e) n, GG.same r e]) fun _ => ⟨h, e⟩
  have dfalse : some (false, was) = some r → K (.bool false) S3 := fun h => by
    injection h with h; subst h
    exact done (Ch.refl _ GG.wf) hA3 rfl
  have hp2 : plan2 a' X Y = if Y.kind = 6 ∧ X.kind ≠ 6 ∧ Y.kids.length = 1 then some [some (a', Y.kids.getD 0 0)] else if X.kind ≠ Y.kind then none else if Y.kind = 7 then some (byP X Y true Y.names 0) else if Y.kind = 8 then some (byP Y X false X.names 0) else some (kidsP Y X.kids 0) := rfl
  have NX : NdC (fun r => st.row r = .none) S3 [.int .i64 X.kind, ofL X.name, nvx, kvx] X := ⟨nvx, kvx, rfl, x1', x2'⟩
  have NY : NdC (fun r => st.row r = .none) S3 [.int .i64 Y.kind, ofL Y.name, nvy, kvy] Y := ⟨nvy, kvy, rfl, y1', y2'⟩
  have lxk : X.kids.length < 1000000 := by have := fitx.2; omega
  have lxn : X.names.length < 1000000 := by have := fitx.1; omega
  have lyn : Y.names.length < 1000000 := by have := fity.1; omega
  have kids : (Y.kind ≠ 7 ∧ Y.kind ≠ 8) → X.kind = Y.kind → asksS (fitsS tb f) (kidsP Y X.kids 0) was = some r := fun h1 h2 => by
    rw [hp2, if_neg (fun h => h.2.1 (h2.trans h.1)), if_neg (fun h => h h2), if_neg h1.1, if_neg h1.2] at hr
    exact hr
  have callK : ∀ {fr : Fr} {ow}, (Y.kind ≠ 7 ∧ Y.kind ≠ 8) → X.kind = Y.kind → wCall (tabT tabD) false ow n_sub_asker_kids [.ptr kr 0, .agg [.int .i64 X.kind, ofL X.name, nvx, kvx], .agg [.int .i64 Y.kind, ofL Y.name, nvy, kvy]] fr S3 K := fun h1 h2 =>
    wCall_plain (kidsC2 hf GG.wf hA3 NX NY (fun r p => hne r p) lxk (kids h1 h2)) fun v st' ⟨c, h, e⟩ => done c h e
  have l1 : Y.kids.length = 1 → ((Y.kids.length : Int) = 1) = True := fun h => eq_true (by omega)
  by_cases k6 : Y.kind = 6
  · have k6' : (Y.kind = 6) = True := eq_true k6
    by_cases x6 : X.kind = 6
    · have x6' : (X.kind = 6) = True := eq_true x6
      have he : (X.kind = Y.kind) = True := eq_true (by rw [x6, k6])
      have e7 : (Y.kind = 7) = False := eq_false (by omega)
      have e8 : (Y.kind = 8) = False := eq_false (by omega)
      simp only [XX, wC_seq, wC_seqj, splice_def, Nat.reduceEqDiff, ↓reduceIte, reduceCtorEq, Int.reduceToNat, Nat.reduceAdd, Nat.reduceMul, Int.reduceAdd, Int.reduceSub, Int.reduceLE, Int.reduceLT, Int.reduceNeg, Int.reduceMul, Int.reduceEq, Int.reduceNe, Nat.reduceLeDiff, Nat.reduceSub, rx, ry, k6', x6', he, e7, e8]
      refine wCall_plain (kidsC2 hf GG.wf hA3 NX NY (fun r p => hne r p) lxk (kids ⟨by omega, by omega⟩ (by omega))) ?_
      rintro v st' ⟨c, h, e⟩
      simp only [XX, wC_seq, wC_seqj, splice_def, Nat.reduceEqDiff, ↓reduceIte, reduceCtorEq, Int.reduceToNat, Nat.reduceAdd, Nat.reduceMul, Int.reduceAdd, Int.reduceSub, Int.reduceLE, Int.reduceLT, Int.reduceNeg, Int.reduceMul, Int.reduceEq, Int.reduceNe, Nat.reduceLeDiff, Nat.reduceSub]
      exact done c h e
    · have x6' : (X.kind = 6) = False := eq_false x6
      by_cases ln : Y.kids.length = 1
      · have hi0 : 0 < Y.kids.length := by omega
        obtain ⟨q, qo, a1, a2, a3, a4⟩ := ints_at y2' hi0
        have a1 : iaddrSV 1 kvy (.int .i64 0) = some (.ptr q qo, .no) := a1
        rw [hp2, if_pos ⟨k6, x6, ln⟩] at hr
        simp only [asksS] at hr
        simp only [XX, wC_seq, wC_seqj, splice_def, Nat.reduceEqDiff, ↓reduceIte, reduceCtorEq, Int.reduceToNat, Nat.reduceAdd, Nat.reduceMul, Int.reduceAdd, Int.reduceSub, Int.reduceLE, Int.reduceLT, Int.reduceNeg, Int.reduceMul, Int.reduceEq, Int.reduceNe, Nat.reduceLeDiff, Nat.reduceSub, rx, ry, k6', x6', ly, l1 ln, a1, a4]
        cases hfi : fitsS tb f was a' (Y.kids.getD 0 0) with
        | none => rw [hfi] at hr; cases hr
        | some p =>
          obtain ⟨b, w⟩ := p
          rw [hfi] at hr
          have hr' : r = (b, w) := by cases b <;> (simp only at hr; injection hr with hr; exact hr.symm)
          refine wCall_plain (hf W F _ rt kr rw tb was _ _ _ GG.wf hA3 hfi) ?_
          rintro v st' ⟨c, h, e⟩
          simp only [XX, wC_seq, wC_seqj, splice_def, Nat.reduceEqDiff, ↓reduceIte, reduceCtorEq, Int.reduceToNat, Nat.reduceAdd, Nat.reduceMul, Int.reduceAdd, Int.reduceSub, Int.reduceLE, Int.reduceLT, Int.reduceNeg, Int.reduceMul, Int.reduceEq, Int.reduceNe, Nat.reduceLeDiff, Nat.reduceSub]
          exact done c (by rw [hr']; exact h) (by rw [hr']; exact e)
      · have ln' : ((Y.kids.length : Int) = 1) = False := eq_false (by omega)
        have he : (X.kind = Y.kind) = False := eq_false (by omega)
        rw [hp2, if_neg (fun h => ln h.2.2), if_pos (by omega)] at hr
        simp only [XX, wC_seq, wC_seqj, splice_def, Nat.reduceEqDiff, ↓reduceIte, reduceCtorEq, Int.reduceToNat, Nat.reduceAdd, Nat.reduceMul, Int.reduceAdd, Int.reduceSub, Int.reduceLE, Int.reduceLT, Int.reduceNeg, Int.reduceMul, Int.reduceEq, Int.reduceNe, Nat.reduceLeDiff, Nat.reduceSub, rx, ry, k6', x6', ly, ln', he]
        exact dfalse hr
  · have k6' : (Y.kind = 6) = False := eq_false k6
    rw [hp2, if_neg (fun h => k6 h.1)] at hr
    by_cases he : X.kind = Y.kind
    · have he' : (X.kind = Y.kind) = True := eq_true he
      rw [if_neg (fun h => h he)] at hr
      by_cases e7 : Y.kind = 7
      · have e7' : (Y.kind = 7) = True := eq_true e7
        rw [if_pos e7] at hr
        simp only at hr
        simp only [XX, wC_seq, wC_seqj, splice_def, Nat.reduceEqDiff, ↓reduceIte, reduceCtorEq, Int.reduceToNat, Nat.reduceAdd, Nat.reduceMul, Int.reduceAdd, Int.reduceSub, Int.reduceLE, Int.reduceLT, Int.reduceNeg, Int.reduceMul, Int.reduceEq, Int.reduceNe, Nat.reduceLeDiff, Nat.reduceSub, rx, ry, k6', he', e7']
        refine wCall_plain (byC hf true GG.wf hA3 NX NY (fun r p => hne r p) lyn lxn hr) ?_
        rintro v st' ⟨c, h, e⟩
        simp only [XX, wC_seq, wC_seqj, splice_def, Nat.reduceEqDiff, ↓reduceIte, reduceCtorEq, Int.reduceToNat, Nat.reduceAdd, Nat.reduceMul, Int.reduceAdd, Int.reduceSub, Int.reduceLE, Int.reduceLT, Int.reduceNeg, Int.reduceMul, Int.reduceEq, Int.reduceNe, Nat.reduceLeDiff, Nat.reduceSub]
        exact done c h e
      · have e7' : (Y.kind = 7) = False := eq_false e7
        rw [if_neg e7] at hr
        by_cases e8 : Y.kind = 8
        · have e8' : (Y.kind = 8) = True := eq_true e8
          rw [if_pos e8] at hr
          simp only at hr
          simp only [XX, wC_seq, wC_seqj, splice_def, Nat.reduceEqDiff, ↓reduceIte, reduceCtorEq, Int.reduceToNat, Nat.reduceAdd, Nat.reduceMul, Int.reduceAdd, Int.reduceSub, Int.reduceLE, Int.reduceLT, Int.reduceNeg, Int.reduceMul, Int.reduceEq, Int.reduceNe, Nat.reduceLeDiff, Nat.reduceSub, rx, ry, k6', he', e7', e8']
          refine wCall_plain (byC hf false GG.wf hA3 NY NX (fun r p => hne r p) lxn lyn hr) ?_
          rintro v st' ⟨c, h, e⟩
          simp only [XX, wC_seq, wC_seqj, splice_def, Nat.reduceEqDiff, ↓reduceIte, reduceCtorEq, Int.reduceToNat, Nat.reduceAdd, Nat.reduceMul, Int.reduceAdd, Int.reduceSub, Int.reduceLE, Int.reduceLT, Int.reduceNeg, Int.reduceMul, Int.reduceEq, Int.reduceNe, Nat.reduceLeDiff, Nat.reduceSub]
          exact done c h e
        · have e8' : (Y.kind = 8) = False := eq_false e8
          rw [if_neg e8] at hr
          simp only at hr
          simp only [XX, wC_seq, wC_seqj, splice_def, Nat.reduceEqDiff, ↓reduceIte, reduceCtorEq, Int.reduceToNat, Nat.reduceAdd, Nat.reduceMul, Int.reduceAdd, Int.reduceSub, Int.reduceLE, Int.reduceLT, Int.reduceNeg, Int.reduceMul, Int.reduceEq, Int.reduceNe, Nat.reduceLeDiff, Nat.reduceSub, rx, ry, k6', he', e7', e8']
          refine wCall_plain (kidsC2 hf GG.wf hA3 NX NY (fun r p => hne r p) lxk hr) ?_
          rintro v st' ⟨c, h, e⟩
          simp only [XX, wC_seq, wC_seqj, splice_def, Nat.reduceEqDiff, ↓reduceIte, reduceCtorEq, Int.reduceToNat, Nat.reduceAdd, Nat.reduceMul, Int.reduceAdd, Int.reduceSub, Int.reduceLE, Int.reduceLT, Int.reduceNeg, Int.reduceMul, Int.reduceEq, Int.reduceNe, Nat.reduceLeDiff, Nat.reduceSub]
          exact done c h e
    · have he' : (X.kind = Y.kind) = False := eq_false he
      rw [if_pos he] at hr
      simp only [XX, wC_seq, wC_seqj, splice_def, Nat.reduceEqDiff, ↓reduceIte, reduceCtorEq, Int.reduceToNat, Nat.reduceAdd, Nat.reduceMul, Int.reduceAdd, Int.reduceSub, Int.reduceLE, Int.reduceLT, Int.reduceNeg, Int.reduceMul, Int.reduceEq, Int.reduceNe, Nat.reduceLeDiff, Nat.reduceSub, rx, ry, k6', he']
      exact dfalse hr
set_option maxHeartbeats 4000000 in
theorem fitsOK : ∀ f, FitsOK f
  | 0 => fun _ _ _ _ _ _ _ _ _ _ _ _ _ h => by cases h
  | f + 1 => by
    intro W F st rt kr rw tb was a b r hw hA hr
    refine does_fnC tabM at_sub_asker_fits rfl hw fun K fin => ?_
    obtain ⟨n, hn0⟩ : ∃ n, st.nx = up 0 n := ⟨_, up0 _⟩
    have hold := fun r (h : st.row r ≠ .none) => old_up hw hn0 h
    obtain ⟨tk, ck⟩ := hA.cell
    have okr := fun k => nes (ne_up hw hn0 (ne_cells ck) k)
    have hrw : st.row rw ≠ .none := hA.map.ne
    have orw := fun k => nes (ne_up hw hn0 hrw k)
    have krw := nes hA.krw
    have hp : ∀ p ∈ was.map (fun p => (p, V.int .i64 1)), EK.eq (.many [.i, .i]) (encP (a, b)) (encP p.1) = some (decide ((a, b) = p.1)) := fun p _ => pair_eq _ _
    have hlk : ∀ S : St, S.row rw = st.row rw → lookupV S (.many [.i, .i]) (.int .i64 0) false (.map rw) (.agg [.int .i64 (a : Int), .int .i64 (b : Int)]) = some (ansL (.int .i64 0) false (at_ (a, b) (was.map fun p => (p, V.int .i64 1))), .no) := fun S hS => lookup_at (enc := encP) (hA.map.of hS) _ _ (a, b) hp rfl
    rw [at_was] at hlk
    have gS : Gr st ((st.new fun t => .cells t [.int .i64 0, .int .i64 0]).wr (up 0 n) st.t fun u => .cells u [.int .i64 (a : Int), .int .i64 (b : Int)]) := (Gr.refl hw).nw hn0 (good_cells _) (good_cells _)
    rw [fitsS] at hr
    by_cases ab : a = b
    · rw [if_pos (.inl ab)] at hr
      injection hr with hr; subst hr
      have ab' : ((a : Int) = (b : Int)) = True := eq_true (by omega)
      simp only [cf_sub_asker_fits, XX, wC_seq, wC_seqj, splice_def, Nat.reduceEqDiff, ↓reduceIte, reduceCtorEq, Int.reduceToNat, Nat.reduceAdd, Nat.reduceMul, Int.reduceAdd, Int.reduceSub, Int.reduceLE, Int.reduceLT, Int.reduceNeg, Int.reduceMul, Int.reduceEq, Int.reduceNe, Nat.reduceLeDiff, Nat.reduceSub, hn0, ab']
      refine fin _ _ (fun r e n => ?_) fun _ => ⟨hA.gr ?_, rfl⟩
      · have := gS.same r e; simpa only [row_wrI, row_newI, hn0] using this
      · have := gS; simpa only [hn0] using this
    have ab' : ((a : Int) = (b : Int)) = False := eq_false (by omega)
    by_cases hin : (a, b) ∈ was
    · rw [if_pos (.inr hin)] at hr
      injection hr with hr; subst hr
      rw [if_pos hin] at hlk
      simp only [ansL, Bool.false_eq_true, if_false] at hlk
      simp only [cf_sub_asker_fits, XX, wC_seq, wC_seqj, splice_def, Nat.reduceEqDiff, ↓reduceIte, reduceCtorEq, Int.reduceToNat, Nat.reduceAdd, Nat.reduceMul, Int.reduceAdd, Int.reduceSub, Int.reduceLE, Int.reduceLT, Int.reduceNeg, Int.reduceMul, Int.reduceEq, Int.reduceNe, Nat.reduceLeDiff, Nat.reduceSub, hn0, ab', okr, ck, hlk, orw]
      refine fin _ _ (fun r e n => ?_) fun _ => ⟨hA.gr ?_, rfl⟩
      · have := gS.same r e; simpa only [row_wrI, row_newI, hn0] using this
      · have := gS; simpa only [hn0] using this
    rw [if_neg (fun h => by rcases h with h | h; exact ab h; exact hin h)] at hr
    rw [if_neg hin] at hlk
    simp only [ansL, Bool.false_eq_true, if_false] at hlk
    obtain ⟨tw, mw⟩ := hA.map
    have hme : ∀ S : St, S.row rw = st.row rw → mentV S (.many [.i, .i]) (.int .i64 0) (.map rw) (.agg [.int .i64 (a : Int), .int .i64 (b : Int)]) = some (.tup [.int .i64 0, .int .i64 ((was.map fun p => (p, V.int .i64 1)).length : Nat)], .wr rw tw fun u => .mob u (((was.map fun p => (p, V.int .i64 1)) ++ [((a, b), V.int .i64 0)]).map fun p => (encP p.1, p.2))) := fun S hS => ment_new (enc := encP) (hS.trans mw) (a, b) (.int .i64 0) hp rfl (by show (match EK.eq (.many [.i, .i]) (encP (a, b)) (encP (a, b)) with | some true => true | _ => false) = true; rw [pair_eq]; simp) (look_was hin)
    have hes : ∀ (S : St) t, S.row rw = .mob t (((was.map fun p => (p, V.int .i64 1)) ++ [((a, b), V.int .i64 0)]).map fun p => (encP p.1, p.2)) → estsV S (.map rw) (.int .i64 ((was.map fun p => (p, V.int .i64 1)).length : Nat)) (.int .i64 1) = some (undefV, .wr rw t fun u => .mob u (((was ++ [(a, b)]).map fun p => (p, V.int .i64 1)).map fun p => (encP p.1, p.2))) := fun S t hS => by
      have h := ests_last (st := S) (r := rw) (es := (was.map fun p => (p, V.int .i64 1)).map fun p => (encP p.1, p.2)) (t := t) (k := encP (a, b)) (z := .int .i64 0) (v := .int .i64 1) (by rw [hS]; simp)
      rw [List.length_map] at h
      rw [h]
      simp
    have w01 : IntKind.i64.wrap (0 + 1) = 1 := by decide
    simp only [cf_sub_asker_fits, XX, wC_seq, wC_seqj, splice_def, Nat.reduceEqDiff, ↓reduceIte, reduceCtorEq, Int.reduceToNat, Nat.reduceAdd, Nat.reduceMul, Int.reduceAdd, Int.reduceSub, Int.reduceLE, Int.reduceLT, Int.reduceNeg, Int.reduceMul, Int.reduceEq, Int.reduceNe, Nat.reduceLeDiff, Nat.reduceSub, hn0, ab', okr, ck, hlk, orw, wO_ment, wO_ests, e_ment, e_ests, hme, krw, w01]
    rw [hes _ _ (row_wr_same _ _ _ _)]
    have c1 : Ch (fun r => r = rw) st (((st.new fun t => Row.cells t [V.int IntKind.i64 0, V.int IntKind.i64 0]).wr (up 0 n) st.t fun u => Row.cells u [V.int IntKind.i64 ↑a, V.int IntKind.i64 ↑b]).wr rw tw fun u => Row.mob u (List.map (fun p => (encP p.fst, p.snd)) (List.map (fun p => (p, V.int IntKind.i64 1)) was ++ [((a, b), V.int IntKind.i64 0)]))) :=
      (Ch.of (fun r => r = rw) gS).wr (by rw [gS.same rw hrw]; exact hrw) (by rw [gS.same rw hrw, mw]; rfl) (.inl rfl) (good_mob _)
    have c2 := c1.wr (p := rw) (t := ((st.new fun t => Row.cells t [V.int IntKind.i64 0, V.int IntKind.i64 0]).wr (up 0 n) st.t fun u => Row.cells u [V.int IntKind.i64 ↑a, V.int IntKind.i64 ↑b]).t) (f := fun u => Row.mob u (((was ++ [(a, b)]).map fun p => (p, V.int .i64 1)).map fun p => (encP p.1, p.2))) (by rw [row_wr_same]; exact fun e => by cases e) (by rw [row_wr_same]; rfl) (.inl rfl) (good_mob _)
    have hA2 := hA.ch (was' := was ++ [(a, b)]) c2 ⟨_, row_wr_same _ _ _ _⟩
    simp only [XX, wC_seq, wC_seqj, splice_def, Nat.reduceEqDiff, ↓reduceIte, reduceCtorEq, Int.reduceToNat, Nat.reduceAdd, Nat.reduceMul, Int.reduceAdd, Int.reduceSub, Int.reduceLE, Int.reduceLT, Int.reduceNeg, Int.reduceMul, Int.reduceEq, Int.reduceNe, Nat.reduceLeDiff, Nat.reduceSub]
    refine wCall_plain (openA (fitsOK f) c2.wf hA2 hr) ?_
    rintro v st' ⟨c, h, e⟩
    simp only [XX, wC_seq, wC_seqj, splice_def, Nat.reduceEqDiff, ↓reduceIte, reduceCtorEq, Int.reduceToNat, Nat.reduceAdd, Nat.reduceMul, Int.reduceAdd, Int.reduceSub, Int.reduceLE, Int.reduceLT, Int.reduceNeg, Int.reduceMul, Int.reduceEq, Int.reduceNe, Nat.reduceLeDiff, Nat.reduceSub]
    exact fin _ _ (fun r e n => by rw [c.same r (by rw [c2.same r e n]; exact e) n, c2.same r e n]) fun _ => ⟨h, e⟩
set_option maxHeartbeats 2000000 in
theorem leC {W F : Pt → Prop} {st : St} {rt : Pt} {tb : Tb} {a b f : Nat} {r : Bool × Was} (hw : WF st) (hT : Tab W F st rt tb) (ha : a < tb.nodes.length) (hb : b < tb.nodes.length) (hr : fitsS tb f [] a b = some r) :
    Does (tabT tabD) n_sub_Le [.ptr rt 0, .int .i64 a, .int .i64 b] st fun v st' => Gr st st' ∧ v = .tup [.bool r.1, .int .i64 (r.2.length : Nat)] := by
  refine does_fnG tabM at_sub_Le rfl hw fun K fin => ?_
  obtain ⟨n, hn0⟩ : ∃ n, st.nx = up 0 n := ⟨_, up0 _⟩
  have a0 : ¬ (a : Int) < 0 := by omega
  have b0 : ¬ (b : Int) < 0 := by omega
  have a1 : ¬ (tb.nodes.length : Int) ≤ (a : Int) := by omega
  have b1 : ¬ (tb.nodes.length : Int) ≤ (b : Int) := by omega
  simp only [cf_sub_Le, XX, wC_seq, wC_seqj, splice_def, Nat.reduceEqDiff, ↓reduceIte, reduceCtorEq, Int.reduceToNat, Nat.reduceAdd, Nat.reduceMul, Int.reduceAdd, Int.reduceSub, Int.reduceLE, Int.reduceLT, Int.reduceNeg, Int.reduceMul, Int.reduceEq, Int.reduceNe, Nat.reduceLeDiff, Nat.reduceSub, a0]
  refine wCall_plain (lenC hT) ?_
  rintro _ _ ⟨rfl, rfl⟩
  simp only [XX, wC_seq, wC_seqj, splice_def, Nat.reduceEqDiff, ↓reduceIte, reduceCtorEq, Int.reduceToNat, Nat.reduceAdd, Nat.reduceMul, Int.reduceAdd, Int.reduceSub, Int.reduceLE, Int.reduceLT, Int.reduceNeg, Int.reduceMul, Int.reduceEq, Int.reduceNe, Nat.reduceLeDiff, Nat.reduceSub, a0, a1, b0]
  refine wCall_plain (lenC hT) ?_
  rintro _ _ ⟨rfl, rfl⟩
  have sp : V.pnil.cells = some [.pnil] := rfl
  have g0 : Gr st ((st.new fun t => .mob t []).new fun t => .cells t [.ptr rt 0, .map (up 0 n)]) := (Gr.new hw (good_mob _)).nn (good_cells _)
  simp only [XX, wC_seq, wC_seqj, splice_def, Nat.reduceEqDiff, ↓reduceIte, reduceCtorEq, Int.reduceToNat, Nat.reduceAdd, Nat.reduceMul, Int.reduceAdd, Int.reduceSub, Int.reduceLE, Int.reduceLT, Int.reduceNeg, Int.reduceMul, Int.reduceEq, Int.reduceNe, Nat.reduceLeDiff, Nat.reduceSub, a0, a1, b0, b1, hn0]
  obtain ⟨lv, ra, rn, rs, es, sv, hT0⟩ := hT.live
  have hA : AskAt W (fun r => F r ∧ st.row r ≠ .none) ((st.new fun t => .mob t []).new fun t => .cells t [.ptr rt 0, .map (up 0 n)]) rt (up 1 n) (up 0 n) tb [] := by
    refine ⟨Tab.gr ⟨lv, ra, rn, rs, es, sv, hT0⟩ g0, ⟨(st.t + 1), ?_⟩, ⟨st.t, ?_⟩, fun r w e => ?_⟩
    · simp only [XX, wC_seq, wC_seqj, splice_def, Nat.reduceEqDiff, ↓reduceIte, reduceCtorEq, Int.reduceToNat, Nat.reduceAdd, Nat.reduceMul, Int.reduceAdd, Int.reduceSub, Int.reduceLE, Int.reduceLT, Int.reduceNeg, Int.reduceMul, Int.reduceEq, Int.reduceNe, Nat.reduceLeDiff, Nat.reduceSub, hn0]; rfl
    · simp only [XX, wC_seq, wC_seqj, splice_def, Nat.reduceEqDiff, ↓reduceIte, reduceCtorEq, Int.reduceToNat, Nat.reduceAdd, Nat.reduceMul, Int.reduceAdd, Int.reduceSub, Int.reduceLE, Int.reduceLT, Int.reduceNeg, Int.reduceMul, Int.reduceEq, Int.reduceNe, Nat.reduceLeDiff, Nat.reduceSub, hn0]; rfl
    · have q := nx0 hw hn0 0
      rw [← e] at q
      rcases w with w | w
      · exact hT0.own r w q
      · exact w.2 q
  refine wCall_plain (fitsOK f W _ _ rt (up 1 n) (up 0 n) tb [] a b r g0.wf hA hr) ?_
  rintro _ S2 ⟨c2, h2, rfl⟩
  obtain ⟨t2, k2⟩ := h2.cell
  obtain ⟨t3, m3⟩ := h2.map
  have hlm : lenMV S2 (.map (up 0 n)) = some (.int .i64 (r.2.length : Nat), .no) := by simp [lenMV, m3]
  simp only [XX, wC_seq, wC_seqj, splice_def, Nat.reduceEqDiff, ↓reduceIte, reduceCtorEq, Int.reduceToNat, Nat.reduceAdd, Nat.reduceMul, Int.reduceAdd, Int.reduceSub, Int.reduceLE, Int.reduceLT, Int.reduceNeg, Int.reduceMul, Int.reduceEq, Int.reduceNe, Nat.reduceLeDiff, Nat.reduceSub, k2, hlm]
  refine fin _ _ (fun r e => ?_) fun _ => rfl
  rw [c2.same r (by rw [g0.same r e]; exact e) (ne_up hw hn0 e 0), g0.same r e]
end Go.Proofs.Ytjblgoefcobkgaa
