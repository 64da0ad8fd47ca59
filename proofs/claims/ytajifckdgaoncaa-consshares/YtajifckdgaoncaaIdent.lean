/- Names: what Ident and Builtin tell. -/
import Derived.Test.YtajifckdgaoncaaMon
import Derived.Test.YtajifckdgaoncaaEvd9
namespace Go.Proofs.Ytajifckdgaoncaa
open Eva Go.RowKit
set_option maxRecDepth 100000
set_option linter.unusedSimpArgs false
set_option linter.unusedVariables false
theorem digitC (x : Nat) (hx : x < 256) (st : St) : Does (tabT tabD) n_scan_digit [.int .u8 x] st fun v st' => v = .bool (digB x) ∧ st = st' := by
  refine does_fn at_scan_digit rfl ?_
  by_cases h1 : (48 : Int) ≤ (x : Int)
  · by_cases h2 : (x : Int) ≤ 57
    · simp only [cf_scan_digit, XX, wC_seq, wC_seqj, splice_def, Nat.reduceEqDiff, ↓reduceIte, reduceCtorEq, Int.reduceToNat, Nat.reduceAdd, Nat.reduceMul, Int.reduceAdd, Int.reduceSub, Int.reduceLE, Int.reduceLT, Int.reduceNeg, Int.reduceMul, Int.reduceEq, Int.reduceNe, Nat.reduceLeDiff, Nat.reduceSub, h1, h2]
      rw [digB, decide_eq_true (by omega), decide_eq_true (by omega)]; rfl
    · simp only [cf_scan_digit, XX, wC_seq, wC_seqj, splice_def, Nat.reduceEqDiff, ↓reduceIte, reduceCtorEq, Int.reduceToNat, Nat.reduceAdd, Nat.reduceMul, Int.reduceAdd, Int.reduceSub, Int.reduceLE, Int.reduceLT, Int.reduceNeg, Int.reduceMul, Int.reduceEq, Int.reduceNe, Nat.reduceLeDiff, Nat.reduceSub, h1, h2]
      rw [digB, decide_eq_true (by omega), decide_eq_false (by omega)]; rfl
  · simp only [cf_scan_digit, XX, wC_seq, wC_seqj, splice_def, Nat.reduceEqDiff, ↓reduceIte, reduceCtorEq, Int.reduceToNat, Nat.reduceAdd, Nat.reduceMul, Int.reduceAdd, Int.reduceSub, Int.reduceLE, Int.reduceLT, Int.reduceNeg, Int.reduceMul, Int.reduceEq, Int.reduceNe, Nat.reduceLeDiff, Nat.reduceSub, h1]
    rw [digB, decide_eq_false (by omega)]; rfl
theorem letterC (x : Nat) (hx : x < 256) (st : St) : Does (tabT tabD) n_scan_letter [.int .u8 x] st fun v st' => v = .bool (letB x) ∧ st = st' := by
  refine does_fn at_scan_letter rfl ?_
  by_cases h0 : x = 95
  · have h0' : ((x : Int) = 95) = True := eq_true (by omega)
    simp only [cf_scan_letter, XX, wC_seq, wC_seqj, splice_def, Nat.reduceEqDiff, ↓reduceIte, reduceCtorEq, Int.reduceToNat, Nat.reduceAdd, Nat.reduceMul, Int.reduceAdd, Int.reduceSub, Int.reduceLE, Int.reduceLT, Int.reduceNeg, Int.reduceMul, Int.reduceEq, Int.reduceNe, Nat.reduceLeDiff, Nat.reduceSub, h0']
    rw [letB, decide_eq_true h0]; rfl
  · have h0' : ¬ (x : Int) = 95 := by omega
    have ho := or_u8 x hx
    by_cases h1 : (97 : Int) ≤ ((x ||| 32 : Nat) : Int)
    · by_cases h2 : ((x ||| 32 : Nat) : Int) ≤ 122
      · simp only [cf_scan_letter, XX, wC_seq, wC_seqj, splice_def, Nat.reduceEqDiff, ↓reduceIte, reduceCtorEq, Int.reduceToNat, Nat.reduceAdd, Nat.reduceMul, Int.reduceAdd, Int.reduceSub, Int.reduceLE, Int.reduceLT, Int.reduceNeg, Int.reduceMul, Int.reduceEq, Int.reduceNe, Nat.reduceLeDiff, Nat.reduceSub, h0', ho, h1, h2]
        rw [letB, decide_eq_false h0, decide_eq_true (by omega), decide_eq_true (by omega)]; rfl
      · simp only [cf_scan_letter, XX, wC_seq, wC_seqj, splice_def, Nat.reduceEqDiff, ↓reduceIte, reduceCtorEq, Int.reduceToNat, Nat.reduceAdd, Nat.reduceMul, Int.reduceAdd, Int.reduceSub, Int.reduceLE, Int.reduceLT, Int.reduceNeg, Int.reduceMul, Int.reduceEq, Int.reduceNe, Nat.reduceLeDiff, Nat.reduceSub, h0', ho, h1, h2]
        rw [letB, decide_eq_false h0, decide_eq_true (by omega), decide_eq_false (by omega)]; rfl
    · simp only [cf_scan_letter, XX, wC_seq, wC_seqj, splice_def, Nat.reduceEqDiff, ↓reduceIte, reduceCtorEq, Int.reduceToNat, Nat.reduceAdd, Nat.reduceMul, Int.reduceAdd, Int.reduceSub, Int.reduceLE, Int.reduceLT, Int.reduceNeg, Int.reduceMul, Int.reduceEq, Int.reduceNe, Nat.reduceLeDiff, Nat.reduceSub, h0', ho, h1]
      rw [letB, decide_eq_false h0, decide_eq_false (by omega)]; rfl
theorem okC_ (x : Nat) (hx : x < 256) (st : St) : Does (tabT tabD) n_scan_row_1 [.int .u8 x] st fun v st' => v = .bool (okB x) ∧ st = st' := by
  refine does_fn at_scan_row_1 rfl ?_
  simp only [cf_scan_row_1, XX, wC_seq, wC_seqj, splice_def, Nat.reduceEqDiff, ↓reduceIte, reduceCtorEq, Int.reduceToNat, Nat.reduceAdd, Nat.reduceMul, Int.reduceAdd, Int.reduceSub, Int.reduceLE, Int.reduceLT, Int.reduceNeg, Int.reduceMul, Int.reduceEq, Int.reduceNe, Nat.reduceLeDiff, Nat.reduceSub]
  refine wCall_plain (letterC x hx _) ?_
  rintro _ _ ⟨rfl, rfl⟩
  cases h : letB x with
  | true =>
    simp only [XX, wC_seq, wC_seqj, splice_def, Nat.reduceEqDiff, ↓reduceIte, reduceCtorEq, Int.reduceToNat, Nat.reduceAdd, Nat.reduceMul, Int.reduceAdd, Int.reduceSub, Int.reduceLE, Int.reduceLT, Int.reduceNeg, Int.reduceMul, Int.reduceEq, Int.reduceNe, Nat.reduceLeDiff, Nat.reduceSub]
    rw [okB, h]; rfl
  | false =>
    simp only [XX, wC_seq, wC_seqj, splice_def, Nat.reduceEqDiff, ↓reduceIte, reduceCtorEq, Int.reduceToNat, Nat.reduceAdd, Nat.reduceMul, Int.reduceAdd, Int.reduceSub, Int.reduceLE, Int.reduceLT, Int.reduceNeg, Int.reduceMul, Int.reduceEq, Int.reduceNe, Nat.reduceLeDiff, Nat.reduceSub]
    refine wCall_plain (digitC x hx _) ?_
    rintro _ _ ⟨rfl, rfl⟩
    simp only [XX, wC_seq, wC_seqj, splice_def, Nat.reduceEqDiff, ↓reduceIte, reduceCtorEq, Int.reduceToNat, Nat.reduceAdd, Nat.reduceMul, Int.reduceAdd, Int.reduceSub, Int.reduceLE, Int.reduceLT, Int.reduceNeg, Int.reduceMul, Int.reduceEq, Int.reduceNe, Nat.reduceLeDiff, Nat.reduceSub]
    rw [okB, h]; rfl
set_option maxHeartbeats 1000000 in
theorem frontC (l : List UInt8) (st : St) (hw : WF st) (hl : l.length ≤ 100000) :
    Does (tabT tabD) n_scan_front [ofL l, .fn n_scan_row_1 [] []] st fun v st' => Gr st st' ∧ v = .int .i64 (fore l) := by
  refine does_fn at_scan_front rfl ?_
  simp only [cf_scan_front, XX, wC_seq, wC_seqj, Nat.reduceEqDiff, ↓reduceIte, reduceCtorEq, Int.reduceToNat, Nat.reduceAdd, Nat.reduceMul, Int.reduceAdd, Int.reduceSub, Int.reduceLE, Int.reduceLT, Int.reduceNeg, Int.reduceMul, Int.reduceEq, Int.reduceNe, Nat.reduceLeDiff, Nat.reduceSub, e_rngS, rngS_ofL]
  refine wC_loop (fun k fr st' => ∃ (p t : Nat), k + p = l.length ∧ (∀ j (hj : j < l.length), j < p → okB l[j].toNat = true) ∧ fr 0 = ofL l ∧ fr 1 = .fn n_scan_row_1 [] [] ∧ fr 7 = .ptr st.nx 0 ∧ st'.row st.nx = .sit t l.length (snum l) p ∧ Gr st st') l.length (by omega) ?_ ?_
  · refine ⟨0, st.t, by omega, fun j _ h => absurd h (by omega), ?_, ?_, ?_, ?_, Gr.new hw fun u => ⟨rfl, fun e => by cases e⟩⟩
    all_goals simp only [XX, wC_seq, wC_seqj, Nat.reduceEqDiff, ↓reduceIte, reduceCtorEq, Int.reduceToNat, Nat.reduceAdd, Nat.reduceMul, Int.reduceAdd, Int.reduceSub, Int.reduceLE, Int.reduceLT, Int.reduceNeg, Int.reduceMul, Int.reduceEq, Int.reduceNe, Nat.reduceLeDiff, Nat.reduceSub, row_new_nx]
    all_goals rfl
  · rintro k fr st1 ⟨p, t, hk, hok, h0, h1, h7, hr, hg⟩
    by_cases hp : p < l.length
    · have hrs := rune_small hp
      have gw : ∀ p' : Nat, Gr st (st1.wr st.nx t fun u => Row.sit u l.length (snum l) p') := fun p' =>
        hg.wr (nx_none hw) (by rw [hr]; exact fun e => by cases e) (by rw [hr]; rfl) fun u => ⟨rfl, fun e => by cases e⟩
      have hb := byteAt_get hp
      have hin : (0 : Int) ≤ (p : Int) ∧ (p : Int) < (l.length : Int) := by omega
      simp only [XX, wC_seq, wC_seqj, Nat.reduceEqDiff, ↓reduceIte, reduceCtorEq, Int.reduceToNat, Nat.reduceAdd, Nat.reduceMul, Int.reduceAdd, Int.reduceSub, Int.reduceLE, Int.reduceLT, Int.reduceNeg, Int.reduceMul, Int.reduceEq, Int.reduceNe, Nat.reduceLeDiff, Nat.reduceSub, h0, h1, h7, e_nextS, nextS_more hr hp, hin, hb]
      refine wCall_plain (okC_ _ (UInt8.toNat_lt _) _) ?_
      rintro _ _ ⟨rfl, rfl⟩
      cases ho : okB l[p].toNat with
      | true =>
        have hwd := rune_ascii hp (okB_small (UInt8.toNat_lt _) ho)
        simp only [XX, wC_seq, wC_seqj, Nat.reduceEqDiff, ↓reduceIte, reduceCtorEq, Int.reduceToNat, Nat.reduceAdd, Nat.reduceMul, Int.reduceAdd, Int.reduceSub, Int.reduceLE, Int.reduceLT, Int.reduceNeg, Int.reduceMul, Int.reduceEq, Int.reduceNe, Nat.reduceLeDiff, Nat.reduceSub, h0, h1, h7]
        refine ⟨k - 1, by omega, p + 1, st1.t, by omega, ?_, ?_, gw _⟩
        · intro j hj hjp
          by_cases e : j = p
          · subst e; exact ho
          · exact hok j hj (by omega)
        · rw [hwd]
      | false =>
        simp only [XX, wC_seq, wC_seqj, Nat.reduceEqDiff, ↓reduceIte, reduceCtorEq, Int.reduceToNat, Nat.reduceAdd, Nat.reduceMul, Int.reduceAdd, Int.reduceSub, Int.reduceLE, Int.reduceLT, Int.reduceNeg, Int.reduceMul, Int.reduceEq, Int.reduceNe, Nat.reduceLeDiff, Nat.reduceSub, h0, h1, h7]
        refine ⟨gw _, ?_⟩
        rw [ahead_at l p (by omega) hok hp ho]
    · have hpe : p = l.length := by omega
      simp only [XX, wC_seq, wC_seqj, Nat.reduceEqDiff, ↓reduceIte, reduceCtorEq, Int.reduceToNat, Nat.reduceAdd, Nat.reduceMul, Int.reduceAdd, Int.reduceSub, Int.reduceLE, Int.reduceLT, Int.reduceNeg, Int.reduceMul, Int.reduceEq, Int.reduceNe, Nat.reduceLeDiff, Nat.reduceSub, h0, h1, h7, e_nextS, nextS_done hr hp]
      refine ⟨hg, ?_⟩
      rw [(ahead_all l).2 (by rw [okAll, List.all_eq_true]; intro c hc; obtain ⟨j, hj, rfl⟩ := List.getElem_of_mem hc; exact hok j hj (by omega))]
theorem rowC (l : List UInt8) (st : St) (hw : WF st) (hl : l.length ≤ 100000) : Does (tabT tabD) n_scan_row [ofL l] st fun v st' => Gr st st' ∧ v = .int .i64 (fore l) := by
  refine does_fn at_scan_row rfl ?_
  simp only [cf_scan_row, XX, wC_seq, wC_seqj, splice_def, Nat.reduceEqDiff, ↓reduceIte, reduceCtorEq, Int.reduceToNat, Nat.reduceAdd, Nat.reduceMul, Int.reduceAdd, Int.reduceSub, Int.reduceLE, Int.reduceLT, Int.reduceNeg, Int.reduceMul, Int.reduceEq, Int.reduceNe, Nat.reduceLeDiff, Nat.reduceSub]
  refine wCall_plain (frontC l _ hw hl) ?_
  rintro _ st1 ⟨hg, rfl⟩
  simp only [XX, wC_seq, wC_seqj, splice_def, Nat.reduceEqDiff, ↓reduceIte, reduceCtorEq, Int.reduceToNat, Nat.reduceAdd, Nat.reduceMul, Int.reduceAdd, Int.reduceSub, Int.reduceLE, Int.reduceLT, Int.reduceNeg, Int.reduceMul, Int.reduceEq, Int.reduceNe, Nat.reduceLeDiff, Nat.reduceSub]
  exact hg
theorem identC (l : List UInt8) (st : St) (hw : WF st) : Does (tabT tabD) n_scan_Ident [ofL l] st fun v st' => Gr st st' ∧ v = .bool (identB l) := by
  refine does_fn at_scan_Ident rfl ?_
  cases l with
  | nil =>
    simp only [cf_scan_Ident, XX, wC_seq, wC_seqj, splice_def, Nat.reduceEqDiff, ↓reduceIte, reduceCtorEq, Int.reduceToNat, Nat.reduceAdd, Nat.reduceMul, Int.reduceAdd, Int.reduceSub, Int.reduceLE, Int.reduceLT, Int.reduceNeg, Int.reduceMul, Int.reduceEq, Int.reduceNe, Nat.reduceLeDiff, Nat.reduceSub]
    exact ⟨Gr.refl hw, rfl⟩
  | cons c r =>
    obtain ⟨l, hle⟩ : ∃ l, l = c :: r := ⟨_, rfl⟩
    rw [← hle]
    have hne : ¬ l = [] := by rw [hle]; simp
    have hb : byteAt l 0 = c.toNat := by rw [hle]; exact byteAt_get (l := c :: r) (i := 0) (by simp)
    have h0 : (0 : Int) ≤ 0 ∧ (0 : Int) < (l.length : Int) := by rw [hle]; simp only [List.length_cons]; omega
    have hid : identB l = (decide (l.length ≤ 16) && (!digB c.toNat && okAll l)) := by rw [hle]; rfl
    by_cases h16 : (l.length : Int) ≤ 16
    · simp only [cf_scan_Ident, XX, wC_seq, wC_seqj, splice_def, Nat.reduceEqDiff, ↓reduceIte, reduceCtorEq, Int.reduceToNat, Nat.reduceAdd, Nat.reduceMul, Int.reduceAdd, Int.reduceSub, Int.reduceLE, Int.reduceLT, Int.reduceNeg, Int.reduceMul, Int.reduceEq, Int.reduceNe, Nat.reduceLeDiff, Nat.reduceSub, hne, h16, h0, hb]
      refine wCall_plain (digitC c.toNat (UInt8.toNat_lt _) _) ?_
      rintro _ _ ⟨rfl, rfl⟩
      cases hd : digB c.toNat with
      | true =>
        simp only [XX, wC_seq, wC_seqj, splice_def, Nat.reduceEqDiff, ↓reduceIte, reduceCtorEq, Int.reduceToNat, Nat.reduceAdd, Nat.reduceMul, Int.reduceAdd, Int.reduceSub, Int.reduceLE, Int.reduceLT, Int.reduceNeg, Int.reduceMul, Int.reduceEq, Int.reduceNe, Nat.reduceLeDiff, Nat.reduceSub]
        refine ⟨Gr.refl hw, ?_⟩
        rw [hid, hd]; simp
      | false =>
        simp only [XX, wC_seq, wC_seqj, splice_def, Nat.reduceEqDiff, ↓reduceIte, reduceCtorEq, Int.reduceToNat, Nat.reduceAdd, Nat.reduceMul, Int.reduceAdd, Int.reduceSub, Int.reduceLE, Int.reduceLT, Int.reduceNeg, Int.reduceMul, Int.reduceEq, Int.reduceNe, Nat.reduceLeDiff, Nat.reduceSub]
        refine wCall_plain (rowC l _ hw (by omega)) ?_
        rintro _ st1 ⟨hg, rfl⟩
        simp only [XX, wC_seq, wC_seqj, splice_def, Nat.reduceEqDiff, ↓reduceIte, reduceCtorEq, Int.reduceToNat, Nat.reduceAdd, Nat.reduceMul, Int.reduceAdd, Int.reduceSub, Int.reduceLE, Int.reduceLT, Int.reduceNeg, Int.reduceMul, Int.reduceEq, Int.reduceNe, Nat.reduceLeDiff, Nat.reduceSub]
        refine ⟨hg, ?_⟩
        rw [hid, hd, decide_eq_true (show l.length ≤ 16 by omega)]
        by_cases ha : fore l = l.length
        · rw [(ahead_all l).1 ha]; simp [ha]
        · have : okAll l = false := by
            cases ho : okAll l with
            | false => rfl
            | true => exact absurd ((ahead_all l).2 ho) ha
          have ha' : ¬ (fore l : Int) = (l.length : Int) := by omega
          rw [this]; simp [ha']
    · simp only [cf_scan_Ident, XX, wC_seq, wC_seqj, splice_def, Nat.reduceEqDiff, ↓reduceIte, reduceCtorEq, Int.reduceToNat, Nat.reduceAdd, Nat.reduceMul, Int.reduceAdd, Int.reduceSub, Int.reduceLE, Int.reduceLT, Int.reduceNeg, Int.reduceMul, Int.reduceEq, Int.reduceNe, Nat.reduceLeDiff, Nat.reduceSub, hne, h16]
      refine ⟨Gr.refl hw, ?_⟩
      rw [hid, decide_eq_false (show ¬ l.length ≤ 16 by omega)]; rfl
end Go.Proofs.Ytajifckdgaoncaa
