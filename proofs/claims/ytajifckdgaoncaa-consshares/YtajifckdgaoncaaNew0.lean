/- The table of a schema of one type. -/
import Derived.Test.YtajifckdgaoncaaCheck0
import Derived.Test.YtajifckdgaoncaaNode
import Derived.Test.YtajifckdgaoncaaEvd9
namespace Go.Proofs.Ytajifckdgaoncaa
open Eva Go.RowKit
set_option maxRecDepth 100000
set_option linter.unusedSimpArgs false
set_option linter.unusedVariables false
def NewPost (st : St) (v : V) (st' : St) (r : Option Tb × Int) : Prop := match r.1 with
  | none => v = .tup [.pnil, .int .i64 r.2]
  | some tb => ∃ rt W F, v = .tup [.ptr rt 0, .int .i64 0] ∧ Tab W F st' rt tb ∧ ∀ r, W r ∨ F r → st.row r = .none
set_option maxHeartbeats 4000000 in
theorem new0 {P : Pt → Prop} {st : St} {e : List V} {s : Sch} (hw : WF st) (h : SchC P st e s) (h0 : s.types = []) (h00 : s.sigs = []) : Does (tabT tabD) n_cons_New [.agg e] st fun v' st' => Gr st st' ∧ NewPost st v' st' (newS s) := by
  refine does_fnG tabM at_cons_New rfl hw fun K fin => ?_
  obtain ⟨n, hn0⟩ : ∃ n, st.nx = up 0 n := ⟨_, up0 _⟩
  have hnew := newS0 h0 h00
  have hsch := h
  obtain ⟨c, tv, sv, rfl, h1, h2, h3⟩ := h
  obtain ⟨M, hM⟩ : ∃ M, M = s.main := ⟨_, rfl⟩
  rw [← hM] at h1 hnew
  obtain ⟨k, nm, ns, ks⟩ := M
  have h1' := h1
  obtain ⟨nv, kv, es, rfl, x1, x2, x3, x4⟩ := h1.inv'
  rw [h0] at h2
  rw [h00] at h3
  have g0 : Gr st (st.new fun t => .cells t [.int .i64 k, ofL nm, nv, kv, tv, sv]) := Gr.new hw (good_cells _)
  have r0 : (st.new fun t => .cells t [.int .i64 k, ofL nm, nv, kv, tv, sv]).row (up 0 n) = .cells st.t [.int .i64 k, ofL nm, nv, kv, tv, sv] := by simp only [XX, wC_seq, wC_seqj, splice_def, Nat.reduceEqDiff, ↓reduceIte, reduceCtorEq, Int.reduceToNat, Nat.reduceAdd, Nat.reduceMul, Int.reduceAdd, Int.reduceSub, Int.reduceLE, Int.reduceLT, Int.reduceNeg, Int.reduceMul, Int.reduceEq, Int.reduceNe, Nat.reduceLeDiff, Nat.reduceSub, hn0]
  simp only [cf_cons_New, XX, wC_seq, wC_seqj, splice_def, Nat.reduceEqDiff, ↓reduceIte, reduceCtorEq, Int.reduceToNat, Nat.reduceAdd, Nat.reduceMul, Int.reduceAdd, Int.reduceSub, Int.reduceLE, Int.reduceLT, Int.reduceNeg, Int.reduceMul, Int.reduceEq, Int.reduceNe, Nat.reduceLeDiff, Nat.reduceSub, hn0, x1.sc, x2.sc, h2.sc.1, h3.sc.1, h2.nil_len, h3.nil_len]
  refine wCall_plain (check0 g0.wf (hsch.imp fun r p e => ⟨p, g0.same r e⟩) h0 h00) ?_
  rintro _ S1 ⟨g1, rfl⟩
  have G1 := g0.trans g1
  have b1 := g1.cells r0
  have w1 := g1.wf
  obtain ⟨n1, hn1⟩ : ∃ n, S1.nx = up 0 n := ⟨_, up0 _⟩
  have o10 := fun k => nes (ne_up w1 hn1 (ne_cells b1) k)
  by_cases hc : checkS s = 0
  · have hc' : (checkS s = 0) = True := eq_true hc
    rw [if_neg (fun h => h hc)] at hnew
    simp only [XX, wC_seq, wC_seqj, splice_def, Nat.reduceEqDiff, ↓reduceIte, reduceCtorEq, Int.reduceToNat, Nat.reduceAdd, Nat.reduceMul, Int.reduceAdd, Int.reduceSub, Int.reduceLE, Int.reduceLT, Int.reduceNeg, Int.reduceMul, Int.reduceEq, Int.reduceNe, Nat.reduceLeDiff, Nat.reduceSub, hc', hn1, sc_mnil, cells_mnil, o10, b1, h2.nil_len]
    refine wC_loop1 (by decide) ?_
    simp only [XX, wC_seq, wC_seqj, splice_def, Nat.reduceEqDiff, ↓reduceIte, reduceCtorEq, Int.reduceToNat, Nat.reduceAdd, Nat.reduceMul, Int.reduceAdd, Int.reduceSub, Int.reduceLE, Int.reduceLT, Int.reduceNeg, Int.reduceMul, Int.reduceEq, Int.reduceNe, Nat.reduceLeDiff, Nat.reduceSub, hn1, o10, b1]
    obtain ⟨S2, hS2⟩ : ∃ S2, S2 = ((((S1.new fun t => .mob t []).new fun t => .mob t []).new fun t => .mob t []).new fun t => .cells t [.snil, .map (up 0 n1), .map (up 1 n1), .int .i64 0, .map (up 2 n1)]) := ⟨_, rfl⟩
    have g2 : Gr S1 S2 := by rw [hS2]; exact (((Gr.new w1 (good_mob _)).nn (good_mob _)).nn (good_mob _)).nn (good_cells _)
    have hT : Tab (fun r => r = up 0 n1 ∨ r = up 1 n1 ∨ r = up 2 n1 ∨ r = up 3 n1) (fun _ => False) S2 (up 3 n1) emptyTb := by
      refine ⟨.snil, up 0 n1, up 1 n1, up 2 n1, [], [], ⟨⟨_, by rw [hS2]; simp only [XX, wC_seq, wC_seqj, splice_def, Nat.reduceEqDiff, ↓reduceIte, reduceCtorEq, Int.reduceToNat, Nat.reduceAdd, Nat.reduceMul, Int.reduceAdd, Int.reduceSub, Int.reduceLE, Int.reduceLT, Int.reduceNeg, Int.reduceMul, Int.reduceEq, Int.reduceNe, Nat.reduceLeDiff, Nat.reduceSub, hn1]; rfl⟩, ⟨.inr (.inr (.inr rfl)), .inl rfl, .inr (.inl rfl), .inr (.inr (.inl rfl))⟩, ?_, fun r f => f.elim, ⟨?_, ?_, ?_⟩, ⟨rfl, .inl ⟨rfl, rfl⟩⟩, fun e h => absurd h (by simp), rfl, fun i h => absurd h (by simp), fun n h => absurd h (by simp [emptyTb]), by decide, ⟨_, by rw [hS2]; simp only [XX, wC_seq, wC_seqj, splice_def, Nat.reduceEqDiff, ↓reduceIte, reduceCtorEq, Int.reduceToNat, Nat.reduceAdd, Nat.reduceMul, Int.reduceAdd, Int.reduceSub, Int.reduceLE, Int.reduceLT, Int.reduceNeg, Int.reduceMul, Int.reduceEq, Int.reduceNe, Nat.reduceLeDiff, Nat.reduceSub, hn1]; rfl⟩, ⟨_, by rw [hS2]; simp only [XX, wC_seq, wC_seqj, splice_def, Nat.reduceEqDiff, ↓reduceIte, reduceCtorEq, Int.reduceToNat, Nat.reduceAdd, Nat.reduceMul, Int.reduceAdd, Int.reduceSub, Int.reduceLE, Int.reduceLT, Int.reduceNeg, Int.reduceMul, Int.reduceEq, Int.reduceNe, Nat.reduceLeDiff, Nat.reduceSub, hn1]; rfl⟩, ⟨_, by rw [hS2]; simp only [XX, wC_seq, wC_seqj, splice_def, Nat.reduceEqDiff, ↓reduceIte, reduceCtorEq, Int.reduceToNat, Nat.reduceAdd, Nat.reduceMul, Int.reduceAdd, Int.reduceSub, Int.reduceLE, Int.reduceLT, Int.reduceNeg, Int.reduceMul, Int.reduceEq, Int.reduceNe, Nat.reduceLeDiff, Nat.reduceSub, hn1]; rfl⟩, rfl, fun i h => absurd h (by simp)⟩⟩
      · intro r hr
        rcases hr with e | e | e | e
        all_goals rw [hS2, e]; simp only [XX, wC_seq, wC_seqj, splice_def, Nat.reduceEqDiff, ↓reduceIte, reduceCtorEq, Int.reduceToNat, Nat.reduceAdd, Nat.reduceMul, Int.reduceAdd, Int.reduceSub, Int.reduceLE, Int.reduceLT, Int.reduceNeg, Int.reduceMul, Int.reduceEq, Int.reduceNe, Nat.reduceLeDiff, Nat.reduceSub, hn1]
        all_goals exact fun e => by cases e
      · rw [up_ne]; decide
      · rw [up_ne]; decide
      · rw [up_ne]; decide
    rw [← hS2]
    have hx : TyC (fun r => P r ∧ st.row r ≠ .none) S2 [.int .i64 k, ofL nm, nv, kv] (.mk k nm ns ks) := h1'.imp fun r p e => ⟨⟨p, e⟩, (G1.trans g2).same r e⟩
    have fresh : ∀ k, st.row (up k n1) = .none := fun k => Ch.fresh (Ch.of (fun _ => False) G1) (nx0 w1 hn1 k)
    refine wCall_plain (addTop g2.wf hT hx (fun r p w => ?_)) ?_
    · rcases w with w | w | w | w <;> exact p.2 (by rw [w]; exact fresh _)
    rintro _ S3 ⟨c3, ⟨W3, F3, a1, a2, a3, T3⟩, rfl⟩
    by_cases ha : (addT (.mk k nm ns ks) 400 emptyTb).2.2.1 = 0
    · have ha' : ((addT (.mk k nm ns ks) 400 emptyTb).2.2.1 = 0) = True := eq_true ha
      rw [if_neg (fun h => h ha)] at hnew
      obtain ⟨t3, l3, e3, len3, T4⟩ := T3.setMain (addT (.mk k nm ns ks) 400 emptyTb).2.1
      have b3 : S3.row (up 0 n) = .cells st.t [.int .i64 k, ofL nm, nv, kv, tv, sv] := by
        have h5 := g2.cells b1
        rw [c3.same _ (ne_cells h5) (fun w => by rcases w with w | w | w | w <;> exact absurd w (ne_up w1 hn1 (ne_cells b1) _)), h5]
      have o3 : up 0 n ≠ up 3 n1 := ne_up w1 hn1 (ne_cells b1) 3
      have o3' := nes o3
      have h45 : 3 + 1 ≤ l3.length := by omega
      have h45' : 4 ≤ l3.length := by omega
      simp only [XX, wC_seq, wC_seqj, splice_def, Nat.reduceEqDiff, ↓reduceIte, reduceCtorEq, Int.reduceToNat, Nat.reduceAdd, Nat.reduceMul, Int.reduceAdd, Int.reduceSub, Int.reduceLE, Int.reduceLT, Int.reduceNeg, Int.reduceMul, Int.reduceEq, Int.reduceNe, Nat.reduceLeDiff, Nat.reduceSub, ha', e3, h45', -splice_def, o3', b3, h3.nil_len]
      refine wC_loop1 (by decide) ?_
      simp only [XX, wC_seq, wC_seqj, splice_def, Nat.reduceEqDiff, ↓reduceIte, reduceCtorEq, Int.reduceToNat, Nat.reduceAdd, Nat.reduceMul, Int.reduceAdd, Int.reduceSub, Int.reduceLE, Int.reduceLT, Int.reduceNeg, Int.reduceMul, Int.reduceEq, Int.reduceNe, Nat.reduceLeDiff, Nat.reduceSub]
      refine fin _ _ (fun r e => ?_) fun _ => ?_
      · have e1 : r ≠ up 3 n1 := fun k => e (by rw [k]; exact fresh 3)
        rw [row_wrI, if_neg e1, c3.same r (by rw [(G1.trans g2).same r e]; exact e) (fun w => by rcases w with w | w | w | w <;> exact e (by rw [w]; exact fresh _)), (G1.trans g2).same r e]
      · rw [hnew]
        refine ⟨up 3 n1, W3, F3, rfl, T4, fun r w => ?_⟩
        have fr : S2.row r = .none → st.row r = .none := fun h => Ch.fresh (Ch.of (fun _ => False) (G1.trans g2)) h
        rcases w with w | w
        · rcases a2 r w with w | w
          · rcases w with w | w | w | w <;> (rw [w]; exact fresh _)
          · exact fr w
        · rcases a3 r w with w | w
          · exact w.elim
          · exact fr w
    · have ha' : ((addT (.mk k nm ns ks) 400 emptyTb).2.2.1 = 0) = False := eq_false ha
      rw [if_pos ha] at hnew
      simp only [XX, wC_seq, wC_seqj, splice_def, Nat.reduceEqDiff, ↓reduceIte, reduceCtorEq, Int.reduceToNat, Nat.reduceAdd, Nat.reduceMul, Int.reduceAdd, Int.reduceSub, Int.reduceLE, Int.reduceLT, Int.reduceNeg, Int.reduceMul, Int.reduceEq, Int.reduceNe, Nat.reduceLeDiff, Nat.reduceSub, ha']
      refine fin _ _ (fun r e => ?_) fun _ => ?_
      · rw [c3.same r (by rw [(G1.trans g2).same r e]; exact e) (fun w => by rcases w with w | w | w | w <;> exact e (by rw [w]; exact fresh _)), (G1.trans g2).same r e]
      · rw [hnew]; exact rfl
  · have hc' : (checkS s = 0) = False := eq_false hc
    rw [if_pos hc] at hnew
    simp only [XX, wC_seq, wC_seqj, splice_def, Nat.reduceEqDiff, ↓reduceIte, reduceCtorEq, Int.reduceToNat, Nat.reduceAdd, Nat.reduceMul, Int.reduceAdd, Int.reduceSub, Int.reduceLE, Int.reduceLT, Int.reduceNeg, Int.reduceMul, Int.reduceEq, Int.reduceNe, Nat.reduceLeDiff, Nat.reduceSub, hc']
    refine fin _ _ (fun r e => G1.same r e) fun _ => ?_
    rw [hnew]; exact rfl
end Go.Proofs.Ytajifckdgaoncaa
