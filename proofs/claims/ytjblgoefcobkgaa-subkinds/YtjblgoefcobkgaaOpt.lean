/- An Opt's number. -/
import Derived.Test.YtjblgoefcobkgaaNode
namespace Go.Proofs.Ytjblgoefcobkgaa
open Eva Go.RowKit
set_option maxRecDepth 100000
set_option linter.unusedSimpArgs false
set_option linter.unusedVariables false
theorem optC {W F : Pt → Prop} {st : St} {rt : Pt} {tb : Tb} (id : Nat) (hw : WF st) (hT : Tab W F st rt tb) :
    Does (tabT tabD) n_cons_Table_Opt [.ptr rt 0, .int .i64 id] st fun v st' => Ch W st st' ∧ (∃ W' F' : Pt → Prop, (∀ r, W r → W' r) ∧ (∀ r, W' r → W r ∨ st.row r = .none) ∧ (∀ r, F' r → F r ∨ st.row r = .none) ∧ Tab W' F' st' rt (layS tb ⟨6, [], [], [id]⟩).1) ∧ v = .tup [.int .i64 ((layS tb ⟨6, [], [], [id]⟩).2.1 : Nat), .int .i64 (layS tb ⟨6, [], [], [id]⟩).2.2] := by
  refine does_fn at_cons_Table_Opt rfl ?_
  obtain ⟨n, hn0⟩ : ∃ n, st.nx = up 0 n := ⟨_, up0 _⟩
  simp only [cf_cons_Table_Opt, XX, wC_seq, wC_seqj, splice_def, Nat.reduceEqDiff, ↓reduceIte, reduceCtorEq, Int.reduceToNat, Nat.reduceAdd, Nat.reduceMul, Int.reduceAdd, Int.reduceSub, Int.reduceLE, Int.reduceLT, Int.reduceNeg, Int.reduceMul, Int.reduceEq, Int.reduceNe, Nat.reduceLeDiff, Nat.reduceSub, hn0]
  have g : Gr st (st.new fun u => .cells u [.int .i64 (id : Int)]) := Gr.new hw (good_cells _)
  refine wCall_plain (lay (P := fun _ => True) (nd := ⟨6, [], [], [id]⟩) g.wf (hT.gr g) ⟨.snil, .slx (up 0 n) 0 1 1 1, rfl, SlAt.nil _ _ _, ?_⟩ ⟨Nat.zero_le _, by show 1 ≤ 8; omega⟩) ?_
  · refine ⟨ints_one _, .inr ⟨up 0 n, 0, trivial, .inr ⟨1, Nat.le_refl _, rfl⟩, [.int .i64 (id : Int)], .inl ⟨st.t, by simp only [XX, wC_seq, wC_seqj, splice_def, Nat.reduceEqDiff, ↓reduceIte, reduceCtorEq, Int.reduceToNat, Nat.reduceAdd, Nat.reduceMul, Int.reduceAdd, Int.reduceSub, Int.reduceLE, Int.reduceLT, Int.reduceNeg, Int.reduceMul, Int.reduceEq, Int.reduceNe, Nat.reduceLeDiff, Nat.reduceSub, hn0]⟩, Nat.le_refl _, rfl⟩⟩
  · rintro _ S2 ⟨c2, ⟨W2, F2, b1, b2, b3, T2⟩, rfl⟩
    simp only [XX, wC_seq, wC_seqj, splice_def, Nat.reduceEqDiff, ↓reduceIte, reduceCtorEq, Int.reduceToNat, Nat.reduceAdd, Nat.reduceMul, Int.reduceAdd, Int.reduceSub, Int.reduceLE, Int.reduceLT, Int.reduceNeg, Int.reduceMul, Int.reduceEq, Int.reduceNe, Nat.reduceLeDiff, Nat.reduceSub]
    exact ⟨(Ch.of W g).trans c2 fun r w => .inl w, W2, F2, b1, fun r w => by rcases b2 r w with w | w; exact .inl w; exact .inr (Ch.fresh (Ch.of W g) w), fun r w => by rcases b3 r w with w | w; exact .inl w; exact .inr (Ch.fresh (Ch.of W g) w), T2⟩
end Go.Proofs.Ytjblgoefcobkgaa
