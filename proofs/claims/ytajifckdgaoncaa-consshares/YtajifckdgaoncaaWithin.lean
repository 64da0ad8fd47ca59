/- Numbers from 0 on. -/
import Derived.Test.YtajifckdgaoncaaMon
import Derived.Test.YtajifckdgaoncaaEvdZ
namespace Go.Proofs.Ytajifckdgaoncaa
open Eva Go.RowKit
set_option maxRecDepth 100000
set_option linter.unusedSimpArgs false
set_option linter.unusedVariables false
theorem withinC (a n : Int) (st : St) (h0 : 0 < n) (h1 : n < 1000000) : Does (tabT tabD) n_spruelaw5_within [.int .i64 a, .int .i64 n] st fun v st' => v = .int .i64 (a % n) ∧ st = st' := by
  refine does_fn at_spruelaw5_within rfl ?_
  have hn : n ≠ 0 := by omega
  have e1 := Int.emod_nonneg a hn
  have e2 := Int.emod_lt_of_pos a h0
  rcases tmodC a h0 with ⟨h3, h4⟩ | ⟨h3, h4⟩
  · simp only [cf_spruelaw5_within, XX, wC_seq, wC_seqj, splice_def, Nat.reduceEqDiff, ↓reduceIte, reduceCtorEq, Int.reduceToNat, Nat.reduceAdd, Nat.reduceMul, Int.reduceAdd, Int.reduceSub, Int.reduceLE, Int.reduceLT, Int.reduceNeg, Int.reduceMul, Int.reduceEq, Int.reduceNe, Nat.reduceLeDiff, Nat.reduceSub, hn, h3]
    rw [h4]
  · have hw : IntKind.i64.wrap (a.tmod n + n) = a % n := by rw [h4, i64_in (by omega) (by omega)]
    simp only [cf_spruelaw5_within, XX, wC_seq, wC_seqj, splice_def, Nat.reduceEqDiff, ↓reduceIte, reduceCtorEq, Int.reduceToNat, Nat.reduceAdd, Nat.reduceMul, Int.reduceAdd, Int.reduceSub, Int.reduceLE, Int.reduceLT, Int.reduceNeg, Int.reduceMul, Int.reduceEq, Int.reduceNe, Nat.reduceLeDiff, Nat.reduceSub, hn, h3, hw]
end Go.Proofs.Ytajifckdgaoncaa
