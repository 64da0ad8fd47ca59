/- 'known' of chapter 5 is true, by its contracts. -/
import Derived.Test.YtajifckdgaoncaaUse
namespace Go.Proofs.Ytajifckdgaoncaa
open Eva Go.RowKit
set_option maxRecDepth 100000
set_option linter.unusedSimpArgs false
set_option linter.unusedVariables false
def knX : Ty := .mk 2 [] [] []
def knY : Tb := ⟨[⟨2, [], [], []⟩], [], 0, []⟩
theorem kn_new5 : newS ⟨knX, [], []⟩ = (some knY, 0) := by kernel_rfl
theorem known5 (st : St) (hw : WF st) : Does (tabT tabD) n_spruelaw5_known [] st fun v S => Gr st S ∧ v = .bool true := by
  refine does_fnG tabM at_spruelaw5_known rfl hw fun K fin => ?_
  simp only [cf_spruelaw5_known, XX, splice_def, Nat.reduceEqDiff, ↓reduceIte, reduceCtorEq, Int.reduceToNat, Nat.reduceAdd, Nat.reduceMul, Int.reduceAdd, Int.reduceSub, Int.reduceLE, Int.reduceLT, Int.reduceNeg, Int.reduceMul, Int.reduceEq, Int.reduceNe, Nat.reduceLeDiff, Nat.reduceSub]
  rw [wC_seq]; simp only [XX, splice_def, Nat.reduceEqDiff, ↓reduceIte, reduceCtorEq, Int.reduceToNat, Nat.reduceAdd, Nat.reduceMul, Int.reduceAdd, Int.reduceSub, Int.reduceLE, Int.reduceLT, Int.reduceNeg, Int.reduceMul, Int.reduceEq, Int.reduceNe, Nat.reduceLeDiff, Nat.reduceSub]
  rw [wC_seq]; simp only [XX, splice_def, Nat.reduceEqDiff, ↓reduceIte, reduceCtorEq, Int.reduceToNat, Nat.reduceAdd, Nat.reduceMul, Int.reduceAdd, Int.reduceSub, Int.reduceLE, Int.reduceLT, Int.reduceNeg, Int.reduceMul, Int.reduceEq, Int.reduceNe, Nat.reduceLeDiff, Nat.reduceSub]
  refine wCall_plain (newX1 hw (base_at (fun _ => True) st 2)) ?_
  rintro v S1 ⟨G1, hp⟩
  rw [show newS ⟨.mk 2 [] [] [], [], []⟩ = (some knY, 0) from kn_new5] at hp
  obtain ⟨rt, W, rfl, T1, K1⟩ := hp
  simp only [XX, splice_def, Nat.reduceEqDiff, ↓reduceIte, reduceCtorEq, Int.reduceToNat, Nat.reduceAdd, Nat.reduceMul, Int.reduceAdd, Int.reduceSub, Int.reduceLE, Int.reduceLT, Int.reduceNeg, Int.reduceMul, Int.reduceEq, Int.reduceNe, Nat.reduceLeDiff, Nat.reduceSub]
  rw [wC_seq]; simp only [XX, splice_def, Nat.reduceEqDiff, ↓reduceIte, reduceCtorEq, Int.reduceToNat, Nat.reduceAdd, Nat.reduceMul, Int.reduceAdd, Int.reduceSub, Int.reduceLE, Int.reduceLT, Int.reduceNeg, Int.reduceMul, Int.reduceEq, Int.reduceNe, Nat.reduceLeDiff, Nat.reduceSub, neV_pn]
  refine wCall_plain (lenX T1) ?_
  rintro _ _ ⟨rfl, rfl⟩
  simp only [XX, splice_def, Nat.reduceEqDiff, ↓reduceIte, reduceCtorEq, Int.reduceToNat, Nat.reduceAdd, Nat.reduceMul, Int.reduceAdd, Int.reduceSub, Int.reduceLE, Int.reduceLT, Int.reduceNeg, Int.reduceMul, Int.reduceEq, Int.reduceNe, Nat.reduceLeDiff, Nat.reduceSub, knY, Int.natCast_one]
  refine wCall_plain (mainX T1) ?_
  rintro _ _ ⟨rfl, rfl⟩
  simp only [XX, wC_seq, wC_seqj, splice_def, Nat.reduceEqDiff, ↓reduceIte, reduceCtorEq, Int.reduceToNat, Nat.reduceAdd, Nat.reduceMul, Int.reduceAdd, Int.reduceSub, Int.reduceLE, Int.reduceLT, Int.reduceNeg, Int.reduceMul, Int.reduceEq, Int.reduceNe, Nat.reduceLeDiff, Nat.reduceSub, knY, Int.natCast_zero]
  exact fin _ _ (fun r e => G1.same r e) fun _ => rfl
end Go.Proofs.Ytajifckdgaoncaa
