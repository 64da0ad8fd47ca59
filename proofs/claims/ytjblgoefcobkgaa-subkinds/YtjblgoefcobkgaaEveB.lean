/- 'ConsShares', plainly: lists and maps around a type share it. -/
import Derived.Test.YtjblgoefcobkgaaEveA
namespace Eva
open Go Go.RowKit
set_option linter.unusedVariables false
theorem layS_err (tb : Tb) (n : Nd) : (layS tb n).2.2 = 0 ∨ (layS tb n).2.2 = 20 := by
  unfold layS
  split
  · exact .inl rfl
  · split
    · exact .inr rfl
    · exact .inl rfl
mutual
theorem addT_err : ∀ (t : Ty) (left : Int) (tb : Tb), (addT t left tb).2.2.1 = 0 ∨ (addT t left tb).2.2.1 = 20
  | .mk k n ns ks, left, tb => by
    rw [addT_mk]
    split
    · exact .inr rfl
    · have ih := addTs_err ks (left - 1) tb
      generalize addTs ks (left - 1) tb = x at ih ⊢
      obtain ⟨tb1, ids, e, l1⟩ := x
      simp only at ih ⊢
      by_cases he : e = 0
      · rw [if_neg (fun k => k he)]; exact layS_err _ _
      · rw [if_pos he]; exact ih
theorem addTs_err : ∀ (ts : List Ty) (left : Int) (tb : Tb), (addTs ts left tb).2.2.1 = 0 ∨ (addTs ts left tb).2.2.1 = 20
  | [], left, tb => by rw [addTs_nil]; exact .inl rfl
  | t :: ts, left, tb => by
    rw [addTs_cons]
    have i1 := addT_err t left tb
    generalize addT t left tb = x at i1 ⊢
    obtain ⟨tb1, i, e, l1⟩ := x
    simp only at i1 ⊢
    by_cases he : e = 0
    · rw [if_neg (fun k => k he)]
      have i2 := addTs_err ts l1 tb1
      generalize addTs ts l1 tb1 = y at i2 ⊢
      obtain ⟨tb2, is, e2, l2⟩ := y
      exact i2
    · rw [if_pos he]; exact i1
end
end Eva
