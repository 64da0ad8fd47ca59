/- 'ConsShares', plainly: lists and maps around a type share it. -/
import Derived.Test.YtajifckdgaoncaaEveA
namespace Eva
open Go Go.RowKit
set_option linter.unusedVariables false
theorem layS_err (tb : Tb) (n : Nd) : (layS tb n).2.2 = 0 ∨ (layS tb n).2.2 = 20 := by
  unfold layS
  split
  · exact .inl rfl
  · split
    · exact .inr rfl
    · exact .inl rfl
mutual
theorem addT_err : ∀ (t : Ty) (left : Int) (tb : Tb), (addT t left tb).2.2.1 = 0 ∨ (addT t left tb).2.2.1 = 20
  | .mk k n ns ks, left, tb => by
    rw [addT_mk]
    split
    · exact .inr rfl
    · have ih := addTs_err ks (left - 1) tb
      generalize addTs ks (left - 1) tb = x at ih ⊢
      obtain ⟨tb1, ids, e, l1⟩ := x
      simp only at ih ⊢
      by_cases he : e = 0
      · rw [if_neg (fun k => k he)]; exact layS_err _ _
      · rw [if_pos he]; exact ih
theorem addTs_err : ∀ (ts : List Ty) (left : Int) (tb : Tb), (addTs ts left tb).2.2.1 = 0 ∨ (addTs ts left tb).2.2.1 = 20
  | [], left, tb => by rw [addTs_nil]; exact .inl rfl
  | t :: ts, left, tb => by
    rw [addTs_cons]
    have i1 := addT_err t left tb
    generalize addT t left tb = x at i1 ⊢
    obtain ⟨tb1, i, e, l1⟩ := x
    simp only at i1 ⊢
    by_cases he : e = 0
    · rw [if_neg (fun k => k he)]
      have i2 := addTs_err ts l1 tb1
      generalize addTs ts l1 tb1 = y at i2 ⊢
      obtain ⟨tb2, is, e2, l2⟩ := y
      exact i2
    · rw [if_pos he]; exact i1
end
def wrapT (x : Ty) : Nat → Ty
  | 0 => x
  | k + 1 => .mk (if k % 2 = 0 then 4 else 5) [] [] [wrapT x k]
theorem wrap_down {x : Ty} {nodes : List Nd} {n id : Nat} (h : lookT nodes (wrapT x (n + 1)) = some id) : ∃ i, nodes[id]? = some ⟨if n % 2 = 0 then 4 else 5, [], [], [i]⟩ ∧ lookT nodes (wrapT x n) = some i := by
  rw [wrapT, lookT, looksT] at h
  cases c : lookT nodes (wrapT x n) with
  | none => rw [c] at h; cases h
  | some i =>
    rw [c, looksT] at h
    obtain ⟨_, h2⟩ := idx_get h
    exact ⟨i, by simpa using h2, rfl⟩
theorem wrap_len {x : Ty} {m : Nat} {tb : Tb} (hx : lookT tb.nodes x = some m) : ∀ (n : Nat) {left : Int}, 0 ≤ left → (addT (wrapT x n) left tb).2.2.1 = 0 → (addT (wrapT x n) left tb).1.nodes.length ≤ tb.nodes.length + n
  | 0, left, hl, h => by
    have h1 := (addT_left (wrapT x 0) left tb hl).2.2 h
    obtain ⟨_, _, _, h2⟩ := addT_ok (wrapT x 0) h
    rw [h2] at h1
    have h3 := addT_there (wrapT x 0) (left := left) h hx (by omega)
    rw [h3]
    exact Nat.le_refl _
  | n + 1, left, hl, h => by
    have ih := @wrap_len x m tb hx n (left - 1)
    rw [wrapT, addT_mk] at h ⊢
    by_cases c : left - 1 < 0 ∨ 8 < [wrapT x n].length ∨ 8 < ([] : List Str).length
    · rw [if_pos c] at h; cases h
    rw [if_neg c] at h ⊢
    have c1 : ¬ (left - 1 < 0) := fun k => c (.inl k)
    rw [addTs_cons] at h ⊢
    generalize addT (wrapT x n) (left - 1) tb = y at h ih ⊢
    obtain ⟨tb1, i, e, l1⟩ := y
    simp only at h ih ⊢
    by_cases he : e = 0
    · subst he
      simp only [ne_eq, not_true_eq_false, if_false, addTs_nil] at h ⊢
      have h3 := ih (by omega) rfl
      obtain ⟨r, b1, b2, b3⟩ := layS_ok h
      rw [b1]
      simp only [List.length_append]
      omega
    · rw [if_pos he] at h
      simp only at h
      rw [if_pos he] at h
      exact absurd h he
theorem new_one {x : Ty} {tb : Tb} {e : Int} (h : newS ⟨x, [], []⟩ = (some tb, e)) : e = 0 ∧ lookT tb.nodes x = some tb.main := by
  rw [newS0 rfl rfl] at h
  by_cases c : checkS ⟨x, [], []⟩ ≠ 0
  · rw [if_pos c] at h; cases h
  rw [if_neg c] at h
  by_cases c2 : (addT x 400 emptyTb).2.2.1 ≠ 0
  · rw [if_pos c2] at h; cases h
  rw [if_neg c2] at h
  injection h with h h'
  injection h with h
  obtain ⟨_, _, h2, _⟩ := addT_ok x (by simpa using c2)
  rw [← h]
  exact ⟨h'.symm, h2⟩
end Eva
