/- Types found in a table, plainly. -/
import Derived.Test.YtajifckdgaoncaaEvdZ
namespace Eva
open Go Go.RowKit
set_option linter.unusedVariables false
theorem idx_app {n : Nd} {r : List Nd} : ∀ {l : List Nd} {i j : Nat}, idx n l i = some j → idx n (l ++ r) i = some j
  | [], i, j, h => by cases h
  | a :: l, i, j, h => by
    rw [List.cons_append, idx]
    rw [idx] at h
    by_cases c : n = a
    · rw [if_pos c] at h ⊢; exact h
    · rw [if_neg c] at h ⊢; exact idx_app h
theorem idx_new {n : Nd} : ∀ {l : List Nd} {i : Nat}, idx n l i = none → idx n (l ++ [n]) i = some (i + l.length)
  | [], i, _ => by rw [List.nil_append, idx, if_pos rfl]; rfl
  | a :: l, i, h => by
    rw [idx] at h
    by_cases c : n = a
    · rw [if_pos c] at h; cases h
    · rw [if_neg c] at h
      rw [List.cons_append, idx, if_neg c, idx_new h, List.length_cons]
      congr 1; omega
theorem idx_get {n : Nd} : ∀ {l : List Nd} {i j : Nat}, idx n l i = some j → i ≤ j ∧ l[j - i]? = some n
  | [], i, j, h => by cases h
  | a :: l, i, j, h => by
    rw [idx] at h
    by_cases c : n = a
    · rw [if_pos c] at h; injection h with h; subst h
      exact ⟨Nat.le_refl _, by rw [Nat.sub_self, c]; rfl⟩
    · rw [if_neg c] at h
      obtain ⟨h1, h2⟩ := idx_get h
      refine ⟨by omega, ?_⟩
      have : j - i = (j - (i + 1)) + 1 := by omega
      rw [this, List.getElem?_cons_succ]
      exact h2
mutual
def lookT (nodes : List Nd) : Ty → Option Nat
  | .mk k n ns ks => match looksT nodes ks with
    | none => none
    | some ids => idx ⟨k, n, ns, ids⟩ nodes 0
def looksT (nodes : List Nd) : List Ty → Option (List Nat)
  | [] => some []
  | t :: r => match lookT nodes t, looksT nodes r with
    | some i, some l => some (i :: l)
    | _, _ => none
end
mutual
def sizeT : Ty → Nat
  | .mk _ _ _ ks => sizesT ks + 1
def sizesT : List Ty → Nat
  | [] => 0
  | t :: r => sizeT t + sizesT r
end
mutual
theorem look_app {l r : List Nd} : ∀ (t : Ty) {i : Nat}, lookT l t = some i → lookT (l ++ r) t = some i
  | .mk k n ns ks, i, h => by
    rw [lookT] at h ⊢
    cases c : looksT l ks with
    | none => rw [c] at h; cases h
    | some ids =>
      rw [c] at h
      rw [looks_app ks c]
      exact idx_app h
theorem looks_app {l r : List Nd} : ∀ (ts : List Ty) {ids : List Nat}, looksT l ts = some ids → looksT (l ++ r) ts = some ids
  | [], ids, h => by rw [looksT] at h ⊢; exact h
  | t :: ts, ids, h => by
    rw [looksT] at h ⊢
    cases c : lookT l t with
    | none => rw [c] at h; cases h
    | some i =>
      cases c2 : looksT l ts with
      | none => rw [c, c2] at h; cases h
      | some is =>
        rw [c, c2] at h
        rw [look_app t c, looks_app ts c2]
        exact h
end
theorem layS_ok {tb : Tb} {n : Nd} (h : (layS tb n).2.2 = 0) : ∃ r, (layS tb n).1 = { tb with nodes := tb.nodes ++ r } ∧ idx n (layS tb n).1.nodes 0 = some (layS tb n).2.1 ∧ r.length ≤ 1 := by
  unfold layS at h ⊢
  cases c : idx n tb.nodes 0 with
  | some i => exact ⟨[], by simp, by simpa using c, by simp⟩
  | none =>
    rw [c] at h
    by_cases c2 : 120 ≤ tb.nodes.length
    · rw [if_pos c2] at h; cases h
    · simp only [if_neg c2]
      refine ⟨[n], rfl, ?_, by simp⟩
      have := idx_new c
      rw [Nat.zero_add] at this
      exact this
mutual
theorem addT_ok : ∀ (t : Ty) {left : Int} {tb : Tb}, (addT t left tb).2.2.1 = 0 → ∃ r, (addT t left tb).1 = { tb with nodes := tb.nodes ++ r } ∧ lookT (addT t left tb).1.nodes t = some (addT t left tb).2.1 ∧ (addT t left tb).2.2.2 = left - sizeT t
  | .mk k n ns ks, left, tb, h => by
    rw [addT_mk] at h ⊢
    by_cases c : left - 1 < 0 ∨ 8 < ks.length ∨ 8 < ns.length
    · rw [if_pos c] at h; cases h
    rw [if_neg c] at h ⊢
    have ih := addTs_ok ks (left := left - 1) (tb := tb)
    generalize addTs ks (left - 1) tb = x at h ih ⊢
    obtain ⟨tb1, ids, e, l1⟩ := x
    simp only at h ih ⊢
    by_cases he : e = 0
    · subst he
      obtain ⟨r, a1, a2, a3⟩ := ih rfl
      simp only [ne_eq, not_true_eq_false, if_false] at h ⊢
      obtain ⟨r2, b1, b2, b3⟩ := layS_ok h
      refine ⟨r ++ r2, by rw [b1, a1]; simp, ?_, by rw [a3, sizeT]; push_cast; omega⟩
      rw [lookT, b1]
      simp only
      rw [looks_app ks a2]
      rw [b1] at b2
      exact b2
    · rw [if_pos he] at h
      exact absurd h he
theorem addTs_ok : ∀ (ts : List Ty) {left : Int} {tb : Tb}, (addTs ts left tb).2.2.1 = 0 → ∃ r, (addTs ts left tb).1 = { tb with nodes := tb.nodes ++ r } ∧ looksT (addTs ts left tb).1.nodes ts = some (addTs ts left tb).2.1 ∧ (addTs ts left tb).2.2.2 = left - sizesT ts
  | [], left, tb, h => by
    rw [addTs_nil]
    exact ⟨[], by simp, by rw [looksT], by simp [sizesT]⟩
  | t :: ts, left, tb, h => by
    rw [addTs_cons] at h ⊢
    have i1 := addT_ok t (left := left) (tb := tb)
    generalize addT t left tb = x at h i1 ⊢
    obtain ⟨tb1, i, e, l1⟩ := x
    simp only at h i1 ⊢
    by_cases he : e = 0
    · subst he
      obtain ⟨r, a1, a2, a3⟩ := i1 rfl
      simp only [ne_eq, not_true_eq_false, if_false] at h ⊢
      have i2 := addTs_ok ts (left := l1) (tb := tb1)
      generalize addTs ts l1 tb1 = y at h i2 ⊢
      obtain ⟨tb2, is, e2, l2⟩ := y
      simp only at h i2 ⊢
      obtain ⟨r2, b1, b2, b3⟩ := i2 h
      refine ⟨r ++ r2, by rw [b1, a1]; simp, ?_, by rw [b3, a3, sizesT]; push_cast; omega⟩
      rw [looksT, b2]
      have : lookT tb2.nodes t = some i := by rw [b1]; exact look_app t a2
      rw [this]
    · rw [if_pos he] at h
      exact absurd h he
end
mutual
theorem addT_there : ∀ (t : Ty) {left l0 : Int} {tb tb0 : Tb} {i : Nat}, (addT t l0 tb0).2.2.1 = 0 → lookT tb.nodes t = some i → (sizeT t : Int) ≤ left → addT t left tb = (tb, i, 0, left - sizeT t)
  | .mk k n ns ks, left, l0, tb, tb0, i, h0, h, hl => by
    rw [addT_mk] at h0 ⊢
    by_cases c : l0 - 1 < 0 ∨ 8 < ks.length ∨ 8 < ns.length
    · rw [if_pos c] at h0; cases h0
    rw [if_neg c] at h0
    rw [sizeT] at hl ⊢
    rw [if_neg (by push_cast at hl; omega)]
    rw [lookT] at h
    cases c2 : looksT tb.nodes ks with
    | none => rw [c2] at h; cases h
    | some ids =>
      rw [c2] at h
      simp only at h
      have hk : (addTs ks (l0 - 1) tb0).2.2.1 = 0 := by
        generalize addTs ks (l0 - 1) tb0 = x at h0 ⊢
        obtain ⟨tb1, ids', e, l1⟩ := x
        simp only at h0 ⊢
        by_cases he : e = 0
        · exact he
        · rw [if_pos he] at h0; exact absurd h0 he
      rw [addTs_there ks hk c2 (by push_cast at hl; omega)]
      simp only [ne_eq, not_true_eq_false, if_false]
      unfold layS
      rw [h]
      simp only
      congr 3
      push_cast; omega
theorem addTs_there : ∀ (ts : List Ty) {left l0 : Int} {tb tb0 : Tb} {is : List Nat}, (addTs ts l0 tb0).2.2.1 = 0 → looksT tb.nodes ts = some is → (sizesT ts : Int) ≤ left → addTs ts left tb = (tb, is, 0, left - sizesT ts)
  | [], left, l0, tb, tb0, is, _, h, hl => by
    rw [looksT] at h
    injection h with h
    rw [addTs_nil, ← h]
    simp [sizesT]
  | t :: ts, left, l0, tb, tb0, is, h0, h, hl => by
    rw [addTs_cons] at h0 ⊢
    rw [sizesT] at hl ⊢
    rw [looksT] at h
    cases c : lookT tb.nodes t with
    | none => rw [c] at h; cases h
    | some i =>
      cases c2 : looksT tb.nodes ts with
      | none => rw [c, c2] at h; cases h
      | some l =>
        rw [c, c2] at h
        injection h with h
        have k1 : (addT t l0 tb0).2.2.1 = 0 ∧ (addTs ts (addT t l0 tb0).2.2.2 (addT t l0 tb0).1).2.2.1 = 0 := by
          generalize addT t l0 tb0 = x at h0 ⊢
          obtain ⟨tb1, i', e, l1⟩ := x
          simp only at h0 ⊢
          by_cases he : e = 0
          · subst he
            simp only [ne_eq, not_true_eq_false, if_false] at h0
            exact ⟨rfl, h0⟩
          · rw [if_pos he] at h0; exact absurd h0 he
        rw [addT_there t k1.1 c (by push_cast at hl; omega)]
        simp only [ne_eq, not_true_eq_false, if_false]
        rw [addTs_there ts k1.2 c2 (by push_cast at hl; omega), ← h]
        simp only
        congr 3
        push_cast; omega
end
end Eva
