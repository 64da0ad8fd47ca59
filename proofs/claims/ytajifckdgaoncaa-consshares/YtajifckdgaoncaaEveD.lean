/- Tables without names stay so; lists and maps fit as their kids do. -/
import Derived.Test.YtajifckdgaoncaaEveC
namespace Eva
open Go Go.RowKit
set_option linter.unusedVariables false
mutual
def noName : Ty → Bool
  | .mk k _ _ ks => decide (k ≠ 9) && noNames ks
def noNames : List Ty → Bool
  | [] => true
  | t :: r => noName t && noNames r
end
theorem acy_lay {tb : Tb} {n : Nd} (h : Acy tb) (hk : n.kind ≠ 9) (hn : ∀ k ∈ n.kids, k < tb.nodes.length) : Acy (layS tb n).1 := by
  unfold layS
  split
  · exact h
  · split
    · exact h
    · intro i nd hi
      have hi : (tb.nodes ++ [n])[i]? = some nd := hi
      rcases Nat.lt_or_ge i tb.nodes.length with c | c
      · rw [List.getElem?_append_left c] at hi; exact h i nd hi
      · rw [List.getElem?_append_right c] at hi
        have e : i - tb.nodes.length = 0 := by
          have := (List.getElem?_eq_some_iff.1 hi).1
          simpa using this
        rw [e] at hi
        injection hi with hi
        rw [← hi]
        exact ⟨hk, fun k hk => Nat.lt_of_lt_of_le (hn k hk) c⟩
theorem lay_lt {tb : Tb} {n : Nd} (h : (layS tb n).2.2 = 0) : (layS tb n).2.1 < (layS tb n).1.nodes.length := by
  obtain ⟨r, _, h2, _⟩ := layS_ok h
  have := (idx_get h2).2
  rw [Nat.sub_zero] at this
  exact (List.getElem?_eq_some_iff.1 this).1
mutual
theorem addT_acy : ∀ (t : Ty) {left : Int} {tb : Tb}, noName t = true → Acy tb → Acy (addT t left tb).1 ∧ ((addT t left tb).2.2.1 = 0 → (addT t left tb).2.1 < (addT t left tb).1.nodes.length)
  | .mk k n ns ks, left, tb, hn, h => by
    rw [noName, Bool.and_eq_true, decide_eq_true_eq] at hn
    rw [addT_mk]
    by_cases c : left - 1 < 0 ∨ 8 < ks.length ∨ 8 < ns.length
    · rw [if_pos c]; exact ⟨h, fun e => by cases e⟩
    rw [if_neg c]
    have ih := addTs_acy ks (left := left - 1) (tb := tb) hn.2 h
    generalize addTs ks (left - 1) tb = x at ih ⊢
    obtain ⟨tb1, ids, e, l1⟩ := x
    simp only at ih ⊢
    by_cases he : e = 0
    · subst he
      simp only [ne_eq, not_true_eq_false, if_false]
      exact ⟨acy_lay ih.1 hn.1 (ih.2 rfl), fun e => lay_lt e⟩
    · rw [if_pos he]
      exact ⟨ih.1, fun e => absurd e he⟩
theorem addTs_acy : ∀ (ts : List Ty) {left : Int} {tb : Tb}, noNames ts = true → Acy tb → Acy (addTs ts left tb).1 ∧ ((addTs ts left tb).2.2.1 = 0 → ∀ i ∈ (addTs ts left tb).2.1, i < (addTs ts left tb).1.nodes.length)
  | [], left, tb, hn, h => by rw [addTs_nil]; exact ⟨h, fun _ i hi => by cases hi⟩
  | t :: ts, left, tb, hn, h => by
    rw [noNames, Bool.and_eq_true] at hn
    rw [addTs_cons]
    have i1 := addT_acy t (left := left) (tb := tb) hn.1 h
    generalize addT t left tb = x at i1 ⊢
    obtain ⟨tb1, i, e, l1⟩ := x
    simp only at i1 ⊢
    by_cases he : e = 0
    · subst he
      simp only [ne_eq, not_true_eq_false, if_false]
      have i2 := addTs_acy ts (left := l1) (tb := tb1) hn.2 i1.1
      have i3 := addTs_ok ts (left := l1) (tb := tb1)
      generalize addTs ts l1 tb1 = y at i2 i3 ⊢
      obtain ⟨tb2, is, e2, l2⟩ := y
      simp only at i2 i3 ⊢
      refine ⟨i2.1, fun e q hq => ?_⟩
      rcases List.mem_cons.1 hq with rfl | hq
      · obtain ⟨r, b1, _⟩ := i3 e
        have := i1.2 rfl
        rw [b1]; simp only [List.length_append]; omega
      · exact i2.2 e q hq
    · rw [if_pos he]
      exact ⟨i1.1, fun e => absurd e he⟩
end
theorem fits_wrap {tb : Tb} (hT : Acy tb) {k : Int} (hk : k = 4 ∨ k = 5) {p u i j : Nat} (hp : tb.nodes[p]? = some ⟨k, [], [], [i]⟩) (hu : tb.nodes[u]? = some ⟨k, [], [], [j]⟩) {f : Nat} {x : Bool} {V : Was} (h : fitsS tb f [] i j = some (x, V)) : ∃ W, fitsS tb (f + 1) [] p u = some (x, W) := by
  have lp := (List.getElem?_eq_some_iff.1 hp).1
  have lu := (List.getElem?_eq_some_iff.1 hu).1
  have hj : j < u := (hT u _ hu).2 j (by simp)
  by_cases e : p = u
  · subst e
    rw [hp] at hu
    injection hu with hu
    injection hu with _ _ _ hu
    injection hu with hu
    subst hu
    rw [fit_same]
    cases f with
    | zero => cases h
    | succ f =>
      rw [fit_same] at h
      injection h with h
      injection h with h
      exact ⟨[], by rw [← h]⟩
  · have o1 : openS tb (tb.nodes.length + 1) p = (p, true) := openS_self lp (by rw [(List.getElem?_eq_some_iff.1 hp).2]; rcases hk with rfl | rfl <;> simp)
    have o2 : openS tb (tb.nodes.length + 1) u = (u, true) := openS_self lu (by rw [(List.getElem?_eq_some_iff.1 hu).2]; rcases hk with rfl | rfl <;> simp)
    have hplan : plan tb p u = some [some (i, j)] := by
      unfold plan
      rw [o1, o2]
      simp only [and_self, if_true, List.getD_eq_getElem?_getD, hp, hu, Option.getD_some]
      rcases hk with rfl | rfl <;> simp [plan2, kidsP]
    rw [fitsS, if_neg (by simp; exact e), hplan]
    have s : Sim u [] ([] ++ [(p, u)]) := fun q hq => by
      simp only [List.nil_append, List.mem_singleton]
      exact ⟨fun h => absurd h (by simp), fun h => by rw [h] at hq; exact absurd hq (Nat.lt_irrefl _)⟩
    rcases fits_sim hT f [] ([] ++ [(p, u)]) i j s hj with ⟨k1, _⟩ | ⟨x', V', W', k1, k2, _⟩
    · rw [h] at k1; cases k1
    · rw [h] at k1
      injection k1 with k1
      injection k1 with k1 _
      show ∃ W, asksS (fitsS tb f) [some (i, j)] ([] ++ [(p, u)]) = some (x, W)
      rw [asksS]
      show ∃ W, (match fitsS tb f ([] ++ [(p, u)]) i j with | none => none | some (false, was) => some (false, was) | some (true, was) => asksS (fitsS tb f) [] was) = some (x, W)
      rw [k2, ← k1]
      cases x with
      | false => exact ⟨_, rfl⟩
      | true => exact ⟨_, rfl⟩
end Eva
