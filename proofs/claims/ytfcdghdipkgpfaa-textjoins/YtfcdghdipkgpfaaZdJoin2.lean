/- Texts made of pieces; parts put together, told by their places. -/
import Derived.Test.YtfcdghdipkgpfaaZdJoin
namespace Go.Proofs.Ytfcdghdipkgpfaa
open Eva Go.RowKit
set_option maxRecDepth 100000
set_option linter.unusedSimpArgs false
set_option linter.unusedVariables false

def pieces7 : List (List UInt8) := [[120], [10], [123, 123, 46, 125, 125], [123, 123, 32, 97, 32, 34, 125, 125, 34, 32, 125, 125], [125], [34], [123, 123, 125, 125]]
theorem one_text {l : List UInt8} (h0 : 0 < l.length) (h : openAt l = none) : splitS l 0 = some [(false, l, 0)] := by
  rw [splitS_at h0, List.drop_zero, h]
theorem one_act {l : List UInt8} {k : Nat} (h0 : 0 < l.length) (h : openAt l = some 0) (he : endS (l.drop 2) false 0 = some k) (hl : l.length ≤ 0 + 2 + k + 2) : splitS l 0 = some [(true, (l.drop 2).take k, 0)] := by
  rw [splitS_at h0, List.drop_zero, h]
  simp only [Nat.zero_add, he]
  rw [splitS_end (by omega)]
  rfl
theorem piece_ok : ∀ m, m < 7 → ∃ p, splitS (pieces7.getD m []) 0 = some [p] ∧ lastOK [p] ∧ (pieces7.getD m []).length ≤ 12 := by
  have ok : ∀ (b : Bool) (s : List UInt8), (b = false → s ≠ [] ∧ s.getLast? ≠ some 123) → lastOK [(b, s, 0)] := fun b s h p hp hf => by
    have hp : (b, s, 0) = p := by simpa using hp
    subst hp
    exact h hf
  intro m hm
  have : m = 0 ∨ m = 1 ∨ m = 2 ∨ m = 3 ∨ m = 4 ∨ m = 5 ∨ m = 6 := by omega
  rcases this with rfl | rfl | rfl | rfl | rfl | rfl | rfl
  · exact ⟨_, one_text (by decide) (by decide), ok _ _ (by decide), by decide⟩
  · exact ⟨_, one_text (by decide) (by decide), ok _ _ (by decide), by decide⟩
  · exact ⟨_, one_act (k := 1) (by decide) (by decide) (by decide) (by decide), ok _ _ (fun h => by cases h), by decide⟩
  · exact ⟨_, one_act (k := 8) (by decide) (by decide) (by decide) (by decide), ok _ _ (fun h => by cases h), by decide⟩
  · exact ⟨_, one_text (by decide) (by decide), ok _ _ (by decide), by decide⟩
  · exact ⟨_, one_text (by decide) (by decide), ok _ _ (by decide), by decide⟩
  · exact ⟨_, one_act (k := 0) (by decide) (by decide) (by decide) (by decide), ok _ _ (fun h => by cases h), by decide⟩

theorem joinP_nil (x : List Prt) : joinP x [] = x := by
  induction x with
  | nil => rfl
  | cons p r ih =>
    cases r with
    | nil => rfl
    | cons q r => rw [joinP_cons _ (by simp), ih]
theorem joinP_concat (x : List Prt) (p q : Prt) (y : List Prt) : joinP (x ++ [p]) (q :: y) = if p.1 = false ∧ q.1 = false then x ++ (false, p.2.1 ++ q.2.1, p.2.2) :: y else x ++ p :: q :: y := by
  induction x with
  | nil => rfl
  | cons a x ih =>
    rw [List.cons_append, joinP_cons _ (by simp), ih]
    split <;> rfl
theorem lastOK_join1 (x : List Prt) {q : Prt} (h : lastOK [q]) : lastOK (joinP x [q]) ∧ (joinP x [q]).length ≤ x.length + 1 := by
  rcases List.eq_nil_or_concat x with rfl | ⟨x, p, rfl⟩
  · exact ⟨h, by simp [joinP]⟩
  · rw [List.concat_eq_append, joinP_concat]
    split
    · rename_i hpq
      refine ⟨fun r hr hf => ?_, by simp⟩
      have hr : (false, p.2.1 ++ q.2.1, p.2.2) = r := by simpa using hr
      subst hr
      obtain ⟨h1, h2⟩ := h q rfl hpq.2
      refine ⟨by simp [h1], ?_⟩
      rw [List.getLast?_append]
      cases hq : q.2.1.getLast? with
      | none => exact absurd (List.getLast?_eq_none_iff.1 hq) h1
      | some c => rw [hq] at h2; simpa using h2
    · refine ⟨fun r hr hf => h r ?_ hf, by simp⟩
      simpa using hr

/-- A text made of n pieces. -/
def Good (s : List UInt8) (n : Nat) : Prop := s.length ≤ 12 * n ∧ ∃ x, splitS s 0 = some x ∧ lastOK x ∧ x.length ≤ n
theorem Good.nil : Good [] 0 := ⟨Nat.le_refl _, [], splitS_end (Nat.le_refl _), (fun p h => by cases h), Nat.le_refl _⟩
theorem Good.more {s : List UInt8} {n m : Nat} (h : Good s n) (hm : m < 7) : Good (s ++ pieces7.getD m []) (n + 1) := by
  obtain ⟨h1, x, h2, h3, h4⟩ := h
  obtain ⟨p, p1, p2, p3⟩ := piece_ok m hm
  have hj := splitS_join s _ p1 _ 0 x rfl (Nat.zero_le _) h2 h3
  obtain ⟨j1, j2⟩ := lastOK_join1 x (q := shiftP s.length p) (fun r hr hf => p2 p rfl (by
    have hr : shiftP s.length p = r := by simpa using hr
    subst hr; exact hf) |> fun k => by
      have hr : shiftP s.length p = r := by simpa using hr
      subst hr; exact k)
  exact ⟨by rw [List.length_append]; omega, _, hj, j1, Nat.le_trans j2 (by omega)⟩

def meetB (x y : List Prt) : Bool := match x.getLast?, y.head? with
  | some p, some q => !p.1 && !q.1
  | _, _ => false
theorem join_len (x y : List Prt) : (joinP x y).length = x.length + y.length - (if meetB x y then 1 else 0) ∧ (meetB x y = true → 0 < x.length ∧ 0 < y.length) := by
  rcases List.eq_nil_or_concat x with rfl | ⟨x, p, rfl⟩
  · simp [joinP, meetB]
  cases y with
  | nil => simp [joinP_nil, meetB]
  | cons q y =>
    rw [List.concat_eq_append, joinP_concat]
    cases hp : p.1 <;> cases hq : q.1 <;> simp [meetB, hp, hq] <;> omega
theorem join_at (x y : List Prt) : ∀ i (h : i < y.length), (joinP x y)[(joinP x y).length - y.length + i]? = some (if i = 0 ∧ meetB x y = true then (false, (x.getLastD default).2.1 ++ y[i].2.1, (x.getLastD default).2.2) else y[i]) := by
  intro i hi
  rcases List.eq_nil_or_concat x with rfl | ⟨x, p, rfl⟩
  · simp [joinP, meetB, hi]
  cases y with
  | nil => simp at hi
  | cons q y =>
    rw [List.concat_eq_append, joinP_concat]
    by_cases hpq : p.1 = false ∧ q.1 = false
    · rw [if_pos hpq]
      have hm : meetB (x ++ [p]) (q :: y) = true := by simp [meetB, hpq.1, hpq.2]
      have hl : (x ++ (false, p.2.1 ++ q.2.1, p.2.2) :: y).length - (q :: y).length + i = x.length + i := by simp
      rw [hl, List.getElem?_append_right (by omega), hm]
      cases i with
      | zero => simp
      | succ i => simp at hi; simp [hi]
    · rw [if_neg hpq]
      have hm : meetB (x ++ [p]) (q :: y) = false := by
        cases hp : p.1 <;> cases hq : q.1 <;> simp [meetB, hp, hq] <;> exact absurd ⟨hp, hq⟩ hpq
      have hl : (x ++ p :: q :: y).length - (q :: y).length + i = x.length + 1 + i := by simp; omega
      rw [hl, hm, List.getElem?_append_right (by omega), show x.length + 1 + i - x.length = i + 1 by omega, List.getElem?_cons_succ, List.getElem?_eq_getElem hi]
      simp
end Go.Proofs.Ytfcdghdipkgpfaa
