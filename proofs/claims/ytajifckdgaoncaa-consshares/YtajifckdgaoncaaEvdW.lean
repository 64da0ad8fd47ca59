/- 'SubUnions', plainly. -/
import Derived.Test.YtajifckdgaoncaaEvdV
namespace Eva
open Go Go.RowKit
set_option linter.unusedVariables false
set_option maxRecDepth 100000
abbrev ndI : Nd := ⟨2, [], [], []⟩
abbrev ndU (l : List Str) (k : Nat) : Nd := ⟨8, [], l, List.replicate l.length k⟩
abbrev tyI : Ty := .mk 2 [] [] []
abbrev tyU (l : List Str) (t : Ty) : Ty := .mk 8 [] l (List.replicate l.length t)
theorem addTs_rep {t : Ty} {tb : Tb} {i : Nat} {c : Int} (hc : 0 ≤ c) (h : ∀ left, c ≤ left → addT t left tb = (tb, i, 0, left - c)) : ∀ (m : Nat) (left : Int), m * c ≤ left → addTs (List.replicate m t) left tb = (tb, List.replicate m i, 0, left - m * c)
  | 0, left, _ => by rw [List.replicate_zero, addTs_nil]; simp
  | m + 1, left, hl => by
    have hm : ((m + 1 : Nat) : Int) * c = m * c + c := by push_cast; rw [Int.add_mul, Int.one_mul]
    have h0 : (0 : Int) ≤ m * c := Int.mul_nonneg (by omega) hc
    rw [hm] at hl ⊢
    rw [List.replicate_succ, addTs_cons, h left (by omega)]
    simp only [ne_eq, not_true_eq_false, if_false]
    rw [addTs_rep hc h m (left - c) (by omega)]
    simp only [List.replicate_succ]
    congr 3
    omega
theorem addTs_rep1 {t : Ty} {tb tb' : Tb} {i : Nat} {c : Int} (hc : 0 ≤ c) (h1 : ∀ left, c ≤ left → addT t left tb = (tb', i, 0, left - c)) (h : ∀ left, c ≤ left → addT t left tb' = (tb', i, 0, left - c)) (m : Nat) (left : Int) (hl : (m + 1 : Nat) * c ≤ left) : addTs (List.replicate (m + 1) t) left tb = (tb', List.replicate (m + 1) i, 0, left - (m + 1 : Nat) * c) := by
  have hm : ((m + 1 : Nat) : Int) * c = m * c + c := by push_cast; rw [Int.add_mul, Int.one_mul]
  have h0 : (0 : Int) ≤ m * c := Int.mul_nonneg (by omega) hc
  rw [hm] at hl ⊢
  rw [List.replicate_succ, addTs_cons, h1 left (by omega)]
  simp only [ne_eq, not_true_eq_false, if_false]
  rw [addTs_rep hc h m (left - c) (by omega)]
  simp only [List.replicate_succ]
  congr 3
  omega
theorem nI {tb : Tb} {r : List Nd} (hr : tb.nodes = ndI :: r) (left : Int) (hl : 1 ≤ left) : addT tyI left tb = (tb, 0, 0, left - 1) := by
  rw [addT_mk, if_neg (by simp; omega), addTs_nil]
  simp [layS, hr, idx]
theorem nI0 (left : Int) (hl : 1 ≤ left) : addT tyI left emptyTb = (⟨[ndI], [], 0, []⟩, 0, 0, left - 1) := by
  rw [addT_mk, if_neg (by simp; omega), addTs_nil]
  simp [layS, emptyTb, idx]
theorem nX {xs : List Str} (h0 : xs ≠ []) (h8 : xs.length ≤ 8) : addT (tyU xs tyI) 400 emptyTb = ((⟨[ndI, ndU xs 0], [], 0, []⟩ : Tb), 1, 0, 399 - (xs.length : Int)) := by
  obtain ⟨m, hm⟩ : ∃ m, xs.length = m + 1 := ⟨xs.length - 1, by have := List.length_pos_iff.2 h0; omega⟩
  rw [addT_mk, if_neg (by simp; omega), hm, addTs_rep1 (tb := emptyTb) (tb' := ⟨[ndI], [], 0, []⟩) (i := 0) (c := 1) (by omega) nI0 (nI (tb := ⟨[ndI], [], 0, []⟩) (r := []) rfl) m _ (by omega)]
  simp only [ne_eq, not_true_eq_false, if_false]
  simp [layS, idx, hm]
theorem nY {xs ys : List Str} (h0 : ys ≠ []) (h8 : ys.length ≤ 8) : addT (tyU ys tyI) 400 ⟨[ndI, ndU xs 0], [], 1, []⟩ = if ys = xs then (⟨[ndI, ndU xs 0], [], 1, []⟩, 1, 0, 399 - (ys.length : Int)) else (⟨[ndI, ndU xs 0, ndU ys 0], [], 1, []⟩, 2, 0, 399 - (ys.length : Int)) := by
  rw [addT_mk, if_neg (by simp; omega), addTs_rep (c := 1) (by omega) (nI (tb := ⟨[ndI, ndU xs 0], [], 1, []⟩) rfl) ys.length _ (by omega)]
  simp only [ne_eq, not_true_eq_false, if_false]
  have h1 : ¬ (ndU ys 0 = ndI) := fun e => by have := congrArg Nd.kind e; cases this
  by_cases h : ys = xs
  · subst h
    simp [layS, idx]
  · have h2 : ¬ (ndU ys 0 = ndU xs 0) := fun e => h (by have := congrArg Nd.names e; exact this)
    have h3 : idx (ndU ys 0) [ndI, ndU xs 0] 0 = none := by simp only [idx, if_neg h1, if_neg h2]
    simp only [layS, h3, if_neg h]
    simp
theorem fit_same (tb : Tb) (f : Nat) (was : Was) (a : Nat) : fitsS tb (f + 1) was a a = some (true, was) := by rw [fitsS, if_pos (.inl rfl)]
end Eva
