/- A table that has grown answers as it did. -/
import Derived.Test.YtajifckdgaoncaaEveE
namespace Eva
open Go Go.RowKit
set_option linter.unusedVariables false
theorem byP_fst (x y : Nd) (first : Bool) : ∀ (l : List Str) (i : Nat) (q : Nat × Nat), some q ∈ byP x y first l i → if first = true then q.1 ∈ x.kids else q.1 ∈ y.kids
  | [], i, q, h => by cases h
  | n :: r, i, q, h => by
    rw [byP] at h
    rcases List.mem_cons.1 h with h | h
    · unfold pairN at h
      split at h
      · cases h
      · rename_i j _
        split at h
        · rename_i c
          injection h with h
          cases first with
          | true => simp only [if_true] at h ⊢; rw [h]; exact getD_mem c.1
          | false =>
            simp only [Bool.false_eq_true, if_false] at h ⊢
            rw [h]; exact getD_mem c.2
        · cases h
    · exact byP_fst x y first r (i + 1) q h
theorem kidsP_fst (y : Nd) : ∀ (l : List Nat) (i : Nat) (q : Nat × Nat), some q ∈ kidsP y l i → q.1 ∈ l
  | [], i, q, h => by cases h
  | a :: r, i, q, h => by
    rw [kidsP] at h
    rcases List.mem_cons.1 h with h | h
    · split at h
      · injection h with h; rw [h]; exact List.mem_cons_self
      · cases h
    · exact List.mem_cons_of_mem _ (kidsP_fst y r (i + 1) q h)
theorem plan2_rng {a : Nat} {x y : Nd} {l : List (Option (Nat × Nat))} (h : plan2 a x y = some l) (q : Nat × Nat) (hq : some q ∈ l) : (q.1 = a ∨ q.1 ∈ x.kids) ∧ q.2 ∈ y.kids := by
  unfold plan2 at h
  split at h
  · rename_i c2
    injection h with h
    rw [← h] at hq
    have hq : some q = some _ := List.mem_singleton.1 hq
    injection hq with hq
    rw [hq]; exact ⟨.inl rfl, getD_mem (by omega)⟩
  · split at h
    · cases h
    · split at h
      · injection h with h; rw [← h] at hq
        have h1 := byP_fst _ _ true _ _ q hq
        have h2 := byP_snd _ _ true _ _ q hq
        simp only [if_true] at h1 h2
        exact ⟨.inr h1, h2⟩
      · split at h
        · injection h with h; rw [← h] at hq
          have h1 := byP_fst _ _ false _ _ q hq
          have h2 := byP_snd _ _ false _ _ q hq
          simp only [Bool.false_eq_true, if_false] at h1 h2
          exact ⟨.inr h1, h2⟩
        · injection h with h; rw [← h] at hq
          exact ⟨.inr (kidsP_fst _ _ _ q hq), kidsP_snd _ _ _ q hq⟩
theorem asks_eq {f g : Was → Nat → Nat → Option (Bool × Was)} : ∀ (l : List (Option (Nat × Nat))) (W : Was), (∀ q, some q ∈ l → ∀ W, f W q.1 q.2 = g W q.1 q.2) → asksS f l W = asksS g l W
  | [], W, _ => rfl
  | none :: r, W, _ => rfl
  | some p :: r, W, h => by
    rw [asksS, asksS, h p List.mem_cons_self W]
    have ih := fun W => asks_eq r W fun q hq => h q (List.mem_cons_of_mem _ hq)
    cases g W p.1 p.2 with
    | none => rfl
    | some x =>
      obtain ⟨b, V⟩ := x
      cases b with
      | false => rfl
      | true => exact ih V
theorem fits_ext {tb tb' : Tb} (hT : Acy tb) (hT' : Acy tb') (hp : ∀ (i : Nat) (n : Nd), tb.nodes[i]? = some n → tb'.nodes[i]? = some n) : ∀ (f : Nat) (W : Was) (a b : Nat), a < tb.nodes.length → b < tb.nodes.length → fitsS tb' f W a b = fitsS tb f W a b
  | 0, W, a, b, _, _ => rfl
  | f + 1, W, a, b, ha, hb => by
    have ea := List.getElem?_eq_getElem ha
    have eb := List.getElem?_eq_getElem hb
    have e : plan tb' a b = plan tb a b := by rw [plan_here hT ea eb, plan_here hT' (hp a _ ea) (hp b _ eb)]
    rw [fitsS, fitsS, e]
    split
    · rfl
    · cases hl : plan tb a b with
      | none => rfl
      | some l =>
        refine asks_eq l _ fun q hq W => ?_
        rw [plan_here hT ea eb] at hl
        obtain ⟨k1, k2⟩ := plan2_rng hl q hq
        refine fits_ext hT hT' hp f W q.1 q.2 ?_ (Nat.lt_trans ((hT b _ eb).2 _ k2) hb)
        rcases k1 with k1 | k1
        · rw [k1]; exact ha
        · exact Nat.lt_trans ((hT a _ ea).2 _ k1) ha
end Eva
