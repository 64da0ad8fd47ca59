/- Which types fit: pairs beyond reach do not matter; there is fuel enough. -/
import Derived.Test.YtajifckdgaoncaaEveB
namespace Eva
open Go Go.RowKit
set_option linter.unusedVariables false
def Acy (tb : Tb) : Prop := ∀ (i : Nat) (nd : Nd), tb.nodes[i]? = some nd → nd.kind ≠ 9 ∧ ∀ k ∈ nd.kids, k < i
def Sim (u : Nat) (V W : Was) : Prop := ∀ q : Nat × Nat, q.2 < u → (q ∈ V ↔ q ∈ W)
def ResS (u : Nat) (o1 o2 : Option (Bool × Was)) : Prop := (o1 = none ∧ o2 = none) ∨ ∃ x V W, o1 = some (x, V) ∧ o2 = some (x, W) ∧ Sim u V W
theorem getD_mem {l : List Nat} {i : Nat} (h : i < l.length) : l.getD i 0 ∈ l := by
  rw [List.getD_eq_getElem?_getD, List.getElem?_eq_getElem h]
  exact List.getElem_mem h
theorem byP_snd (x y : Nd) (first : Bool) : ∀ (l : List Str) (i : Nat) (q : Nat × Nat), some q ∈ byP x y first l i → if first = true then q.2 ∈ y.kids else q.2 ∈ x.kids
  | [], i, q, h => by cases h
  | n :: r, i, q, h => by
    rw [byP] at h
    rcases List.mem_cons.1 h with h | h
    · unfold pairN at h
      split at h
      · cases h
      · rename_i j _
        split at h
        · rename_i c
          injection h with h
          cases first with
          | true => simp only [if_true] at h ⊢; rw [h]; exact getD_mem c.2
          | false =>
            simp only [Bool.false_eq_true, if_false] at h ⊢
            rw [h]; exact getD_mem c.1
        · cases h
    · exact byP_snd x y first r (i + 1) q h
theorem kidsP_snd (y : Nd) : ∀ (l : List Nat) (i : Nat) (q : Nat × Nat), some q ∈ kidsP y l i → q.2 ∈ y.kids
  | [], i, q, h => by cases h
  | a :: r, i, q, h => by
    rw [kidsP] at h
    rcases List.mem_cons.1 h with h | h
    · split at h
      · rename_i c; injection h with h; rw [h]; exact getD_mem c
      · cases h
    · exact kidsP_snd y r (i + 1) q h
theorem plan_snd {tb : Tb} (hT : Acy tb) {a b : Nat} {l : List (Option (Nat × Nat))} (h : plan tb a b = some l) (q : Nat × Nat) (hq : some q ∈ l) : q.2 < b := by
  unfold plan at h
  split at h
  · rename_i c
    have hb := openS_lt c.2
    have hlb : b < tb.nodes.length := by
      rcases Nat.lt_or_ge b tb.nodes.length with k | k
      · exact k
      · rw [openS_none k] at c; cases c.2
    have hnb := hT b tb.nodes[b] (List.getElem?_eq_getElem hlb)
    have eb : openS tb (tb.nodes.length + 1) b = (b, true) := openS_self hlb hnb.1
    rw [eb] at h
    have gb : tb.nodes.getD b zeroNd = tb.nodes[b] := by simp [List.getD_eq_getElem?_getD, hlb]
    simp only [gb] at h
    refine hnb.2 q.2 ?_
    unfold plan2 at h
    split at h
    · rename_i c2
      injection h with h
      rw [← h] at hq
      have hq : some q = some _ := List.mem_singleton.1 hq
      injection hq with hq
      rw [hq]; exact getD_mem (by omega)
    · split at h
      · cases h
      · split at h
        · injection h with h; rw [← h] at hq
          have := byP_snd _ _ true _ _ q hq
          simpa using this
        · split at h
          · injection h with h; rw [← h] at hq
            have := byP_snd _ _ false _ _ q hq
            simpa using this
          · injection h with h; rw [← h] at hq
            exact kidsP_snd _ _ _ q hq
  · cases h
theorem asks_sim {u : Nat} {f : Was → Nat → Nat → Option (Bool × Was)} (hf : ∀ V W a b, Sim u V W → b < u → ResS u (f V a b) (f W a b)) : ∀ (l : List (Option (Nat × Nat))) (V W : Was), (∀ q, some q ∈ l → q.2 < u) → Sim u V W → ResS u (asksS f l V) (asksS f l W)
  | [], V, W, _, h => .inr ⟨true, V, W, rfl, rfl, h⟩
  | none :: r, V, W, _, h => .inr ⟨false, V, W, rfl, rfl, h⟩
  | some p :: r, V, W, hl, h => by
    have k := hf V W p.1 p.2 h (hl p List.mem_cons_self)
    rw [asksS, asksS]
    rcases k with ⟨k1, k2⟩ | ⟨x, V', W', k1, k2, k3⟩
    · rw [k1, k2]; exact .inl ⟨rfl, rfl⟩
    · rw [k1, k2]
      cases x with
      | false => exact .inr ⟨false, V', W', rfl, rfl, k3⟩
      | true => exact asks_sim hf r V' W' (fun q hq => hl q (List.mem_cons_of_mem _ hq)) k3
theorem sim_add {u : Nat} {V W : Was} (h : Sim u V W) (q : Nat × Nat) : Sim u (V ++ [q]) (W ++ [q]) := fun p hp => by
  simp only [List.mem_append, List.mem_singleton, h p hp]
theorem fits_sim {tb : Tb} (hT : Acy tb) {u : Nat} : ∀ (f : Nat) (V W : Was) (a b : Nat), Sim u V W → b < u → ResS u (fitsS tb f V a b) (fitsS tb f W a b)
  | 0, V, W, a, b, _, _ => .inl ⟨rfl, rfl⟩
  | f + 1, V, W, a, b, h, hb => by
    rw [fitsS, fitsS]
    by_cases c : a = b ∨ (a, b) ∈ V
    · have c' : a = b ∨ (a, b) ∈ W := c.imp id (h (a, b) hb).1
      rw [if_pos c, if_pos c']
      exact .inr ⟨true, V, W, rfl, rfl, h⟩
    · have c' : ¬ (a = b ∨ (a, b) ∈ W) := fun k => c (k.imp id (h (a, b) hb).2)
      rw [if_neg c, if_neg c']
      cases hp : plan tb a b with
      | none => exact .inr ⟨false, _, _, rfl, rfl, sim_add h _⟩
      | some l => exact asks_sim (fits_sim hT f) l _ _ (fun q hq => Nat.lt_trans (plan_snd hT hp q hq) hb) (sim_add h _)
end Eva
