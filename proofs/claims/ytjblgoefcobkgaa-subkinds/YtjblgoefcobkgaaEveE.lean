/- Unlike kinds; Opts. -/
import Derived.Test.YtjblgoefcobkgaaEveD
namespace Eva
open Go Go.RowKit
set_option linter.unusedVariables false
theorem open_here {tb : Tb} (hT : Acy tb) {i : Nat} {n : Nd} (h : tb.nodes[i]? = some n) : openS tb (tb.nodes.length + 1) i = (i, true) := by
  have l := (List.getElem?_eq_some_iff.1 h)
  exact openS_self l.1 (by rw [l.2]; exact (hT i n h).1)
theorem plan_here {tb : Tb} (hT : Acy tb) {a b : Nat} {x y : Nd} (ha : tb.nodes[a]? = some x) (hb : tb.nodes[b]? = some y) : plan tb a b = plan2 a x y := by
  unfold plan
  rw [open_here hT ha, open_here hT hb]
  simp only [and_self, if_true, List.getD_eq_getElem?_getD, ha, hb, Option.getD_some]
theorem fits_kinds {tb : Tb} (hT : Acy tb) {i j f : Nat} {x y : Nd} (ha : tb.nodes[i]? = some x) (hb : tb.nodes[j]? = some y) {V : Was} (h : fitsS tb f [] i j = some (true, V)) : x.kind = y.kind ∨ y.kind = 6 := by
  apply Classical.byContradiction
  intro c
  have c1 : x.kind ≠ y.kind := fun e => c (.inl e)
  have c2 : y.kind ≠ 6 := fun e => c (.inr e)
  cases f with
  | zero => cases h
  | succ f =>
    have hij : i ≠ j := fun e => by rw [e, hb] at ha; injection ha with ha; exact c1 (by rw [ha])
    have hp : plan tb i j = none := by
      rw [plan_here hT ha hb]
      unfold plan2
      rw [if_neg (fun k => c2 k.1), if_pos c1]
    rw [fitsS, if_neg (by simp; exact hij), hp] at h
    cases h
theorem fits_one {tb : Tb} (hT : Acy tb) {a b p q f : Nat} (hne : a ≠ b) (hp : plan tb a b = some [some (p, q)]) {x : Bool} {V : Was} (h : fitsS tb f [] p q = some (x, V)) : ∃ W, fitsS tb (f + 1) [] a b = some (x, W) := by
  have hq : q < b := plan_snd hT hp (p, q) (List.mem_singleton.2 rfl)
  rw [fitsS, if_neg (by simp; exact hne), hp]
  have s : Sim b [] ([] ++ [(a, b)]) := fun q hq => by
    simp only [List.nil_append, List.mem_singleton]
    exact ⟨fun h => absurd h (by simp), fun h => by rw [h] at hq; exact absurd hq (Nat.lt_irrefl _)⟩
  rcases fits_sim hT f [] ([] ++ [(a, b)]) p q s hq with ⟨k1, _⟩ | ⟨x', V', W', k1, k2, _⟩
  · rw [h] at k1; cases k1
  · rw [h] at k1
    injection k1 with k1
    injection k1 with k1 _
    show ∃ W, asksS (fitsS tb f) [some (p, q)] ([] ++ [(a, b)]) = some (x, W)
    rw [asksS]
    show ∃ W, (match fitsS tb f ([] ++ [(a, b)]) p q with | none => none | some (false, was) => some (false, was) | some (true, was) => asksS (fitsS tb f) [] was) = some (x, W)
    rw [k2, ← k1]
    cases x with
    | false => exact ⟨_, rfl⟩
    | true => exact ⟨_, rfl⟩
theorem fits_opt_in {tb : Tb} (hT : Acy tb) {i j o f : Nat} {x : Nd} (ha : tb.nodes[i]? = some x) (hx : x.kind ≠ 6) (ho : tb.nodes[o]? = some ⟨6, [], [], [j]⟩) {r : Bool} {V : Was} (h : fitsS tb f [] i j = some (r, V)) : ∃ W, fitsS tb (f + 1) [] i o = some (r, W) := by
  refine fits_one hT (fun e => ?_) ?_ h
  · rw [e, ho] at ha; injection ha with ha; rw [← ha] at hx; exact hx rfl
  · rw [plan_here hT ha ho]
    unfold plan2
    rw [if_pos ⟨rfl, hx, rfl⟩]
    rfl
theorem fits_opts {tb : Tb} (hT : Acy tb) {i j k o f : Nat} (ha : tb.nodes[i]? = some ⟨6, [], [], [k]⟩) (ho : tb.nodes[o]? = some ⟨6, [], [], [j]⟩) {r : Bool} {V : Was} (h : fitsS tb f [] k j = some (r, V)) : ∃ W, fitsS tb (f + 1) [] i o = some (r, W) := by
  by_cases e : i = o
  · rw [e, ho] at ha
    injection ha with ha
    injection ha with _ _ _ ha
    injection ha with ha
    subst ha
    cases f with
    | zero => cases h
    | succ f =>
      rw [fit_same] at h
      injection h with h
      injection h with h
      exact ⟨[], by rw [e, fit_same, ← h]⟩
  · refine fits_one hT e ?_ h
    rw [plan_here hT ha ho]
    simp [plan2, kidsP]
end Eva
