/- Trees made of raw ones, without names, hold no name. -/
import Derived.Test.YtjblgoefcobkgaaEveF
namespace Eva
open Go Go.RowKit
set_option linter.unusedVariables false
theorem noNames_app : ∀ (l r : List Ty), noNames (l ++ r) = (noNames l && noNames r)
  | [], r => by rw [List.nil_append, noNames, Bool.true_and]
  | t :: l, r => by rw [List.cons_append, noNames, noNames, noNames_app l r, Bool.and_assoc]
theorem noNames_split (l : List Ty) (k : Nat) : noNames l = (noNames (l.take k) && noNames (l.drop k)) := by
  rw [← noNames_app, List.take_append_drop]
theorem noName_put {t x : Ty} {n : Str} (ht : noName t = true) (hx : noName x = true) : noName (putS t n x) = true := by
  unfold putS
  split
  · exact ht
  · obtain ⟨k, nm, ns, ks⟩ := t
    rw [noName, Bool.and_eq_true] at ht
    have h2 := ht.2
    rw [noNames_split ks (placeS n ns), Bool.and_eq_true] at h2
    show noName (.mk k nm _ (ks.take (placeS n ns) ++ x :: ks.drop (placeS n ns))) = true
    rw [noName, noNames_app, noNames, hx, h2.1, h2.2]
    simpa using ht.1
theorem kindR_no9 (d : Nat) (r : Rw) : kindR [] d r ≠ 9 := by
  unfold kindR
  split
  · decide
  · rename_i c
    exact fun e => c (.inl ⟨e, rfl⟩)
theorem noName_tree : ∀ (d : Nat) (r : Rw), noName (treeS [] d r) = true
  | 0, r => by
    rw [treeS, noName, noNames, Bool.and_true, decide_eq_true_eq]
    exact kindR_no9 0 r
  | d + 1, r => by
    have h9 := kindR_no9 (d + 1) r
    rw [treeS]
    simp only [if_neg h9]
    split
    · split
      · exact noName_tree d _
      · rw [noName, noNames, noNames, noName_tree d]
        simpa using h9
    · split
      · have key : ∀ (l : List Nat) (t : Ty), noName t = true → noName (l.foldl (fun t i => putS t (nameAt r i) (treeS [] d (kidS r i))) t) = true := by
          intro l
          induction l with
          | nil => exact fun t h => h
          | cons i l ih => exact fun t h => ih _ (noName_put h (noName_tree d _))
        exact key _ _ (by rw [noName, noNames]; simpa using h9)
      · rw [noName, noNames]; simpa using h9
end Eva
