/- The cases of 'DiagPlaces', each to be checked. No condition. -/
import Derived.Test.YtkjnlhppheooeaaGreatDoorDiagPlacesCode
namespace Go.Proofs.YtkjnlhppheooeaaGreatDoor.law
open Eva Go.RowKit
set_option linter.unusedVariables false
noncomputable def one (k0 : Nat) (k1 : Nat) (k2 : Nat) (r : Bool) : Bool := checkN (tab (hypOf 0 [30] k0 ++ hypOf 1 [20] k1 ++ hypOf 2 [6] k2)) 1000 3 [.opq 0, .opq 1, .opq 2] r
def G (k0 : Nat) (k1 : Nat) (k2 : Nat) : Prop := Eva.Good (tab (hypOf 0 [30] k0 ++ hypOf 1 [20] k1 ++ hypOf 2 [6] k2)) 1000 3 [.opq 0, .opq 1, .opq 2]
theorem one_ok (k0 : Nat) (k1 : Nat) (k2 : Nat) (r : Bool) (h : one k0 k1 k2 r = true) : G k0 k1 k2 ∧ r = true := checkN_ok (tab_K _) h
noncomputable def row (k0 : Nat) : Bool → Bool := allN (fun k1 => allN (fun k2 => one k0 k1 k2) 6) 20
theorem row_ok (k0 : Nat) : ∀ r, row k0 r = true → (∀ k1, k1 < 20 → (∀ k2, k2 < 6 → G k0 k1 k2)) ∧ r = true := fun r h => allN_ok (G := fun k1 => (∀ k2, k2 < 6 → G k0 k1 k2)) (fun k1 => fun r h => allN_ok (G := fun k2 => G k0 k1 k2) (fun k2 => fun r h => one_ok k0 k1 k2 r h) h) h
end Go.Proofs.YtkjnlhppheooeaaGreatDoor.law
