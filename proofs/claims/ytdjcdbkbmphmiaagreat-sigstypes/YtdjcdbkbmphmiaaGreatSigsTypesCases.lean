/- The cases of 'SigsTypes', each to be checked. No condition. -/
import Derived.Test.YtdjcdbkbmphmiaaGreatSigsTypesCode
namespace Go.Proofs.YtdjcdbkbmphmiaaGreat.law
open Eva Go.RowKit
set_option linter.unusedVariables false
noncomputable def one (k0 : Nat) (k1 : Nat) (r : Bool) : Bool := checkN (tab (hypOf 0 [8] k0)) 1000 5 [.opq 0, .im k1 2] r
def G (k0 : Nat) (k1 : Nat) : Prop := Eva.Good (tab (hypOf 0 [8] k0)) 1000 5 [.opq 0, .im k1 2]
theorem one_ok (k0 : Nat) (k1 : Nat) (r : Bool) (h : one k0 k1 r = true) : G k0 k1 ∧ r = true := checkN_ok (tab_K _) h
noncomputable def row (k0 : Nat) : Bool → Bool := allN (fun k1 => one k0 k1) 2
theorem row_ok (k0 : Nat) : ∀ r, row k0 r = true → (∀ k1, k1 < 2 → G k0 k1) ∧ r = true := fun r h => allN_ok (G := fun k1 => G k0 k1) (fun k1 => fun r h => one_ok k0 k1 r h) h
end Go.Proofs.YtdjcdbkbmphmiaaGreat.law
