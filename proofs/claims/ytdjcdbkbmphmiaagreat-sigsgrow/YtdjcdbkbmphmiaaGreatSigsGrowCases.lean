/- The cases of 'SigsGrow', each to be checked. No condition. -/
import Derived.Test.YtdjcdbkbmphmiaaGreatSigsGrowCode
namespace Go.Proofs.YtdjcdbkbmphmiaaGreat.law
open Eva Go.RowKit
set_option linter.unusedVariables false
noncomputable def one (k0 : Nat) (k1 : Nat) (r : Bool) : Bool := checkN (tab (hypOf 0 [9] k0 ++ hypOf 1 [3] k1)) 1000 4 [.opq 0, .opq 1] r
def G (k0 : Nat) (k1 : Nat) : Prop := Eva.Good (tab (hypOf 0 [9] k0 ++ hypOf 1 [3] k1)) 1000 4 [.opq 0, .opq 1]
theorem one_ok (k0 : Nat) (k1 : Nat) (r : Bool) (h : one k0 k1 r = true) : G k0 k1 ∧ r = true := checkN_ok (tab_K _) h
noncomputable def row (k0 : Nat) : Bool → Bool := allN (fun k1 => one k0 k1) 3
theorem row_ok (k0 : Nat) : ∀ r, row k0 r = true → (∀ k1, k1 < 3 → G k0 k1) ∧ r = true := fun r h => allN_ok (G := fun k1 => G k0 k1) (fun k1 => fun r h => one_ok k0 k1 r h) h
end Go.Proofs.YtdjcdbkbmphmiaaGreat.law
