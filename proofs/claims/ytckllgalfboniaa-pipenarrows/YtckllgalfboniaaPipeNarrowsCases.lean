/- The cases of 'PipeNarrows', each to be checked. No condition. -/
import Derived.Test.YtckllgalfboniaaPipeNarrowsCode
namespace Go.Proofs.Ytckllgalfboniaa.law
open Eva Go.RowKit
set_option linter.unusedVariables false
noncomputable def one (k0 : Nat) (k1 : Nat) (b2 : Bool) (r : Bool) : Bool := checkN (tab (hypOf 0 [4] k0 ++ hypOf 1 [k0 + 2] k1)) 1000 3 [.opq 0, .opq 1, .bool b2] r
def G (k0 : Nat) (k1 : Nat) (b2 : Bool) : Prop := Eva.Good (tab (hypOf 0 [4] k0 ++ hypOf 1 [k0 + 2] k1)) 1000 3 [.opq 0, .opq 1, .bool b2]
theorem one_ok (k0 : Nat) (k1 : Nat) (b2 : Bool) (r : Bool) (h : one k0 k1 b2 r = true) : G k0 k1 b2 ∧ r = true := checkN_ok (tab_K _) h
noncomputable def row (k0 : Nat) : Bool → Bool := allN (fun k1 => andN (one k0 k1 true) (one k0 k1 false)) (k0 + 2)
theorem row_ok (k0 : Nat) : ∀ r, row k0 r = true → (∀ k1, k1 < (k0 + 2) → (G k0 k1 true ∧ G k0 k1 false)) ∧ r = true := fun r h => allN_ok (G := fun k1 => (G k0 k1 true ∧ G k0 k1 false)) (fun k1 => fun r h => andN_ok (fun r h => one_ok k0 k1 true r h) (fun r h => one_ok k0 k1 false r h) h) h
end Go.Proofs.Ytckllgalfboniaa.law
