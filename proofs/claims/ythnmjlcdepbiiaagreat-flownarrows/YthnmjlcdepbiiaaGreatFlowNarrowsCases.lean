/- The cases of 'FlowNarrows', each to be checked. No condition. -/
import Derived.Test.YthnmjlcdepbiiaaGreatFlowNarrowsCode
namespace Go.Proofs.YthnmjlcdepbiiaaGreat.law
open Eva Go.RowKit
set_option linter.unusedVariables false
noncomputable def one (k0 : Nat) (r : Bool) : Bool := checkN (tab (hypOf 0 [19] k0)) 1000 6 [.opq 0] r
def G (k0 : Nat) : Prop := Eva.Good (tab (hypOf 0 [19] k0)) 1000 6 [.opq 0]
theorem one_ok (k0 : Nat) (r : Bool) (h : one k0 r = true) : G k0 ∧ r = true := checkN_ok (tab_K _) h
noncomputable def row (k0 : Nat) : Bool → Bool := one k0
theorem row_ok (k0 : Nat) : ∀ r, row k0 r = true → G k0 ∧ r = true := fun r h => one_ok k0 r h
end Go.Proofs.YthnmjlcdepbiiaaGreat.law
