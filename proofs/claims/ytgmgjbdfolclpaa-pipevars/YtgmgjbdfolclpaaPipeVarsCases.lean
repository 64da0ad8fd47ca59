/- The cases of 'PipeVars', each to be checked. No condition. -/
import Derived.Test.YtgmgjbdfolclpaaPipeVarsCode
namespace Go.Proofs.Ytgmgjbdfolclpaa.law
open Eva Go.RowKit
set_option linter.unusedVariables false
noncomputable def one (u : V) (l : List V) (hyp : List (Nat × Nat × Nat)) (c : Nat) (r : Bool) : Bool := checkR (tab hyp) 1000 3 [u, .im c 2] l r
def G (u : V) (l : List V) (hyp : List (Nat × Nat × Nat)) (c : Nat) : Prop := GoodR (tab hyp) 1000 3 [u, .im c 2] l
theorem one_ok {u : V} {l : List V} {hyp : List (Nat × Nat × Nat)} {c : Nat} {r : Bool} (h : one u l hyp c r = true) : G u l hyp c ∧ r = true := checkR_ok (tab_K _) h
noncomputable def rowS (u : V) (l : List V) (c : Nat) : Bool → Bool := allN (fun r1 => one u l [(0, 7, r1)] c) 7
theorem rowS_ok {u : V} {l : List V} {c : Nat} {r : Bool} (h : rowS u l c r = true) : (∀ r1, r1 < 7 → G u l [(0, 7, r1)] c) ∧ r = true := allN_ok (G := fun r1 => G u l [(0, 7, r1)] c) (fun _ _ h => one_ok h) h
noncomputable def rowM (u : V) (l : List V) (m1 m2 c : Nat) : Bool → Bool := allN (fun r1 => allN (fun r2 => one u l [(m1, 7, r1), (m2, 7, r2)] c) 7) 7
theorem rowM_ok {u : V} {l : List V} {m1 m2 c : Nat} {r : Bool} (h : rowM u l m1 m2 c r = true) : (∀ r1, r1 < 7 → ∀ r2, r2 < 7 → G u l [(m1, 7, r1), (m2, 7, r2)] c) ∧ r = true :=
  allN_ok (G := fun r1 => ∀ r2, r2 < 7 → G u l [(m1, 7, r1), (m2, 7, r2)] c) (fun r1 _ h => allN_ok (G := fun r2 => G u l [(m1, 7, r1), (m2, 7, r2)] c) (fun _ _ h => one_ok h) h) h
end Go.Proofs.Ytgmgjbdfolclpaa.law
