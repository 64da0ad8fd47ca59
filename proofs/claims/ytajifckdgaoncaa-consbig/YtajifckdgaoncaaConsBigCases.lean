/- The cases of 'ConsBig', each to be checked. No condition. -/
import Derived.Test.YtajifckdgaoncaaConsBigCode
namespace Go.Proofs.Ytajifckdgaoncaa.law
open Eva Go.RowKit
noncomputable def one (k0 : Nat) : Bool := check (tab (hypOf 0 [3] k0)) 1000 3 [.opq 0]
noncomputable def row (k0 : Nat) : Bool := one k0
end Go.Proofs.Ytajifckdgaoncaa.law
