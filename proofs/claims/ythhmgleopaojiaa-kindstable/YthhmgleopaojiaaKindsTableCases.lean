/- The cases of 'KindsTable', each to be checked. No condition. -/
import Derived.Test.YthhmgleopaojiaaKindsTableCode
namespace Go.Proofs.Ythhmgleopaojiaa.law
open Eva Go.RowKit
noncomputable def one (k0 : Nat) (k1 : Nat) : Bool := check (tab (hypOf 0 [5] k0 ++ hypOf 1 [8] k1)) 1000 8 [.opq 0, .opq 1]
noncomputable def row (k0 : Nat) : Bool := allK (fun k1 => one k0 k1) 8
end Go.Proofs.Ythhmgleopaojiaa.law
