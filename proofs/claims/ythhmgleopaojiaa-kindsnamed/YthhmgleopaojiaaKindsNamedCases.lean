/- The cases of 'KindsNamed', each to be checked. No condition. -/
import Derived.Test.YthhmgleopaojiaaKindsNamedCode
namespace Go.Proofs.Ythhmgleopaojiaa.law
open Eva Go.RowKit
noncomputable def one (k0 : Nat) (k1 : Nat) : Bool := check (tab (hypOf 0 [6] k0 ++ hypOf 1 [6] k1)) 1000 7 [.opq 0, .opq 1]
noncomputable def row (k0 : Nat) : Bool := allK (fun k1 => one k0 k1) 6
end Go.Proofs.Ythhmgleopaojiaa.law
