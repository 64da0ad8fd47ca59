/- The cases of 'KindsNumbers', each to be checked. No condition. -/
import Derived.Test.YthhmgleopaojiaaKindsNumbersCode
namespace Go.Proofs.Ythhmgleopaojiaa.law
open Eva Go.RowKit
noncomputable def one (k0 : Nat) (k1 : Nat) (k2 : Nat) : Bool := check (tab (hypOf 0 [6, 5] k0 ++ hypOf 1 [5] k1 ++ hypOf 2 [5] k2)) 1000 5 [.opq 0, .opq 1, .opq 2]
noncomputable def row (k0 : Nat) : Bool := allK (fun k1 => allK (fun k2 => one k0 k1 k2) 5) 5
end Go.Proofs.Ythhmgleopaojiaa.law
