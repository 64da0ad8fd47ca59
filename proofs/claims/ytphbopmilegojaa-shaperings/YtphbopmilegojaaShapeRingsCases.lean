/- The cases of 'ShapeRings', each to be checked. No condition. -/
import Derived.Test.YtphbopmilegojaaShapeRingsCode
namespace Go.Proofs.Ytphbopmilegojaa.law
open Eva Go.RowKit
noncomputable def one (k0 : Nat) (k1 : Nat) (k2 : Nat) : Bool := check (tab (hypOf 0 [6] k0 ++ hypOf 1 [k0 + 1] k1 ++ hypOf 2 [7] k2)) 1000 5 [.opq 0, .opq 1, .opq 2]
noncomputable def row (k0 : Nat) : Bool := allK (fun k1 => allK (fun k2 => one k0 k1 k2) 7) (k0 + 1)
end Go.Proofs.Ytphbopmilegojaa.law
