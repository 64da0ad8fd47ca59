/- The cases of 'ShapeNames', each to be checked. No condition. -/
import Derived.Test.YtphbopmilegojaaShapeNamesCode
namespace Go.Proofs.Ytphbopmilegojaa.law
open Eva Go.RowKit
noncomputable def one (k0 : Nat) (k1 : Nat) (k2 : Nat) : Bool := check (tab (hypOf 0 [4] k0 ++ hypOf 1 [8] k1)) 1000 9 [.opq 0, .opq 1, .im k2 4]
noncomputable def row (k0 : Nat) : Bool := allK (fun k1 => allK (fun k2 => one k0 k1 k2) 4) 8
end Go.Proofs.Ytphbopmilegojaa.law
