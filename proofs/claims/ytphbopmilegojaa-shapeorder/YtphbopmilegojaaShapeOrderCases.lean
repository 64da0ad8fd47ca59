/- The cases of 'ShapeOrder', each to be checked. No condition. -/
import Derived.Test.YtphbopmilegojaaShapeOrderCode
namespace Go.Proofs.Ytphbopmilegojaa.law
open Eva Go.RowKit
noncomputable def one (k0 : Nat) (b1 : Bool) : Bool := check (tab (hypOf 0 [6] k0)) 1000 10 [.opq 0, .bool b1]
noncomputable def row (k0 : Nat) : Bool := andK ((fun b1 => one k0 b1) true) ((fun b1 => one k0 b1) false)
end Go.Proofs.Ytphbopmilegojaa.law
