/- The cases of 'SubRings', each to be checked. No condition. -/
import Derived.Test.YtjblgoefcobkgaaSubRingsCode
namespace Go.Proofs.Ytjblgoefcobkgaa.law
open Eva Go.RowKit
noncomputable def one (k0 : Nat) (k1 : Nat) : Bool := check (tab (hypOf 0 [5] k0 ++ hypOf 1 [5] k1)) 1000 5 [.opq 0, .opq 1]
noncomputable def row (k0 : Nat) : Bool := allK (fun k1 => one k0 k1) 5
end Go.Proofs.Ytjblgoefcobkgaa.law
