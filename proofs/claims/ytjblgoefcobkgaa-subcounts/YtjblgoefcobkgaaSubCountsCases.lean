/- The cases of 'SubCounts', each to be checked. No condition. -/
import Derived.Test.YtjblgoefcobkgaaSubCountsCode
namespace Go.Proofs.Ytjblgoefcobkgaa.law
open Eva Go.RowKit
noncomputable def one (k0 : Nat) (k1 : Nat) (k2 : Nat) : Bool := check (tab (hypOf 0 [8] k0 ++ hypOf 1 [k0 + 2] k1)) 1000 4 [.opq 0, .opq 1, .im k2 2]
noncomputable def row (k0 : Nat) : Bool := allK (fun k1 => allK (fun k2 => one k0 k1 k2) 2) (k0 + 2)
end Go.Proofs.Ytjblgoefcobkgaa.law
