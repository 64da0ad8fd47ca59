/- The cases of 'TextBounds', each to be checked. No condition. -/
import Derived.Test.YtfcdghdipkgpfaaTextBoundsCode
namespace Go.Proofs.Ytfcdghdipkgpfaa.law
open Eva Go.RowKit
noncomputable def one (k0 : Nat) (b1 : Bool) : Bool := check (tab (hypOf 0 [4] k0)) 1000 4 [.opq 0, .bool b1]
noncomputable def row (k0 : Nat) : Bool := andK ((fun b1 => one k0 b1) true) ((fun b1 => one k0 b1) false)
end Go.Proofs.Ytfcdghdipkgpfaa.law
