/- Some cases of 'SigsTypes', checked. No condition. -/
import Derived.Test.YtdjcdbkbmphmiaaGreatSigsTypesCases
namespace Go.Proofs.YtdjcdbkbmphmiaaGreat.law
open Eva Go.RowKit
set_option linter.unusedVariables false
set_option maxHeartbeats 20000000 in
theorem rows4 : fromN row 4 1 true = true := by kernel_rfl
set_option maxHeartbeats 20000000 in
theorem rows5 : fromN row 5 1 true = true := by kernel_rfl
set_option maxHeartbeats 20000000 in
theorem rows6 : fromN row 6 1 true = true := by kernel_rfl
set_option maxHeartbeats 20000000 in
theorem rows7 : fromN row 7 1 true = true := by kernel_rfl
end Go.Proofs.YtdjcdbkbmphmiaaGreat.law
