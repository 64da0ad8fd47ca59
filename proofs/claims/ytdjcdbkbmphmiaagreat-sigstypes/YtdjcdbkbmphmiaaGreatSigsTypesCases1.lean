/- Some cases of 'SigsTypes', checked. No condition. -/
import Derived.Test.YtdjcdbkbmphmiaaGreatSigsTypesCases
namespace Go.Proofs.YtdjcdbkbmphmiaaGreat.law
open Eva Go.RowKit
set_option linter.unusedVariables false
set_option maxHeartbeats 20000000 in
theorem rows0 : fromN row 0 1 true = true := by kernel_rfl
set_option maxHeartbeats 20000000 in
theorem rows1 : fromN row 1 1 true = true := by kernel_rfl
set_option maxHeartbeats 20000000 in
theorem rows2 : fromN row 2 1 true = true := by kernel_rfl
set_option maxHeartbeats 20000000 in
theorem rows3 : fromN row 3 1 true = true := by kernel_rfl
end Go.Proofs.YtdjcdbkbmphmiaaGreat.law
