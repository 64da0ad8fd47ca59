/- 'SubWidth', plainly. -/
import Derived.Test.YtajifckdgaoncaaEvd9
namespace Eva
open Go Go.RowKit
set_option linter.unusedVariables false
set_option maxRecDepth 100000
def tb0 : Tb := ⟨[⟨2, [], [], []⟩], [], 0, []⟩
end Eva
