/- Trees made of raw ones, without names, hold no name. -/
import Derived.Test.YtajifckdgaoncaaEveF
namespace Eva
open Go Go.RowKit
set_option linter.unusedVariables false
end Eva
