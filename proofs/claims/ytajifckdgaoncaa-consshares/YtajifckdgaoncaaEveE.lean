/- Unlike kinds; Opts. -/
import Derived.Test.YtajifckdgaoncaaEveD
namespace Eva
open Go Go.RowKit
set_option linter.unusedVariables false
theorem open_here {tb : Tb} (hT : Acy tb) {i : Nat} {n : Nd} (h : tb.nodes[i]? = some n) : openS tb (tb.nodes.length + 1) i = (i, true) := by
  have l := (List.getElem?_eq_some_iff.1 h)
  exact openS_self l.1 (by rw [l.2]; exact (hT i n h).1)
theorem plan_here {tb : Tb} (hT : Acy tb) {a b : Nat} {x y : Nd} (ha : tb.nodes[a]? = some x) (hb : tb.nodes[b]? = some y) : plan tb a b = plan2 a x y := by
  unfold plan
  rw [open_here hT ha, open_here hT hb]
  simp only [and_self, if_true, List.getD_eq_getElem?_getD, ha, hb, Option.getD_some]
end Eva
