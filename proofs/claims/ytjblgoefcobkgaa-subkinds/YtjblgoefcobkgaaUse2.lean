/- A table asked: which types fit; Opts. -/
import Derived.Test.YtjblgoefcobkgaaUse
import Derived.Test.YtjblgoefcobkgaaFits3
import Derived.Test.YtjblgoefcobkgaaOpt
import Derived.Test.YtjblgoefcobkgaaEveI
namespace Go.Proofs.Ytjblgoefcobkgaa
open Eva Go.RowKit
set_option maxRecDepth 100000
set_option linter.unusedSimpArgs false
set_option linter.unusedVariables false
theorem optX {W : Pt → Prop} {st : St} {rt : Pt} {tb : Tb} (id : Nat) (hT : TabX st W rt tb) :
    Does (tabT tabD) n_cons_Table_Opt [.ptr rt 0, .int .i64 id] st fun v S => ∃ W', TabX S W' rt (layS tb ⟨6, [], [], [id]⟩).1 ∧ Kept st W S W' ∧ v = .tup [.int .i64 ((layS tb ⟨6, [], [], [id]⟩).2.1 : Nat), .int .i64 (layS tb ⟨6, [], [], [id]⟩).2.2] := by
  obtain ⟨hw, F, hT⟩ := hT
  refine (optC id hw hT).mono ?_
  rintro v S ⟨c, ⟨W', F', b1, b2, b3, T'⟩, rfl⟩
  exact ⟨W', ⟨c.wf, F', T'⟩, Kept.ch c b2, rfl⟩
theorem leX {W : Pt → Prop} {st : St} {rt : Pt} {tb : Tb} {a b : Nat} {is : Bool} (hT : TabX st W rt tb) (ha : a < tb.nodes.length) (hb : b < tb.nodes.length) (hr : ∃ f V, fitsS tb f [] a b = some (is, V)) :
    Does (tabT tabD) n_sub_Le [.ptr rt 0, .int .i64 a, .int .i64 b] st fun v S => TabX S W rt tb ∧ Kept st W S W ∧ ∃ n, v = .tup [.bool is, .int .i64 n] := by
  obtain ⟨f, V, hr⟩ := hr
  have hT0 := hT
  obtain ⟨hw, F, hT⟩ := hT
  refine (leC hw hT ha hb hr).mono ?_
  rintro v S ⟨g, rfl⟩
  exact ⟨hT0.gr g, Kept.gr g W, _, rfl⟩
end Go.Proofs.Ytjblgoefcobkgaa
