/-
  No cell of these rows narrows 'for every input' (looked for: loops, veiled, ifaces, maps, wideKeys, modest, calm, conditions, laid).
  DERIVED. THE GIVEN ROWS OF THIS SEAT. 4 by the template 'for every input the law returns true; each argument reads behind the call as it read before'; 0 by the template 'total and deterministic' (their statements: YthnmjlcdepbiiaaGreatTotals.lean).
  GIVEN WITH THE SEED: the statements are not yours to turn. If you find one false, say at which input.
  Laid BY PROGRAM, IN A SANDBOX (cutbox-rows.mjs): the forced cells as the released guide's own fill.sh prints them over the translation 2b91ca5e50a0a62c… (all of the seat's roots in one cut). By AI agents, Wed Nov 11 2026. No macro, syntax, notation, axiom, sorry.
-/
import Derived.Test.YthnmjlcdepbiiaaGreatChecked
import GoSem.Claim
import GoSem.ClaimJoined
import GoSem.ClaimMapViews
import Derived.JoinedTies
import Derived.KernelRfl
namespace Go.Proofs.YthnmjlcdepbiiaaGreat
/- THE CELL 'sum', in the pinned program and in every row, IS THE sha256 OF THE DUMP (.gsa) THAT YthnmjlcdepbiiaaGreatProg.lean LOADS. Nothing in Lean hashes anything: it is a label: what it is worth is what the hold of that sum in a sandbox is worth. -/
noncomputable def Tryz.pinned : Pinned := { name := "ythnmjlcdepbiiaagreat", sum := "2b91ca5e50a0a62cabc3e13d49ed37ca609e74b64ee8fa503862d889bf836e6d", checked := Tryz.checked }
namespace Rows
def none {H : Type} : Left H := { results := [], args := [] }

/-- 'spruelaw10.FlowRows': WHATEVER THE INPUT: true; the input reads as it did. -/
def flowRowsSpec : ChangeSpec := { name := "flowRows", fn := fun _ => fun
  | [d] => { results := [.lit (.bool true)], args := [d] }
  | _ => none }
def flowRowsRow : OpenClaim := { program := "ythnmjlcdepbiiaagreat", sum := "2b91ca5e50a0a62cabc3e13d49ed37ca609e74b64ee8fa503862d889bf836e6d", func := "sprue/spruelaw10.FlowRows", spec := "flowRows", inPlace := ["internal/bytealg.IndexByteString", "internal/bytealg.IndexString"], unfollowed := true, recurses := true, named := ["internal/bytealg.MaxLen"], plainKeys := false, apart := false }
def FlowRowsSaid : Prop := flowRowsRow.holds Tryz.pinned (OpenSpec.ofChange flowRowsSpec)

/-- ITS FALSE NEIGHBOUR: 'it returns false'. Refute it at one input. -/
def flowRowsWrong : ChangeSpec := { name := "flowRows", fn := fun _ => fun
  | [d] => { results := [.lit (.bool false)], args := [d] }
  | _ => none }
def FlowRowsWrongFalsely : Prop := flowRowsRow.holds Tryz.pinned (OpenSpec.ofChange flowRowsWrong)

/-- 'spruelaw10.FlowFirst': WHATEVER THE INPUT: true; the input reads as it did. -/
def flowFirstSpec : ChangeSpec := { name := "flowFirst", fn := fun _ => fun
  | [d1, d2, d3] => { results := [.lit (.bool true)], args := [d1, d2, d3] }
  | _ => none }
def flowFirstRow : OpenClaim := { program := "ythnmjlcdepbiiaagreat", sum := "2b91ca5e50a0a62cabc3e13d49ed37ca609e74b64ee8fa503862d889bf836e6d", func := "sprue/spruelaw10.FlowFirst", spec := "flowFirst", inPlace := ["internal/bytealg.IndexByteString", "internal/bytealg.IndexString"], unfollowed := true, recurses := true, named := ["internal/bytealg.MaxLen"], plainKeys := false, apart := false }
def FlowFirstSaid : Prop := flowFirstRow.holds Tryz.pinned (OpenSpec.ofChange flowFirstSpec)

/-- ITS FALSE NEIGHBOUR: 'it returns false'. Refute it at one input. -/
def flowFirstWrong : ChangeSpec := { name := "flowFirst", fn := fun _ => fun
  | [d1, d2, d3] => { results := [.lit (.bool false)], args := [d1, d2, d3] }
  | _ => none }
def FlowFirstWrongFalsely : Prop := flowFirstRow.holds Tryz.pinned (OpenSpec.ofChange flowFirstWrong)

/-- 'spruelaw10.FlowScopes': WHATEVER THE INPUT: true; the input reads as it did. -/
def flowScopesSpec : ChangeSpec := { name := "flowScopes", fn := fun _ => fun
  | [d1, d2] => { results := [.lit (.bool true)], args := [d1, d2] }
  | _ => none }
def flowScopesRow : OpenClaim := { program := "ythnmjlcdepbiiaagreat", sum := "2b91ca5e50a0a62cabc3e13d49ed37ca609e74b64ee8fa503862d889bf836e6d", func := "sprue/spruelaw10.FlowScopes", spec := "flowScopes", inPlace := ["internal/bytealg.IndexByteString", "internal/bytealg.IndexString"], unfollowed := true, recurses := true, named := ["internal/bytealg.MaxLen"], plainKeys := false, apart := false }
def FlowScopesSaid : Prop := flowScopesRow.holds Tryz.pinned (OpenSpec.ofChange flowScopesSpec)

/-- ITS FALSE NEIGHBOUR: 'it returns false'. Refute it at one input. -/
def flowScopesWrong : ChangeSpec := { name := "flowScopes", fn := fun _ => fun
  | [d1, d2] => { results := [.lit (.bool false)], args := [d1, d2] }
  | _ => none }
def FlowScopesWrongFalsely : Prop := flowScopesRow.holds Tryz.pinned (OpenSpec.ofChange flowScopesWrong)

/-- 'spruelaw10.FlowNarrows': WHATEVER THE INPUT: true; the input reads as it did. -/
def flowNarrowsSpec : ChangeSpec := { name := "flowNarrows", fn := fun _ => fun
  | [d] => { results := [.lit (.bool true)], args := [d] }
  | _ => none }
def flowNarrowsRow : OpenClaim := { program := "ythnmjlcdepbiiaagreat", sum := "2b91ca5e50a0a62cabc3e13d49ed37ca609e74b64ee8fa503862d889bf836e6d", func := "sprue/spruelaw10.FlowNarrows", spec := "flowNarrows", inPlace := ["internal/bytealg.IndexByteString", "internal/bytealg.IndexString"], unfollowed := true, recurses := true, named := ["internal/bytealg.MaxLen"], plainKeys := false, apart := false }
def FlowNarrowsSaid : Prop := flowNarrowsRow.holds Tryz.pinned (OpenSpec.ofChange flowNarrowsSpec)

/-- ITS FALSE NEIGHBOUR: 'it returns false'. Refute it at one input. -/
def flowNarrowsWrong : ChangeSpec := { name := "flowNarrows", fn := fun _ => fun
  | [d] => { results := [.lit (.bool false)], args := [d] }
  | _ => none }
def FlowNarrowsWrongFalsely : Prop := flowNarrowsRow.holds Tryz.pinned (OpenSpec.ofChange flowNarrowsWrong)

/- THE SECOND FORM. 'bulk': how many values and letters a reading holds, each counted each time it is reached (what is shared counts as often as it is met; a slice's spare places count too). A statement '..UptoSaid' is the law's where the arguments, and the package variables that the reading takes, are together of bulk at most 1048576: NARROWER than '..Said'. Prove '..Said' where nothing that the law and all that it calls make is longer than what came in: it says more and counts as full. Else prove '..UptoSaid'. A law counts once. -/
mutual
def uptoBulk {H : Type} : DataW H → Nat
  | .lit (.string bytes) => bytes.length + 1
  | .lit _ => 1
  | .nil => 1
  | .ptr d => uptoBulk d + 1
  | .slice elems spare => uptoBulkAll elems + uptoBulkAll spare + 1
  | .agg parts => uptoBulkAll parts + 1
  | .iface _ d => uptoBulk d + 1
  | .map entries => uptoBulkEntries entries + 1
  | .held _ => 1
def uptoBulkAll {H : Type} : List (DataW H) → Nat
  | [] => 0
  | d :: r => uptoBulk d + uptoBulkAll r
def uptoBulkEntries {H : Type} : List (Lit × DataW H) → Nat
  | [] => 0
  | x :: r => uptoBulkEntry x + uptoBulkEntries r
def uptoBulkEntry {H : Type} : Lit × DataW H → Nat
  | (.string bytes, d) => bytes.length + uptoBulk d + 1
  | (_, d) => uptoBulk d + 1
 end
def uptoSmall : (H : Type) → List (DataW H) → Bool := fun _ ds => decide (uptoBulkAll ds ≤ 1048576)
def OpenSpec.upto (s : _root_.Go.ChangeSpec) : _root_.Go.OpenSpec := { _root_.Go.OpenSpec.ofChange s with cond := some uptoSmall }

/-- 'spruelaw10.FlowRows', WHERE WHAT IT READS IS OF BULK AT MOST 1048576: true; the input reads as it did. -/
def flowRowsUptoRow : OpenClaim := { program := "ythnmjlcdepbiiaagreat", sum := "2b91ca5e50a0a62cabc3e13d49ed37ca609e74b64ee8fa503862d889bf836e6d", func := "sprue/spruelaw10.FlowRows", spec := "flowRows", inPlace := ["internal/bytealg.IndexByteString", "internal/bytealg.IndexString"], unfollowed := true, recurses := true, named := ["internal/bytealg.MaxLen"], plainKeys := false, apart := false, narrowed := true }
def FlowRowsUptoSaid : Prop := flowRowsUptoRow.holds Tryz.pinned (OpenSpec.upto flowRowsSpec)

/-- 'spruelaw10.FlowFirst', WHERE WHAT IT READS IS OF BULK AT MOST 1048576: true; the input reads as it did. -/
def flowFirstUptoRow : OpenClaim := { program := "ythnmjlcdepbiiaagreat", sum := "2b91ca5e50a0a62cabc3e13d49ed37ca609e74b64ee8fa503862d889bf836e6d", func := "sprue/spruelaw10.FlowFirst", spec := "flowFirst", inPlace := ["internal/bytealg.IndexByteString", "internal/bytealg.IndexString"], unfollowed := true, recurses := true, named := ["internal/bytealg.MaxLen"], plainKeys := false, apart := false, narrowed := true }
def FlowFirstUptoSaid : Prop := flowFirstUptoRow.holds Tryz.pinned (OpenSpec.upto flowFirstSpec)

/-- 'spruelaw10.FlowScopes', WHERE WHAT IT READS IS OF BULK AT MOST 1048576: true; the input reads as it did. -/
def flowScopesUptoRow : OpenClaim := { program := "ythnmjlcdepbiiaagreat", sum := "2b91ca5e50a0a62cabc3e13d49ed37ca609e74b64ee8fa503862d889bf836e6d", func := "sprue/spruelaw10.FlowScopes", spec := "flowScopes", inPlace := ["internal/bytealg.IndexByteString", "internal/bytealg.IndexString"], unfollowed := true, recurses := true, named := ["internal/bytealg.MaxLen"], plainKeys := false, apart := false, narrowed := true }
def FlowScopesUptoSaid : Prop := flowScopesUptoRow.holds Tryz.pinned (OpenSpec.upto flowScopesSpec)

/-- 'spruelaw10.FlowNarrows', WHERE WHAT IT READS IS OF BULK AT MOST 1048576: true; the input reads as it did. -/
def flowNarrowsUptoRow : OpenClaim := { program := "ythnmjlcdepbiiaagreat", sum := "2b91ca5e50a0a62cabc3e13d49ed37ca609e74b64ee8fa503862d889bf836e6d", func := "sprue/spruelaw10.FlowNarrows", spec := "flowNarrows", inPlace := ["internal/bytealg.IndexByteString", "internal/bytealg.IndexString"], unfollowed := true, recurses := true, named := ["internal/bytealg.MaxLen"], plainKeys := false, apart := false, narrowed := true }
def FlowNarrowsUptoSaid : Prop := flowNarrowsUptoRow.holds Tryz.pinned (OpenSpec.upto flowNarrowsSpec)

end Rows
end Go.Proofs.YthnmjlcdepbiiaaGreat
