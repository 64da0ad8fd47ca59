/-
  NARROWER THAN 'FOR EVERY INPUT', by the rows' own cells (each row's printed sentence says how): SubKinds: loops.
  DERIVED. THE GIVEN ROWS OF THIS SEAT. 7 by the template 'for every input the law returns true; each argument reads behind the call as it read before'; 0 by the template 'total and deterministic' (their statements: YtjblgoefcobkgaaTotals.lean).
  GIVEN WITH THE SEED: the statements are not yours to turn. If you find one false, say at which input.
  Laid BY PROGRAM, IN A SANDBOX (cutbox-rows.mjs): the forced cells as the released guide's own fill.sh prints them over the translation 0a8631715bda806a… (all of the seat's roots in one cut). By AI agents, Wed Nov 11 2026. No macro, syntax, notation, axiom, sorry.
-/
import Derived.Test.YtjblgoefcobkgaaChecked
import GoSem.Claim
import GoSem.ClaimJoined
import GoSem.ClaimMapViews
import Derived.JoinedTies
import Derived.KernelRfl
namespace Go.Proofs.Ytjblgoefcobkgaa
/- THE CELL 'sum', in the pinned program and in every row, IS THE sha256 OF THE DUMP (.gsa) THAT YtjblgoefcobkgaaProg.lean LOADS. Nothing in Lean hashes anything: it is a label: what it is worth is what the hold of that sum in a sandbox is worth. -/
noncomputable def Try.pinned : Pinned := { name := "ytjblgoefcobkgaa", sum := "0a8631715bda806a620859c6a24ea2dea24f37f58bb060a0a366170b0c6bc45a", checked := Try.checked }
namespace Rows
def none {H : Type} : Left H := { results := [], args := [] }

/-- 'spruelaw6.SubNames': WHATEVER THE INPUT: true; the input reads as it did. -/
def subNamesSpec : ChangeSpec := { name := "subNames", fn := fun _ => fun
  | [d1, d2, d3] => { results := [.lit (.bool true)], args := [d1, d2, d3] }
  | _ => none }
def subNamesRow : OpenClaim := { program := "ytjblgoefcobkgaa", sum := "0a8631715bda806a620859c6a24ea2dea24f37f58bb060a0a366170b0c6bc45a", func := "sprue/spruelaw6.SubNames", spec := "subNames", inPlace := ["internal/bytealg.IndexByteString", "internal/bytealg.IndexString"], unfollowed := true, recurses := true, named := ["internal/bytealg.MaxLen"], plainKeys := false, apart := false }
def SubNamesSaid : Prop := subNamesRow.holds Try.pinned (OpenSpec.ofChange subNamesSpec)

/-- ITS FALSE NEIGHBOUR: 'it returns false'. Refute it at one input. -/
def subNamesWrong : ChangeSpec := { name := "subNames", fn := fun _ => fun
  | [d1, d2, d3] => { results := [.lit (.bool false)], args := [d1, d2, d3] }
  | _ => none }
def SubNamesWrongFalsely : Prop := subNamesRow.holds Try.pinned (OpenSpec.ofChange subNamesWrong)

/-- 'spruelaw6.SubCounts': WHATEVER THE INPUT: true; the input reads as it did. -/
def subCountsSpec : ChangeSpec := { name := "subCounts", fn := fun _ => fun
  | [d1, d2, d3] => { results := [.lit (.bool true)], args := [d1, d2, d3] }
  | _ => none }
def subCountsRow : OpenClaim := { program := "ytjblgoefcobkgaa", sum := "0a8631715bda806a620859c6a24ea2dea24f37f58bb060a0a366170b0c6bc45a", func := "sprue/spruelaw6.SubCounts", spec := "subCounts", inPlace := ["internal/bytealg.IndexByteString", "internal/bytealg.IndexString"], unfollowed := true, recurses := true, named := ["internal/bytealg.MaxLen"], plainKeys := false, apart := false }
def SubCountsSaid : Prop := subCountsRow.holds Try.pinned (OpenSpec.ofChange subCountsSpec)

/-- ITS FALSE NEIGHBOUR: 'it returns false'. Refute it at one input. -/
def subCountsWrong : ChangeSpec := { name := "subCounts", fn := fun _ => fun
  | [d1, d2, d3] => { results := [.lit (.bool false)], args := [d1, d2, d3] }
  | _ => none }
def SubCountsWrongFalsely : Prop := subCountsRow.holds Try.pinned (OpenSpec.ofChange subCountsWrong)

/-- 'spruelaw6.SubRings': WHATEVER THE INPUT: true; the input reads as it did. -/
def subRingsSpec : ChangeSpec := { name := "subRings", fn := fun _ => fun
  | [d1, d2] => { results := [.lit (.bool true)], args := [d1, d2] }
  | _ => none }
def subRingsRow : OpenClaim := { program := "ytjblgoefcobkgaa", sum := "0a8631715bda806a620859c6a24ea2dea24f37f58bb060a0a366170b0c6bc45a", func := "sprue/spruelaw6.SubRings", spec := "subRings", inPlace := ["internal/bytealg.IndexByteString", "internal/bytealg.IndexString"], unfollowed := true, recurses := true, named := ["internal/bytealg.MaxLen"], plainKeys := false, apart := false }
def SubRingsSaid : Prop := subRingsRow.holds Try.pinned (OpenSpec.ofChange subRingsSpec)

/-- ITS FALSE NEIGHBOUR: 'it returns false'. Refute it at one input. -/
def subRingsWrong : ChangeSpec := { name := "subRings", fn := fun _ => fun
  | [d1, d2] => { results := [.lit (.bool false)], args := [d1, d2] }
  | _ => none }
def SubRingsWrongFalsely : Prop := subRingsRow.holds Try.pinned (OpenSpec.ofChange subRingsWrong)

/-- 'spruelaw6.SubUnions': WHATEVER THE INPUT: true; the input reads as it did. -/
def subUnionsSpec : ChangeSpec := { name := "subUnions", fn := fun _ => fun
  | [d1, d2, d3] => { results := [.lit (.bool true)], args := [d1, d2, d3] }
  | _ => none }
def subUnionsRow : OpenClaim := { program := "ytjblgoefcobkgaa", sum := "0a8631715bda806a620859c6a24ea2dea24f37f58bb060a0a366170b0c6bc45a", func := "sprue/spruelaw6.SubUnions", spec := "subUnions", inPlace := ["internal/bytealg.IndexByteString", "internal/bytealg.IndexString"], unfollowed := true, recurses := true, named := ["internal/bytealg.MaxLen"], plainKeys := false, apart := false }
def SubUnionsSaid : Prop := subUnionsRow.holds Try.pinned (OpenSpec.ofChange subUnionsSpec)

/-- ITS FALSE NEIGHBOUR: 'it returns false'. Refute it at one input. -/
def subUnionsWrong : ChangeSpec := { name := "subUnions", fn := fun _ => fun
  | [d1, d2, d3] => { results := [.lit (.bool false)], args := [d1, d2, d3] }
  | _ => none }
def SubUnionsWrongFalsely : Prop := subUnionsRow.holds Try.pinned (OpenSpec.ofChange subUnionsWrong)

/-- 'spruelaw6.SubWidth': WHATEVER THE INPUT: true; the input reads as it did. -/
def subWidthSpec : ChangeSpec := { name := "subWidth", fn := fun _ => fun
  | [d1, d2, d3] => { results := [.lit (.bool true)], args := [d1, d2, d3] }
  | _ => none }
def subWidthRow : OpenClaim := { program := "ytjblgoefcobkgaa", sum := "0a8631715bda806a620859c6a24ea2dea24f37f58bb060a0a366170b0c6bc45a", func := "sprue/spruelaw6.SubWidth", spec := "subWidth", inPlace := ["internal/bytealg.IndexByteString", "internal/bytealg.IndexString"], unfollowed := true, recurses := true, named := ["internal/bytealg.MaxLen"], plainKeys := false, apart := false }
def SubWidthSaid : Prop := subWidthRow.holds Try.pinned (OpenSpec.ofChange subWidthSpec)

/-- ITS FALSE NEIGHBOUR: 'it returns false'. Refute it at one input. -/
def subWidthWrong : ChangeSpec := { name := "subWidth", fn := fun _ => fun
  | [d1, d2, d3] => { results := [.lit (.bool false)], args := [d1, d2, d3] }
  | _ => none }
def SubWidthWrongFalsely : Prop := subWidthRow.holds Try.pinned (OpenSpec.ofChange subWidthWrong)

/-- 'spruelaw6.SubKinds': WHATEVER THE INPUT: true; the input reads as it did. -/
def subKindsSpec : ChangeSpec := { name := "subKinds", fn := fun _ => fun
  | [d1, d2] => { results := [.lit (.bool true)], args := [d1, d2] }
  | _ => none }
def subKindsRow : OpenClaim := { program := "ytjblgoefcobkgaa", sum := "0a8631715bda806a620859c6a24ea2dea24f37f58bb060a0a366170b0c6bc45a", func := "sprue/spruelaw6.SubKinds", spec := "subKinds", inPlace := ["internal/bytealg.IndexByteString", "internal/bytealg.IndexString"], unfollowed := true, recurses := true, named := ["internal/bytealg.MaxLen"], loops := true, plainKeys := false, apart := false }
def SubKindsSaid : Prop := subKindsRow.holds Try.pinned (OpenSpec.ofChange subKindsSpec)

/-- ITS FALSE NEIGHBOUR: 'it returns false'. Refute it at one input. -/
def subKindsWrong : ChangeSpec := { name := "subKinds", fn := fun _ => fun
  | [d1, d2] => { results := [.lit (.bool false)], args := [d1, d2] }
  | _ => none }
def SubKindsWrongFalsely : Prop := subKindsRow.holds Try.pinned (OpenSpec.ofChange subKindsWrong)

/-- 'spruelaw6.SubOpts': WHATEVER THE INPUT: true; the input reads as it did. -/
def subOptsSpec : ChangeSpec := { name := "subOpts", fn := fun _ => fun
  | [d1, d2] => { results := [.lit (.bool true)], args := [d1, d2] }
  | _ => none }
def subOptsRow : OpenClaim := { program := "ytjblgoefcobkgaa", sum := "0a8631715bda806a620859c6a24ea2dea24f37f58bb060a0a366170b0c6bc45a", func := "sprue/spruelaw6.SubOpts", spec := "subOpts", inPlace := ["internal/bytealg.IndexByteString", "internal/bytealg.IndexString"], unfollowed := true, recurses := true, named := ["internal/bytealg.MaxLen"], plainKeys := false, apart := false }
def SubOptsSaid : Prop := subOptsRow.holds Try.pinned (OpenSpec.ofChange subOptsSpec)

/-- ITS FALSE NEIGHBOUR: 'it returns false'. Refute it at one input. -/
def subOptsWrong : ChangeSpec := { name := "subOpts", fn := fun _ => fun
  | [d1, d2] => { results := [.lit (.bool false)], args := [d1, d2] }
  | _ => none }
def SubOptsWrongFalsely : Prop := subOptsRow.holds Try.pinned (OpenSpec.ofChange subOptsWrong)

/- THE SECOND FORM. 'bulk': how many values and letters a reading holds, each counted each time it is reached (what is shared counts as often as it is met; a slice's spare places count too). A statement '..UptoSaid' is the law's where the arguments, and the package variables that the reading takes, are together of bulk at most 1048576: NARROWER than '..Said'. Prove '..Said' where nothing that the law and all that it calls make is longer than what came in: it says more and counts as full. Else prove '..UptoSaid'. A law counts once. -/
mutual
def uptoBulk {H : Type} : DataW H → Nat
  | .lit (.string bytes) => bytes.length + 1
  | .lit _ => 1
  | .nil => 1
  | .ptr d => uptoBulk d + 1
  | .slice elems spare => uptoBulkAll elems + uptoBulkAll spare + 1
  | .agg parts => uptoBulkAll parts + 1
  | .iface _ d => uptoBulk d + 1
  | .map entries => uptoBulkEntries entries + 1
  | .held _ => 1
def uptoBulkAll {H : Type} : List (DataW H) → Nat
  | [] => 0
  | d :: r => uptoBulk d + uptoBulkAll r
def uptoBulkEntries {H : Type} : List (Lit × DataW H) → Nat
  | [] => 0
  | x :: r => uptoBulkEntry x + uptoBulkEntries r
def uptoBulkEntry {H : Type} : Lit × DataW H → Nat
  | (.string bytes, d) => bytes.length + uptoBulk d + 1
  | (_, d) => uptoBulk d + 1
 end
def uptoSmall : (H : Type) → List (DataW H) → Bool := fun _ ds => decide (uptoBulkAll ds ≤ 1048576)
def OpenSpec.upto (s : _root_.Go.ChangeSpec) : _root_.Go.OpenSpec := { _root_.Go.OpenSpec.ofChange s with cond := some uptoSmall }

/-- 'spruelaw6.SubNames', WHERE WHAT IT READS IS OF BULK AT MOST 1048576: true; the input reads as it did. -/
def subNamesUptoRow : OpenClaim := { program := "ytjblgoefcobkgaa", sum := "0a8631715bda806a620859c6a24ea2dea24f37f58bb060a0a366170b0c6bc45a", func := "sprue/spruelaw6.SubNames", spec := "subNames", inPlace := ["internal/bytealg.IndexByteString", "internal/bytealg.IndexString"], unfollowed := true, recurses := true, named := ["internal/bytealg.MaxLen"], plainKeys := false, apart := false, narrowed := true }
def SubNamesUptoSaid : Prop := subNamesUptoRow.holds Try.pinned (OpenSpec.upto subNamesSpec)

/-- 'spruelaw6.SubCounts', WHERE WHAT IT READS IS OF BULK AT MOST 1048576: true; the input reads as it did. -/
def subCountsUptoRow : OpenClaim := { program := "ytjblgoefcobkgaa", sum := "0a8631715bda806a620859c6a24ea2dea24f37f58bb060a0a366170b0c6bc45a", func := "sprue/spruelaw6.SubCounts", spec := "subCounts", inPlace := ["internal/bytealg.IndexByteString", "internal/bytealg.IndexString"], unfollowed := true, recurses := true, named := ["internal/bytealg.MaxLen"], plainKeys := false, apart := false, narrowed := true }
def SubCountsUptoSaid : Prop := subCountsUptoRow.holds Try.pinned (OpenSpec.upto subCountsSpec)

/-- 'spruelaw6.SubRings', WHERE WHAT IT READS IS OF BULK AT MOST 1048576: true; the input reads as it did. -/
def subRingsUptoRow : OpenClaim := { program := "ytjblgoefcobkgaa", sum := "0a8631715bda806a620859c6a24ea2dea24f37f58bb060a0a366170b0c6bc45a", func := "sprue/spruelaw6.SubRings", spec := "subRings", inPlace := ["internal/bytealg.IndexByteString", "internal/bytealg.IndexString"], unfollowed := true, recurses := true, named := ["internal/bytealg.MaxLen"], plainKeys := false, apart := false, narrowed := true }
def SubRingsUptoSaid : Prop := subRingsUptoRow.holds Try.pinned (OpenSpec.upto subRingsSpec)

/-- 'spruelaw6.SubUnions', WHERE WHAT IT READS IS OF BULK AT MOST 1048576: true; the input reads as it did. -/
def subUnionsUptoRow : OpenClaim := { program := "ytjblgoefcobkgaa", sum := "0a8631715bda806a620859c6a24ea2dea24f37f58bb060a0a366170b0c6bc45a", func := "sprue/spruelaw6.SubUnions", spec := "subUnions", inPlace := ["internal/bytealg.IndexByteString", "internal/bytealg.IndexString"], unfollowed := true, recurses := true, named := ["internal/bytealg.MaxLen"], plainKeys := false, apart := false, narrowed := true }
def SubUnionsUptoSaid : Prop := subUnionsUptoRow.holds Try.pinned (OpenSpec.upto subUnionsSpec)

/-- 'spruelaw6.SubWidth', WHERE WHAT IT READS IS OF BULK AT MOST 1048576: true; the input reads as it did. -/
def subWidthUptoRow : OpenClaim := { program := "ytjblgoefcobkgaa", sum := "0a8631715bda806a620859c6a24ea2dea24f37f58bb060a0a366170b0c6bc45a", func := "sprue/spruelaw6.SubWidth", spec := "subWidth", inPlace := ["internal/bytealg.IndexByteString", "internal/bytealg.IndexString"], unfollowed := true, recurses := true, named := ["internal/bytealg.MaxLen"], plainKeys := false, apart := false, narrowed := true }
def SubWidthUptoSaid : Prop := subWidthUptoRow.holds Try.pinned (OpenSpec.upto subWidthSpec)

/-- 'spruelaw6.SubKinds', WHERE WHAT IT READS IS OF BULK AT MOST 1048576: true; the input reads as it did. -/
def subKindsUptoRow : OpenClaim := { program := "ytjblgoefcobkgaa", sum := "0a8631715bda806a620859c6a24ea2dea24f37f58bb060a0a366170b0c6bc45a", func := "sprue/spruelaw6.SubKinds", spec := "subKinds", inPlace := ["internal/bytealg.IndexByteString", "internal/bytealg.IndexString"], unfollowed := true, recurses := true, named := ["internal/bytealg.MaxLen"], loops := true, plainKeys := false, apart := false, narrowed := true }
def SubKindsUptoSaid : Prop := subKindsUptoRow.holds Try.pinned (OpenSpec.upto subKindsSpec)

/-- 'spruelaw6.SubOpts', WHERE WHAT IT READS IS OF BULK AT MOST 1048576: true; the input reads as it did. -/
def subOptsUptoRow : OpenClaim := { program := "ytjblgoefcobkgaa", sum := "0a8631715bda806a620859c6a24ea2dea24f37f58bb060a0a366170b0c6bc45a", func := "sprue/spruelaw6.SubOpts", spec := "subOpts", inPlace := ["internal/bytealg.IndexByteString", "internal/bytealg.IndexString"], unfollowed := true, recurses := true, named := ["internal/bytealg.MaxLen"], plainKeys := false, apart := false, narrowed := true }
def SubOptsUptoSaid : Prop := subOptsUptoRow.holds Try.pinned (OpenSpec.upto subOptsSpec)

end Rows
end Go.Proofs.Ytjblgoefcobkgaa
