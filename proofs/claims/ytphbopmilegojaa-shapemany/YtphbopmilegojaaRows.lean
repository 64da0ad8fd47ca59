/-
  NARROWER THAN 'FOR EVERY INPUT', by the rows' own cells (each row's printed sentence says how): ShapeChecks: loops · ShapeFinite: loops.
  DERIVED. THE GIVEN ROWS OF THIS SEAT. 9 by the template 'for every input the law returns true; each argument reads behind the call as it read before'; 0 by the template 'total and deterministic' (their statements: YtphbopmilegojaaTotals.lean).
  GIVEN WITH THE SEED: the statements are not yours to turn. If you find one false, say at which input.
  Laid BY PROGRAM, IN A SANDBOX (cutbox-rows.mjs): the forced cells as the released guide's own fill.sh prints them over the translation f1efa5bcbf9ddfb5… (all of the seat's roots in one cut). By AI agents, Wed Nov 11 2026. No macro, syntax, notation, axiom, sorry.
-/
import Derived.Test.YtphbopmilegojaaChecked
import GoSem.Claim
import GoSem.ClaimJoined
import GoSem.ClaimMapViews
import Derived.JoinedTies
import Derived.KernelRfl
namespace Go.Proofs.Ytphbopmilegojaa
/- THE CELL 'sum', in the pinned program and in every row, IS THE sha256 OF THE DUMP (.gsa) THAT YtphbopmilegojaaProg.lean LOADS. Nothing in Lean hashes anything: it is a label: what it is worth is what the hold of that sum in a sandbox is worth. -/
noncomputable def Try.pinned : Pinned := { name := "ytphbopmilegojaa", sum := "f1efa5bcbf9ddfb5572020020e34e9fdd0cbaf0244180ec64280cc281379406e", checked := Try.checked }
namespace Rows
def none {H : Type} : Left H := { results := [], args := [] }

/-- 'spruelaw4.ShapeChecks': WHATEVER THE INPUT: true; the input reads as it did. -/
def shapeChecksSpec : ChangeSpec := { name := "shapeChecks", fn := fun _ => fun
  | [d1, d2, d3, d4, d5, d6, d7, d8] => { results := [.lit (.bool true)], args := [d1, d2, d3, d4, d5, d6, d7, d8] }
  | _ => none }
def shapeChecksRow : OpenClaim := { program := "ytphbopmilegojaa", sum := "f1efa5bcbf9ddfb5572020020e34e9fdd0cbaf0244180ec64280cc281379406e", func := "sprue/spruelaw4.ShapeChecks", spec := "shapeChecks", inPlace := ["internal/bytealg.IndexByteString", "internal/bytealg.IndexString"], unfollowed := true, recurses := true, named := ["internal/bytealg.MaxLen"], loops := true, apart := false }
def ShapeChecksSaid : Prop := shapeChecksRow.holds Try.pinned (OpenSpec.ofChange shapeChecksSpec)

/-- ITS FALSE NEIGHBOUR: 'it returns false'. Refute it at one input. -/
def shapeChecksWrong : ChangeSpec := { name := "shapeChecks", fn := fun _ => fun
  | [d1, d2, d3, d4, d5, d6, d7, d8] => { results := [.lit (.bool false)], args := [d1, d2, d3, d4, d5, d6, d7, d8] }
  | _ => none }
def ShapeChecksWrongFalsely : Prop := shapeChecksRow.holds Try.pinned (OpenSpec.ofChange shapeChecksWrong)

/-- 'spruelaw4.ShapeFinite': WHATEVER THE INPUT: true; the input reads as it did. -/
def shapeFiniteSpec : ChangeSpec := { name := "shapeFinite", fn := fun _ => fun
  | [d1, d2, d3] => { results := [.lit (.bool true)], args := [d1, d2, d3] }
  | _ => none }
def shapeFiniteRow : OpenClaim := { program := "ytphbopmilegojaa", sum := "f1efa5bcbf9ddfb5572020020e34e9fdd0cbaf0244180ec64280cc281379406e", func := "sprue/spruelaw4.ShapeFinite", spec := "shapeFinite", inPlace := ["internal/bytealg.IndexByteString", "internal/bytealg.IndexString"], unfollowed := true, recurses := true, named := ["internal/bytealg.MaxLen"], loops := true, apart := false }
def ShapeFiniteSaid : Prop := shapeFiniteRow.holds Try.pinned (OpenSpec.ofChange shapeFiniteSpec)

/-- ITS FALSE NEIGHBOUR: 'it returns false'. Refute it at one input. -/
def shapeFiniteWrong : ChangeSpec := { name := "shapeFinite", fn := fun _ => fun
  | [d1, d2, d3] => { results := [.lit (.bool false)], args := [d1, d2, d3] }
  | _ => none }
def ShapeFiniteWrongFalsely : Prop := shapeFiniteRow.holds Try.pinned (OpenSpec.ofChange shapeFiniteWrong)

/-- 'spruelaw4.ShapeRings': WHATEVER THE INPUT: true; the input reads as it did. -/
def shapeRingsSpec : ChangeSpec := { name := "shapeRings", fn := fun _ => fun
  | [d1, d2, d3] => { results := [.lit (.bool true)], args := [d1, d2, d3] }
  | _ => none }
def shapeRingsRow : OpenClaim := { program := "ytphbopmilegojaa", sum := "f1efa5bcbf9ddfb5572020020e34e9fdd0cbaf0244180ec64280cc281379406e", func := "sprue/spruelaw4.ShapeRings", spec := "shapeRings", inPlace := ["internal/bytealg.IndexByteString", "internal/bytealg.IndexString"], unfollowed := true, recurses := true, named := ["internal/bytealg.MaxLen"], apart := false }
def ShapeRingsSaid : Prop := shapeRingsRow.holds Try.pinned (OpenSpec.ofChange shapeRingsSpec)

/-- ITS FALSE NEIGHBOUR: 'it returns false'. Refute it at one input. -/
def shapeRingsWrong : ChangeSpec := { name := "shapeRings", fn := fun _ => fun
  | [d1, d2, d3] => { results := [.lit (.bool false)], args := [d1, d2, d3] }
  | _ => none }
def ShapeRingsWrongFalsely : Prop := shapeRingsRow.holds Try.pinned (OpenSpec.ofChange shapeRingsWrong)

/-- 'spruelaw4.ShapeBounds': WHATEVER THE INPUT: true; the input reads as it did. -/
def shapeBoundsSpec : ChangeSpec := { name := "shapeBounds", fn := fun _ => fun
  | [d1, d2] => { results := [.lit (.bool true)], args := [d1, d2] }
  | _ => none }
def shapeBoundsRow : OpenClaim := { program := "ytphbopmilegojaa", sum := "f1efa5bcbf9ddfb5572020020e34e9fdd0cbaf0244180ec64280cc281379406e", func := "sprue/spruelaw4.ShapeBounds", spec := "shapeBounds", inPlace := ["internal/bytealg.IndexByteString", "internal/bytealg.IndexString"], unfollowed := true, recurses := true, named := ["internal/bytealg.MaxLen"], apart := false }
def ShapeBoundsSaid : Prop := shapeBoundsRow.holds Try.pinned (OpenSpec.ofChange shapeBoundsSpec)

/-- ITS FALSE NEIGHBOUR: 'it returns false'. Refute it at one input. -/
def shapeBoundsWrong : ChangeSpec := { name := "shapeBounds", fn := fun _ => fun
  | [d1, d2] => { results := [.lit (.bool false)], args := [d1, d2] }
  | _ => none }
def ShapeBoundsWrongFalsely : Prop := shapeBoundsRow.holds Try.pinned (OpenSpec.ofChange shapeBoundsWrong)

/-- 'spruelaw4.ShapeOpts': WHATEVER THE INPUT: true; the input reads as it did. -/
def shapeOptsSpec : ChangeSpec := { name := "shapeOpts", fn := fun _ => fun
  | [d1, d2, d3] => { results := [.lit (.bool true)], args := [d1, d2, d3] }
  | _ => none }
def shapeOptsRow : OpenClaim := { program := "ytphbopmilegojaa", sum := "f1efa5bcbf9ddfb5572020020e34e9fdd0cbaf0244180ec64280cc281379406e", func := "sprue/spruelaw4.ShapeOpts", spec := "shapeOpts", inPlace := ["internal/bytealg.IndexByteString", "internal/bytealg.IndexString"], unfollowed := true, recurses := true, named := ["internal/bytealg.MaxLen"], apart := false }
def ShapeOptsSaid : Prop := shapeOptsRow.holds Try.pinned (OpenSpec.ofChange shapeOptsSpec)

/-- ITS FALSE NEIGHBOUR: 'it returns false'. Refute it at one input. -/
def shapeOptsWrong : ChangeSpec := { name := "shapeOpts", fn := fun _ => fun
  | [d1, d2, d3] => { results := [.lit (.bool false)], args := [d1, d2, d3] }
  | _ => none }
def ShapeOptsWrongFalsely : Prop := shapeOptsRow.holds Try.pinned (OpenSpec.ofChange shapeOptsWrong)

/-- 'spruelaw4.ShapeBuiltins': WHATEVER THE INPUT: true; the input reads as it did. -/
def shapeBuiltinsSpec : ChangeSpec := { name := "shapeBuiltins", fn := fun _ => fun
  | [d1, d2] => { results := [.lit (.bool true)], args := [d1, d2] }
  | _ => none }
def shapeBuiltinsRow : OpenClaim := { program := "ytphbopmilegojaa", sum := "f1efa5bcbf9ddfb5572020020e34e9fdd0cbaf0244180ec64280cc281379406e", func := "sprue/spruelaw4.ShapeBuiltins", spec := "shapeBuiltins", inPlace := ["internal/bytealg.IndexByteString", "internal/bytealg.IndexString"], unfollowed := true, recurses := true, named := ["internal/bytealg.MaxLen"], apart := false }
def ShapeBuiltinsSaid : Prop := shapeBuiltinsRow.holds Try.pinned (OpenSpec.ofChange shapeBuiltinsSpec)

/-- ITS FALSE NEIGHBOUR: 'it returns false'. Refute it at one input. -/
def shapeBuiltinsWrong : ChangeSpec := { name := "shapeBuiltins", fn := fun _ => fun
  | [d1, d2] => { results := [.lit (.bool false)], args := [d1, d2] }
  | _ => none }
def ShapeBuiltinsWrongFalsely : Prop := shapeBuiltinsRow.holds Try.pinned (OpenSpec.ofChange shapeBuiltinsWrong)

/-- 'spruelaw4.ShapeNames': WHATEVER THE INPUT: true; the input reads as it did. -/
def shapeNamesSpec : ChangeSpec := { name := "shapeNames", fn := fun _ => fun
  | [d1, d2, d3] => { results := [.lit (.bool true)], args := [d1, d2, d3] }
  | _ => none }
def shapeNamesRow : OpenClaim := { program := "ytphbopmilegojaa", sum := "f1efa5bcbf9ddfb5572020020e34e9fdd0cbaf0244180ec64280cc281379406e", func := "sprue/spruelaw4.ShapeNames", spec := "shapeNames", inPlace := ["internal/bytealg.IndexByteString", "internal/bytealg.IndexString"], unfollowed := true, recurses := true, named := ["internal/bytealg.MaxLen"], apart := false }
def ShapeNamesSaid : Prop := shapeNamesRow.holds Try.pinned (OpenSpec.ofChange shapeNamesSpec)

/-- ITS FALSE NEIGHBOUR: 'it returns false'. Refute it at one input. -/
def shapeNamesWrong : ChangeSpec := { name := "shapeNames", fn := fun _ => fun
  | [d1, d2, d3] => { results := [.lit (.bool false)], args := [d1, d2, d3] }
  | _ => none }
def ShapeNamesWrongFalsely : Prop := shapeNamesRow.holds Try.pinned (OpenSpec.ofChange shapeNamesWrong)

/-- 'spruelaw4.ShapeOrder': WHATEVER THE INPUT: true; the input reads as it did. -/
def shapeOrderSpec : ChangeSpec := { name := "shapeOrder", fn := fun _ => fun
  | [d1, d2] => { results := [.lit (.bool true)], args := [d1, d2] }
  | _ => none }
def shapeOrderRow : OpenClaim := { program := "ytphbopmilegojaa", sum := "f1efa5bcbf9ddfb5572020020e34e9fdd0cbaf0244180ec64280cc281379406e", func := "sprue/spruelaw4.ShapeOrder", spec := "shapeOrder", inPlace := ["internal/bytealg.IndexByteString", "internal/bytealg.IndexString"], unfollowed := true, recurses := true, named := ["internal/bytealg.MaxLen"], apart := false }
def ShapeOrderSaid : Prop := shapeOrderRow.holds Try.pinned (OpenSpec.ofChange shapeOrderSpec)

/-- ITS FALSE NEIGHBOUR: 'it returns false'. Refute it at one input. -/
def shapeOrderWrong : ChangeSpec := { name := "shapeOrder", fn := fun _ => fun
  | [d1, d2] => { results := [.lit (.bool false)], args := [d1, d2] }
  | _ => none }
def ShapeOrderWrongFalsely : Prop := shapeOrderRow.holds Try.pinned (OpenSpec.ofChange shapeOrderWrong)

/-- 'spruelaw4.ShapeMany': WHATEVER THE INPUT: true; the input reads as it did. -/
def shapeManySpec : ChangeSpec := { name := "shapeMany", fn := fun _ => fun
  | [d] => { results := [.lit (.bool true)], args := [d] }
  | _ => none }
def shapeManyRow : OpenClaim := { program := "ytphbopmilegojaa", sum := "f1efa5bcbf9ddfb5572020020e34e9fdd0cbaf0244180ec64280cc281379406e", func := "sprue/spruelaw4.ShapeMany", spec := "shapeMany", inPlace := ["internal/bytealg.IndexByteString", "internal/bytealg.IndexString"], unfollowed := true, recurses := true, named := ["internal/bytealg.MaxLen"], apart := false }
def ShapeManySaid : Prop := shapeManyRow.holds Try.pinned (OpenSpec.ofChange shapeManySpec)

/-- ITS FALSE NEIGHBOUR: 'it returns false'. Refute it at one input. -/
def shapeManyWrong : ChangeSpec := { name := "shapeMany", fn := fun _ => fun
  | [d] => { results := [.lit (.bool false)], args := [d] }
  | _ => none }
def ShapeManyWrongFalsely : Prop := shapeManyRow.holds Try.pinned (OpenSpec.ofChange shapeManyWrong)

/- THE SECOND FORM. 'bulk': how many values and letters a reading holds, each counted each time it is reached (what is shared counts as often as it is met; a slice's spare places count too). A statement '..UptoSaid' is the law's where the arguments, and the package variables that the reading takes, are together of bulk at most 1048576: NARROWER than '..Said'. Prove '..Said' where nothing that the law and all that it calls make is longer than what came in: it says more and counts as full. Else prove '..UptoSaid'. A law counts once. -/
mutual
def uptoBulk {H : Type} : DataW H → Nat
  | .lit (.string bytes) => bytes.length + 1
  | .lit _ => 1
  | .nil => 1
  | .ptr d => uptoBulk d + 1
  | .slice elems spare => uptoBulkAll elems + uptoBulkAll spare + 1
  | .agg parts => uptoBulkAll parts + 1
  | .iface _ d => uptoBulk d + 1
  | .map entries => uptoBulkEntries entries + 1
  | .held _ => 1
def uptoBulkAll {H : Type} : List (DataW H) → Nat
  | [] => 0
  | d :: r => uptoBulk d + uptoBulkAll r
def uptoBulkEntries {H : Type} : List (Lit × DataW H) → Nat
  | [] => 0
  | x :: r => uptoBulkEntry x + uptoBulkEntries r
def uptoBulkEntry {H : Type} : Lit × DataW H → Nat
  | (.string bytes, d) => bytes.length + uptoBulk d + 1
  | (_, d) => uptoBulk d + 1
 end
def uptoSmall : (H : Type) → List (DataW H) → Bool := fun _ ds => decide (uptoBulkAll ds ≤ 1048576)
def OpenSpec.upto (s : _root_.Go.ChangeSpec) : _root_.Go.OpenSpec := { _root_.Go.OpenSpec.ofChange s with cond := some uptoSmall }

/-- 'spruelaw4.ShapeChecks', WHERE WHAT IT READS IS OF BULK AT MOST 1048576: true; the input reads as it did. -/
def shapeChecksUptoRow : OpenClaim := { program := "ytphbopmilegojaa", sum := "f1efa5bcbf9ddfb5572020020e34e9fdd0cbaf0244180ec64280cc281379406e", func := "sprue/spruelaw4.ShapeChecks", spec := "shapeChecks", inPlace := ["internal/bytealg.IndexByteString", "internal/bytealg.IndexString"], unfollowed := true, recurses := true, named := ["internal/bytealg.MaxLen"], loops := true, apart := false, narrowed := true }
def ShapeChecksUptoSaid : Prop := shapeChecksUptoRow.holds Try.pinned (OpenSpec.upto shapeChecksSpec)

/-- 'spruelaw4.ShapeFinite', WHERE WHAT IT READS IS OF BULK AT MOST 1048576: true; the input reads as it did. -/
def shapeFiniteUptoRow : OpenClaim := { program := "ytphbopmilegojaa", sum := "f1efa5bcbf9ddfb5572020020e34e9fdd0cbaf0244180ec64280cc281379406e", func := "sprue/spruelaw4.ShapeFinite", spec := "shapeFinite", inPlace := ["internal/bytealg.IndexByteString", "internal/bytealg.IndexString"], unfollowed := true, recurses := true, named := ["internal/bytealg.MaxLen"], loops := true, apart := false, narrowed := true }
def ShapeFiniteUptoSaid : Prop := shapeFiniteUptoRow.holds Try.pinned (OpenSpec.upto shapeFiniteSpec)

/-- 'spruelaw4.ShapeRings', WHERE WHAT IT READS IS OF BULK AT MOST 1048576: true; the input reads as it did. -/
def shapeRingsUptoRow : OpenClaim := { program := "ytphbopmilegojaa", sum := "f1efa5bcbf9ddfb5572020020e34e9fdd0cbaf0244180ec64280cc281379406e", func := "sprue/spruelaw4.ShapeRings", spec := "shapeRings", inPlace := ["internal/bytealg.IndexByteString", "internal/bytealg.IndexString"], unfollowed := true, recurses := true, named := ["internal/bytealg.MaxLen"], apart := false, narrowed := true }
def ShapeRingsUptoSaid : Prop := shapeRingsUptoRow.holds Try.pinned (OpenSpec.upto shapeRingsSpec)

/-- 'spruelaw4.ShapeBounds', WHERE WHAT IT READS IS OF BULK AT MOST 1048576: true; the input reads as it did. -/
def shapeBoundsUptoRow : OpenClaim := { program := "ytphbopmilegojaa", sum := "f1efa5bcbf9ddfb5572020020e34e9fdd0cbaf0244180ec64280cc281379406e", func := "sprue/spruelaw4.ShapeBounds", spec := "shapeBounds", inPlace := ["internal/bytealg.IndexByteString", "internal/bytealg.IndexString"], unfollowed := true, recurses := true, named := ["internal/bytealg.MaxLen"], apart := false, narrowed := true }
def ShapeBoundsUptoSaid : Prop := shapeBoundsUptoRow.holds Try.pinned (OpenSpec.upto shapeBoundsSpec)

/-- 'spruelaw4.ShapeOpts', WHERE WHAT IT READS IS OF BULK AT MOST 1048576: true; the input reads as it did. -/
def shapeOptsUptoRow : OpenClaim := { program := "ytphbopmilegojaa", sum := "f1efa5bcbf9ddfb5572020020e34e9fdd0cbaf0244180ec64280cc281379406e", func := "sprue/spruelaw4.ShapeOpts", spec := "shapeOpts", inPlace := ["internal/bytealg.IndexByteString", "internal/bytealg.IndexString"], unfollowed := true, recurses := true, named := ["internal/bytealg.MaxLen"], apart := false, narrowed := true }
def ShapeOptsUptoSaid : Prop := shapeOptsUptoRow.holds Try.pinned (OpenSpec.upto shapeOptsSpec)

/-- 'spruelaw4.ShapeBuiltins', WHERE WHAT IT READS IS OF BULK AT MOST 1048576: true; the input reads as it did. -/
def shapeBuiltinsUptoRow : OpenClaim := { program := "ytphbopmilegojaa", sum := "f1efa5bcbf9ddfb5572020020e34e9fdd0cbaf0244180ec64280cc281379406e", func := "sprue/spruelaw4.ShapeBuiltins", spec := "shapeBuiltins", inPlace := ["internal/bytealg.IndexByteString", "internal/bytealg.IndexString"], unfollowed := true, recurses := true, named := ["internal/bytealg.MaxLen"], apart := false, narrowed := true }
def ShapeBuiltinsUptoSaid : Prop := shapeBuiltinsUptoRow.holds Try.pinned (OpenSpec.upto shapeBuiltinsSpec)

/-- 'spruelaw4.ShapeNames', WHERE WHAT IT READS IS OF BULK AT MOST 1048576: true; the input reads as it did. -/
def shapeNamesUptoRow : OpenClaim := { program := "ytphbopmilegojaa", sum := "f1efa5bcbf9ddfb5572020020e34e9fdd0cbaf0244180ec64280cc281379406e", func := "sprue/spruelaw4.ShapeNames", spec := "shapeNames", inPlace := ["internal/bytealg.IndexByteString", "internal/bytealg.IndexString"], unfollowed := true, recurses := true, named := ["internal/bytealg.MaxLen"], apart := false, narrowed := true }
def ShapeNamesUptoSaid : Prop := shapeNamesUptoRow.holds Try.pinned (OpenSpec.upto shapeNamesSpec)

/-- 'spruelaw4.ShapeOrder', WHERE WHAT IT READS IS OF BULK AT MOST 1048576: true; the input reads as it did. -/
def shapeOrderUptoRow : OpenClaim := { program := "ytphbopmilegojaa", sum := "f1efa5bcbf9ddfb5572020020e34e9fdd0cbaf0244180ec64280cc281379406e", func := "sprue/spruelaw4.ShapeOrder", spec := "shapeOrder", inPlace := ["internal/bytealg.IndexByteString", "internal/bytealg.IndexString"], unfollowed := true, recurses := true, named := ["internal/bytealg.MaxLen"], apart := false, narrowed := true }
def ShapeOrderUptoSaid : Prop := shapeOrderUptoRow.holds Try.pinned (OpenSpec.upto shapeOrderSpec)

/-- 'spruelaw4.ShapeMany', WHERE WHAT IT READS IS OF BULK AT MOST 1048576: true; the input reads as it did. -/
def shapeManyUptoRow : OpenClaim := { program := "ytphbopmilegojaa", sum := "f1efa5bcbf9ddfb5572020020e34e9fdd0cbaf0244180ec64280cc281379406e", func := "sprue/spruelaw4.ShapeMany", spec := "shapeMany", inPlace := ["internal/bytealg.IndexByteString", "internal/bytealg.IndexString"], unfollowed := true, recurses := true, named := ["internal/bytealg.MaxLen"], apart := false, narrowed := true }
def ShapeManyUptoSaid : Prop := shapeManyUptoRow.holds Try.pinned (OpenSpec.upto shapeManySpec)

end Rows
end Go.Proofs.Ytphbopmilegojaa
