/-
  No cell of these rows narrows 'for every input' (looked for: loops, veiled, ifaces, maps, wideKeys, modest, calm, conditions, laid).
  DERIVED. THE GIVEN ROWS OF THIS SEAT. 4 by the template 'for every input the law returns true; each argument reads behind the call as it read before'; 0 by the template 'total and deterministic' (their statements: YtckllgalfboniaaTotals.lean).
  GIVEN WITH THE SEED: the statements are not yours to turn. If you find one false, say at which input.
  Laid BY PROGRAM, IN A SANDBOX (cutbox-rows.mjs): the forced cells as the released guide's own fill.sh prints them over the translation 52b62005049a63f5… (all of the seat's roots in one cut). By AI agents, Wed Nov 11 2026. No macro, syntax, notation, axiom, sorry.
-/
import Derived.Test.YtckllgalfboniaaChecked
import GoSem.Claim
import GoSem.ClaimJoined
import GoSem.ClaimMapViews
import Derived.JoinedTies
import Derived.KernelRfl
namespace Go.Proofs.Ytckllgalfboniaa
/- THE CELL 'sum', in the pinned program and in every row, IS THE sha256 OF THE DUMP (.gsa) THAT YtckllgalfboniaaProg.lean LOADS. Nothing in Lean hashes anything: it is a label: what it is worth is what the hold of that sum in a sandbox is worth. -/
noncomputable def Try.pinned : Pinned := { name := "ytckllgalfboniaa", sum := "52b62005049a63f5386885f6dda42366445302fb7b19c597e77bde2d105cdf49", checked := Try.checked }
namespace Rows
def none {H : Type} : Left H := { results := [], args := [] }

/-- 'spruelaw9.PipeNarrows': WHATEVER THE INPUT: true; the input reads as it did. -/
def pipeNarrowsSpec : ChangeSpec := { name := "pipeNarrows", fn := fun _ => fun
  | [d1, d2, d3] => { results := [.lit (.bool true)], args := [d1, d2, d3] }
  | _ => none }
def pipeNarrowsRow : OpenClaim := { program := "ytckllgalfboniaa", sum := "52b62005049a63f5386885f6dda42366445302fb7b19c597e77bde2d105cdf49", func := "sprue/spruelaw9.PipeNarrows", spec := "pipeNarrows", inPlace := ["internal/bytealg.IndexByteString", "internal/bytealg.IndexString"], unfollowed := true, recurses := true, named := ["internal/bytealg.MaxLen"], plainKeys := false, apart := false }
def PipeNarrowsSaid : Prop := pipeNarrowsRow.holds Try.pinned (OpenSpec.ofChange pipeNarrowsSpec)

/-- ITS FALSE NEIGHBOUR: 'it returns false'. Refute it at one input. -/
def pipeNarrowsWrong : ChangeSpec := { name := "pipeNarrows", fn := fun _ => fun
  | [d1, d2, d3] => { results := [.lit (.bool false)], args := [d1, d2, d3] }
  | _ => none }
def PipeNarrowsWrongFalsely : Prop := pipeNarrowsRow.holds Try.pinned (OpenSpec.ofChange pipeNarrowsWrong)

/-- 'spruelaw9.PipeRows': WHATEVER THE INPUT: true; the input reads as it did. -/
def pipeRowsSpec : ChangeSpec := { name := "pipeRows", fn := fun _ => fun
  | [d] => { results := [.lit (.bool true)], args := [d] }
  | _ => none }
def pipeRowsRow : OpenClaim := { program := "ytckllgalfboniaa", sum := "52b62005049a63f5386885f6dda42366445302fb7b19c597e77bde2d105cdf49", func := "sprue/spruelaw9.PipeRows", spec := "pipeRows", inPlace := ["internal/bytealg.IndexByteString", "internal/bytealg.IndexString"], unfollowed := true, recurses := true, named := ["internal/bytealg.MaxLen"], plainKeys := false, apart := false }
def PipeRowsSaid : Prop := pipeRowsRow.holds Try.pinned (OpenSpec.ofChange pipeRowsSpec)

/-- ITS FALSE NEIGHBOUR: 'it returns false'. Refute it at one input. -/
def pipeRowsWrong : ChangeSpec := { name := "pipeRows", fn := fun _ => fun
  | [d] => { results := [.lit (.bool false)], args := [d] }
  | _ => none }
def PipeRowsWrongFalsely : Prop := pipeRowsRow.holds Try.pinned (OpenSpec.ofChange pipeRowsWrong)

/-- 'spruelaw9.PipeVars': WHATEVER THE INPUT: true; the input reads as it did. -/
def pipeVarsSpec : ChangeSpec := { name := "pipeVars", fn := fun _ => fun
  | [d1, d2] => { results := [.lit (.bool true)], args := [d1, d2] }
  | _ => none }
def pipeVarsRow : OpenClaim := { program := "ytckllgalfboniaa", sum := "52b62005049a63f5386885f6dda42366445302fb7b19c597e77bde2d105cdf49", func := "sprue/spruelaw9.PipeVars", spec := "pipeVars", inPlace := ["internal/bytealg.IndexByteString", "internal/bytealg.IndexString"], unfollowed := true, recurses := true, named := ["internal/bytealg.MaxLen"], plainKeys := false, apart := false }
def PipeVarsSaid : Prop := pipeVarsRow.holds Try.pinned (OpenSpec.ofChange pipeVarsSpec)

/-- ITS FALSE NEIGHBOUR: 'it returns false'. Refute it at one input. -/
def pipeVarsWrong : ChangeSpec := { name := "pipeVars", fn := fun _ => fun
  | [d1, d2] => { results := [.lit (.bool false)], args := [d1, d2] }
  | _ => none }
def PipeVarsWrongFalsely : Prop := pipeVarsRow.holds Try.pinned (OpenSpec.ofChange pipeVarsWrong)

/-- 'spruelaw9.PipeLast': WHATEVER THE INPUT: true; the input reads as it did. -/
def pipeLastSpec : ChangeSpec := { name := "pipeLast", fn := fun _ => fun
  | [d1, d2, d3] => { results := [.lit (.bool true)], args := [d1, d2, d3] }
  | _ => none }
def pipeLastRow : OpenClaim := { program := "ytckllgalfboniaa", sum := "52b62005049a63f5386885f6dda42366445302fb7b19c597e77bde2d105cdf49", func := "sprue/spruelaw9.PipeLast", spec := "pipeLast", inPlace := ["internal/bytealg.IndexByteString", "internal/bytealg.IndexString"], unfollowed := true, recurses := true, named := ["internal/bytealg.MaxLen"], plainKeys := false, apart := false }
def PipeLastSaid : Prop := pipeLastRow.holds Try.pinned (OpenSpec.ofChange pipeLastSpec)

/-- ITS FALSE NEIGHBOUR: 'it returns false'. Refute it at one input. -/
def pipeLastWrong : ChangeSpec := { name := "pipeLast", fn := fun _ => fun
  | [d1, d2, d3] => { results := [.lit (.bool false)], args := [d1, d2, d3] }
  | _ => none }
def PipeLastWrongFalsely : Prop := pipeLastRow.holds Try.pinned (OpenSpec.ofChange pipeLastWrong)

/- THE SECOND FORM. 'bulk': how many values and letters a reading holds, each counted each time it is reached (what is shared counts as often as it is met; a slice's spare places count too). A statement '..UptoSaid' is the law's where the arguments, and the package variables that the reading takes, are together of bulk at most 1048576: NARROWER than '..Said'. Prove '..Said' where nothing that the law and all that it calls make is longer than what came in: it says more and counts as full. Else prove '..UptoSaid'. A law counts once. -/
mutual
def uptoBulk {H : Type} : DataW H → Nat
  | .lit (.string bytes) => bytes.length + 1
  | .lit _ => 1
  | .nil => 1
  | .ptr d => uptoBulk d + 1
  | .slice elems spare => uptoBulkAll elems + uptoBulkAll spare + 1
  | .agg parts => uptoBulkAll parts + 1
  | .iface _ d => uptoBulk d + 1
  | .map entries => uptoBulkEntries entries + 1
  | .held _ => 1
def uptoBulkAll {H : Type} : List (DataW H) → Nat
  | [] => 0
  | d :: r => uptoBulk d + uptoBulkAll r
def uptoBulkEntries {H : Type} : List (Lit × DataW H) → Nat
  | [] => 0
  | x :: r => uptoBulkEntry x + uptoBulkEntries r
def uptoBulkEntry {H : Type} : Lit × DataW H → Nat
  | (.string bytes, d) => bytes.length + uptoBulk d + 1
  | (_, d) => uptoBulk d + 1
 end
def uptoSmall : (H : Type) → List (DataW H) → Bool := fun _ ds => decide (uptoBulkAll ds ≤ 1048576)
def OpenSpec.upto (s : _root_.Go.ChangeSpec) : _root_.Go.OpenSpec := { _root_.Go.OpenSpec.ofChange s with cond := some uptoSmall }

/-- 'spruelaw9.PipeNarrows', WHERE WHAT IT READS IS OF BULK AT MOST 1048576: true; the input reads as it did. -/
def pipeNarrowsUptoRow : OpenClaim := { program := "ytckllgalfboniaa", sum := "52b62005049a63f5386885f6dda42366445302fb7b19c597e77bde2d105cdf49", func := "sprue/spruelaw9.PipeNarrows", spec := "pipeNarrows", inPlace := ["internal/bytealg.IndexByteString", "internal/bytealg.IndexString"], unfollowed := true, recurses := true, named := ["internal/bytealg.MaxLen"], plainKeys := false, apart := false, narrowed := true }
def PipeNarrowsUptoSaid : Prop := pipeNarrowsUptoRow.holds Try.pinned (OpenSpec.upto pipeNarrowsSpec)

/-- 'spruelaw9.PipeRows', WHERE WHAT IT READS IS OF BULK AT MOST 1048576: true; the input reads as it did. -/
def pipeRowsUptoRow : OpenClaim := { program := "ytckllgalfboniaa", sum := "52b62005049a63f5386885f6dda42366445302fb7b19c597e77bde2d105cdf49", func := "sprue/spruelaw9.PipeRows", spec := "pipeRows", inPlace := ["internal/bytealg.IndexByteString", "internal/bytealg.IndexString"], unfollowed := true, recurses := true, named := ["internal/bytealg.MaxLen"], plainKeys := false, apart := false, narrowed := true }
def PipeRowsUptoSaid : Prop := pipeRowsUptoRow.holds Try.pinned (OpenSpec.upto pipeRowsSpec)

/-- 'spruelaw9.PipeVars', WHERE WHAT IT READS IS OF BULK AT MOST 1048576: true; the input reads as it did. -/
def pipeVarsUptoRow : OpenClaim := { program := "ytckllgalfboniaa", sum := "52b62005049a63f5386885f6dda42366445302fb7b19c597e77bde2d105cdf49", func := "sprue/spruelaw9.PipeVars", spec := "pipeVars", inPlace := ["internal/bytealg.IndexByteString", "internal/bytealg.IndexString"], unfollowed := true, recurses := true, named := ["internal/bytealg.MaxLen"], plainKeys := false, apart := false, narrowed := true }
def PipeVarsUptoSaid : Prop := pipeVarsUptoRow.holds Try.pinned (OpenSpec.upto pipeVarsSpec)

/-- 'spruelaw9.PipeLast', WHERE WHAT IT READS IS OF BULK AT MOST 1048576: true; the input reads as it did. -/
def pipeLastUptoRow : OpenClaim := { program := "ytckllgalfboniaa", sum := "52b62005049a63f5386885f6dda42366445302fb7b19c597e77bde2d105cdf49", func := "sprue/spruelaw9.PipeLast", spec := "pipeLast", inPlace := ["internal/bytealg.IndexByteString", "internal/bytealg.IndexString"], unfollowed := true, recurses := true, named := ["internal/bytealg.MaxLen"], plainKeys := false, apart := false, narrowed := true }
def PipeLastUptoSaid : Prop := pipeLastUptoRow.holds Try.pinned (OpenSpec.upto pipeLastSpec)

end Rows
end Go.Proofs.Ytckllgalfboniaa
