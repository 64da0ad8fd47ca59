/-
  NARROWER THAN 'FOR EVERY INPUT', by the rows' own cells (each row's printed sentence says how): ConsShares: loops · ConsTrees: loops · ConsOpens: loops · ConsSigs: loops · ConsBases: loops.
  DERIVED. THE GIVEN ROWS OF THIS SEAT. 6 by the template 'for every input the law returns true; each argument reads behind the call as it read before'; 0 by the template 'total and deterministic' (their statements: YtajifckdgaoncaaTotals.lean).
  GIVEN WITH THE SEED: the statements are not yours to turn. If you find one false, say at which input.
  Laid BY PROGRAM, IN A SANDBOX (cutbox-rows.mjs): the forced cells as the released guide's own fill.sh prints them over the translation c924597c37bca894… (all of the seat's roots in one cut). By AI agents, Wed Nov 11 2026. No macro, syntax, notation, axiom, sorry.
-/
import Derived.Test.YtajifckdgaoncaaChecked
import GoSem.Claim
import GoSem.ClaimJoined
import GoSem.ClaimMapViews
import Derived.JoinedTies
import Derived.KernelRfl
namespace Go.Proofs.Ytajifckdgaoncaa
/- THE CELL 'sum', in the pinned program and in every row, IS THE sha256 OF THE DUMP (.gsa) THAT YtajifckdgaoncaaProg.lean LOADS. Nothing in Lean hashes anything: it is a label: what it is worth is what the hold of that sum in a sandbox is worth. -/
noncomputable def Try.pinned : Pinned := { name := "ytajifckdgaoncaa", sum := "c924597c37bca89403d9a2dda15b6188af4931d0dfb8403edc2b79aeea1e09a1", checked := Try.checked }
namespace Rows
def none {H : Type} : Left H := { results := [], args := [] }

/-- 'spruelaw5.ConsBig': WHATEVER THE INPUT: true; the input reads as it did. -/
def consBigSpec : ChangeSpec := { name := "consBig", fn := fun _ => fun
  | [d] => { results := [.lit (.bool true)], args := [d] }
  | _ => none }
def consBigRow : OpenClaim := { program := "ytajifckdgaoncaa", sum := "c924597c37bca89403d9a2dda15b6188af4931d0dfb8403edc2b79aeea1e09a1", func := "sprue/spruelaw5.ConsBig", spec := "consBig", inPlace := ["internal/bytealg.IndexByteString", "internal/bytealg.IndexString"], unfollowed := true, recurses := true, named := ["internal/bytealg.MaxLen"], plainKeys := false, apart := false }
def ConsBigSaid : Prop := consBigRow.holds Try.pinned (OpenSpec.ofChange consBigSpec)

/-- ITS FALSE NEIGHBOUR: 'it returns false'. Refute it at one input. -/
def consBigWrong : ChangeSpec := { name := "consBig", fn := fun _ => fun
  | [d] => { results := [.lit (.bool false)], args := [d] }
  | _ => none }
def ConsBigWrongFalsely : Prop := consBigRow.holds Try.pinned (OpenSpec.ofChange consBigWrong)

/-- 'spruelaw5.ConsShares': WHATEVER THE INPUT: true; the input reads as it did. -/
def consSharesSpec : ChangeSpec := { name := "consShares", fn := fun _ => fun
  | [d1, d2] => { results := [.lit (.bool true)], args := [d1, d2] }
  | _ => none }
def consSharesRow : OpenClaim := { program := "ytajifckdgaoncaa", sum := "c924597c37bca89403d9a2dda15b6188af4931d0dfb8403edc2b79aeea1e09a1", func := "sprue/spruelaw5.ConsShares", spec := "consShares", inPlace := ["internal/bytealg.IndexByteString", "internal/bytealg.IndexString"], unfollowed := true, recurses := true, named := ["internal/bytealg.MaxLen"], loops := true, plainKeys := false, apart := false }
def ConsSharesSaid : Prop := consSharesRow.holds Try.pinned (OpenSpec.ofChange consSharesSpec)

/-- ITS FALSE NEIGHBOUR: 'it returns false'. Refute it at one input. -/
def consSharesWrong : ChangeSpec := { name := "consShares", fn := fun _ => fun
  | [d1, d2] => { results := [.lit (.bool false)], args := [d1, d2] }
  | _ => none }
def ConsSharesWrongFalsely : Prop := consSharesRow.holds Try.pinned (OpenSpec.ofChange consSharesWrong)

/-- 'spruelaw5.ConsTrees': WHATEVER THE INPUT: true; the input reads as it did. -/
def consTreesSpec : ChangeSpec := { name := "consTrees", fn := fun _ => fun
  | [d1, d2, d3] => { results := [.lit (.bool true)], args := [d1, d2, d3] }
  | _ => none }
def consTreesRow : OpenClaim := { program := "ytajifckdgaoncaa", sum := "c924597c37bca89403d9a2dda15b6188af4931d0dfb8403edc2b79aeea1e09a1", func := "sprue/spruelaw5.ConsTrees", spec := "consTrees", inPlace := ["internal/bytealg.IndexByteString", "internal/bytealg.IndexString"], unfollowed := true, recurses := true, named := ["internal/bytealg.MaxLen"], loops := true, plainKeys := false, apart := false }
def ConsTreesSaid : Prop := consTreesRow.holds Try.pinned (OpenSpec.ofChange consTreesSpec)

/-- ITS FALSE NEIGHBOUR: 'it returns false'. Refute it at one input. -/
def consTreesWrong : ChangeSpec := { name := "consTrees", fn := fun _ => fun
  | [d1, d2, d3] => { results := [.lit (.bool false)], args := [d1, d2, d3] }
  | _ => none }
def ConsTreesWrongFalsely : Prop := consTreesRow.holds Try.pinned (OpenSpec.ofChange consTreesWrong)

/-- 'spruelaw5.ConsOpens': WHATEVER THE INPUT: true; the input reads as it did. -/
def consOpensSpec : ChangeSpec := { name := "consOpens", fn := fun _ => fun
  | [d1, d2] => { results := [.lit (.bool true)], args := [d1, d2] }
  | _ => none }
def consOpensRow : OpenClaim := { program := "ytajifckdgaoncaa", sum := "c924597c37bca89403d9a2dda15b6188af4931d0dfb8403edc2b79aeea1e09a1", func := "sprue/spruelaw5.ConsOpens", spec := "consOpens", inPlace := ["internal/bytealg.IndexByteString", "internal/bytealg.IndexString"], unfollowed := true, recurses := true, named := ["internal/bytealg.MaxLen"], loops := true, plainKeys := false, apart := false }
def ConsOpensSaid : Prop := consOpensRow.holds Try.pinned (OpenSpec.ofChange consOpensSpec)

/-- ITS FALSE NEIGHBOUR: 'it returns false'. Refute it at one input. -/
def consOpensWrong : ChangeSpec := { name := "consOpens", fn := fun _ => fun
  | [d1, d2] => { results := [.lit (.bool false)], args := [d1, d2] }
  | _ => none }
def ConsOpensWrongFalsely : Prop := consOpensRow.holds Try.pinned (OpenSpec.ofChange consOpensWrong)

/-- 'spruelaw5.ConsSigs': WHATEVER THE INPUT: true; the input reads as it did. -/
def consSigsSpec : ChangeSpec := { name := "consSigs", fn := fun _ => fun
  | [d1, d2, d3, d4] => { results := [.lit (.bool true)], args := [d1, d2, d3, d4] }
  | _ => none }
def consSigsRow : OpenClaim := { program := "ytajifckdgaoncaa", sum := "c924597c37bca89403d9a2dda15b6188af4931d0dfb8403edc2b79aeea1e09a1", func := "sprue/spruelaw5.ConsSigs", spec := "consSigs", inPlace := ["internal/bytealg.IndexByteString", "internal/bytealg.IndexString"], unfollowed := true, recurses := true, named := ["internal/bytealg.MaxLen"], loops := true, plainKeys := false, apart := false }
def ConsSigsSaid : Prop := consSigsRow.holds Try.pinned (OpenSpec.ofChange consSigsSpec)

/-- ITS FALSE NEIGHBOUR: 'it returns false'. Refute it at one input. -/
def consSigsWrong : ChangeSpec := { name := "consSigs", fn := fun _ => fun
  | [d1, d2, d3, d4] => { results := [.lit (.bool false)], args := [d1, d2, d3, d4] }
  | _ => none }
def ConsSigsWrongFalsely : Prop := consSigsRow.holds Try.pinned (OpenSpec.ofChange consSigsWrong)

/-- 'spruelaw5.ConsBases': WHATEVER THE INPUT: true; the input reads as it did. -/
def consBasesSpec : ChangeSpec := { name := "consBases", fn := fun _ => fun
  | [d1, d2, d3] => { results := [.lit (.bool true)], args := [d1, d2, d3] }
  | _ => none }
def consBasesRow : OpenClaim := { program := "ytajifckdgaoncaa", sum := "c924597c37bca89403d9a2dda15b6188af4931d0dfb8403edc2b79aeea1e09a1", func := "sprue/spruelaw5.ConsBases", spec := "consBases", inPlace := ["internal/bytealg.IndexByteString", "internal/bytealg.IndexString"], unfollowed := true, recurses := true, named := ["internal/bytealg.MaxLen"], loops := true, plainKeys := false, apart := false }
def ConsBasesSaid : Prop := consBasesRow.holds Try.pinned (OpenSpec.ofChange consBasesSpec)

/-- ITS FALSE NEIGHBOUR: 'it returns false'. Refute it at one input. -/
def consBasesWrong : ChangeSpec := { name := "consBases", fn := fun _ => fun
  | [d1, d2, d3] => { results := [.lit (.bool false)], args := [d1, d2, d3] }
  | _ => none }
def ConsBasesWrongFalsely : Prop := consBasesRow.holds Try.pinned (OpenSpec.ofChange consBasesWrong)

/- THE SECOND FORM. 'bulk': how many values and letters a reading holds, each counted each time it is reached (what is shared counts as often as it is met; a slice's spare places count too). A statement '..UptoSaid' is the law's where the arguments, and the package variables that the reading takes, are together of bulk at most 1048576: NARROWER than '..Said'. Prove '..Said' where nothing that the law and all that it calls make is longer than what came in: it says more and counts as full. Else prove '..UptoSaid'. A law counts once. -/
mutual
def uptoBulk {H : Type} : DataW H → Nat
  | .lit (.string bytes) => bytes.length + 1
  | .lit _ => 1
  | .nil => 1
  | .ptr d => uptoBulk d + 1
  | .slice elems spare => uptoBulkAll elems + uptoBulkAll spare + 1
  | .agg parts => uptoBulkAll parts + 1
  | .iface _ d => uptoBulk d + 1
  | .map entries => uptoBulkEntries entries + 1
  | .held _ => 1
def uptoBulkAll {H : Type} : List (DataW H) → Nat
  | [] => 0
  | d :: r => uptoBulk d + uptoBulkAll r
def uptoBulkEntries {H : Type} : List (Lit × DataW H) → Nat
  | [] => 0
  | x :: r => uptoBulkEntry x + uptoBulkEntries r
def uptoBulkEntry {H : Type} : Lit × DataW H → Nat
  | (.string bytes, d) => bytes.length + uptoBulk d + 1
  | (_, d) => uptoBulk d + 1
 end
def uptoSmall : (H : Type) → List (DataW H) → Bool := fun _ ds => decide (uptoBulkAll ds ≤ 1048576)
def OpenSpec.upto (s : _root_.Go.ChangeSpec) : _root_.Go.OpenSpec := { _root_.Go.OpenSpec.ofChange s with cond := some uptoSmall }

/-- 'spruelaw5.ConsBig', WHERE WHAT IT READS IS OF BULK AT MOST 1048576: true; the input reads as it did. -/
def consBigUptoRow : OpenClaim := { program := "ytajifckdgaoncaa", sum := "c924597c37bca89403d9a2dda15b6188af4931d0dfb8403edc2b79aeea1e09a1", func := "sprue/spruelaw5.ConsBig", spec := "consBig", inPlace := ["internal/bytealg.IndexByteString", "internal/bytealg.IndexString"], unfollowed := true, recurses := true, named := ["internal/bytealg.MaxLen"], plainKeys := false, apart := false, narrowed := true }
def ConsBigUptoSaid : Prop := consBigUptoRow.holds Try.pinned (OpenSpec.upto consBigSpec)

/-- 'spruelaw5.ConsShares', WHERE WHAT IT READS IS OF BULK AT MOST 1048576: true; the input reads as it did. -/
def consSharesUptoRow : OpenClaim := { program := "ytajifckdgaoncaa", sum := "c924597c37bca89403d9a2dda15b6188af4931d0dfb8403edc2b79aeea1e09a1", func := "sprue/spruelaw5.ConsShares", spec := "consShares", inPlace := ["internal/bytealg.IndexByteString", "internal/bytealg.IndexString"], unfollowed := true, recurses := true, named := ["internal/bytealg.MaxLen"], loops := true, plainKeys := false, apart := false, narrowed := true }
def ConsSharesUptoSaid : Prop := consSharesUptoRow.holds Try.pinned (OpenSpec.upto consSharesSpec)

/-- 'spruelaw5.ConsTrees', WHERE WHAT IT READS IS OF BULK AT MOST 1048576: true; the input reads as it did. -/
def consTreesUptoRow : OpenClaim := { program := "ytajifckdgaoncaa", sum := "c924597c37bca89403d9a2dda15b6188af4931d0dfb8403edc2b79aeea1e09a1", func := "sprue/spruelaw5.ConsTrees", spec := "consTrees", inPlace := ["internal/bytealg.IndexByteString", "internal/bytealg.IndexString"], unfollowed := true, recurses := true, named := ["internal/bytealg.MaxLen"], loops := true, plainKeys := false, apart := false, narrowed := true }
def ConsTreesUptoSaid : Prop := consTreesUptoRow.holds Try.pinned (OpenSpec.upto consTreesSpec)

/-- 'spruelaw5.ConsOpens', WHERE WHAT IT READS IS OF BULK AT MOST 1048576: true; the input reads as it did. -/
def consOpensUptoRow : OpenClaim := { program := "ytajifckdgaoncaa", sum := "c924597c37bca89403d9a2dda15b6188af4931d0dfb8403edc2b79aeea1e09a1", func := "sprue/spruelaw5.ConsOpens", spec := "consOpens", inPlace := ["internal/bytealg.IndexByteString", "internal/bytealg.IndexString"], unfollowed := true, recurses := true, named := ["internal/bytealg.MaxLen"], loops := true, plainKeys := false, apart := false, narrowed := true }
def ConsOpensUptoSaid : Prop := consOpensUptoRow.holds Try.pinned (OpenSpec.upto consOpensSpec)

/-- 'spruelaw5.ConsSigs', WHERE WHAT IT READS IS OF BULK AT MOST 1048576: true; the input reads as it did. -/
def consSigsUptoRow : OpenClaim := { program := "ytajifckdgaoncaa", sum := "c924597c37bca89403d9a2dda15b6188af4931d0dfb8403edc2b79aeea1e09a1", func := "sprue/spruelaw5.ConsSigs", spec := "consSigs", inPlace := ["internal/bytealg.IndexByteString", "internal/bytealg.IndexString"], unfollowed := true, recurses := true, named := ["internal/bytealg.MaxLen"], loops := true, plainKeys := false, apart := false, narrowed := true }
def ConsSigsUptoSaid : Prop := consSigsUptoRow.holds Try.pinned (OpenSpec.upto consSigsSpec)

/-- 'spruelaw5.ConsBases', WHERE WHAT IT READS IS OF BULK AT MOST 1048576: true; the input reads as it did. -/
def consBasesUptoRow : OpenClaim := { program := "ytajifckdgaoncaa", sum := "c924597c37bca89403d9a2dda15b6188af4931d0dfb8403edc2b79aeea1e09a1", func := "sprue/spruelaw5.ConsBases", spec := "consBases", inPlace := ["internal/bytealg.IndexByteString", "internal/bytealg.IndexString"], unfollowed := true, recurses := true, named := ["internal/bytealg.MaxLen"], loops := true, plainKeys := false, apart := false, narrowed := true }
def ConsBasesUptoSaid : Prop := consBasesUptoRow.holds Try.pinned (OpenSpec.upto consBasesSpec)

end Rows
end Go.Proofs.Ytajifckdgaoncaa
