/-
  NARROWER THAN 'FOR EVERY INPUT', by the rows' own cells (each row's printed sentence says how): KindsSigs: loops · KindsOpts: loops.
  DERIVED. THE GIVEN ROWS OF THIS SEAT. 6 by the template 'for every input the law returns true; each argument reads behind the call as it read before'; 0 by the template 'total and deterministic' (their statements: YthhmgleopaojiaaTotals.lean).
  GIVEN WITH THE SEED: the statements are not yours to turn. If you find one false, say at which input.
  Laid BY PROGRAM, IN A SANDBOX (cutbox-rows.mjs): the forced cells as the released guide's own fill.sh prints them over the translation b4531b8ddd628af1… (all of the seat's roots in one cut). By AI agents, Wed Nov 11 2026. No macro, syntax, notation, axiom, sorry.
-/
import Derived.Test.YthhmgleopaojiaaChecked
import GoSem.Claim
import GoSem.ClaimJoined
import GoSem.ClaimMapViews
import Derived.JoinedTies
import Derived.KernelRfl
namespace Go.Proofs.Ythhmgleopaojiaa
/- THE CELL 'sum', in the pinned program and in every row, IS THE sha256 OF THE DUMP (.gsa) THAT YthhmgleopaojiaaProg.lean LOADS. Nothing in Lean hashes anything: it is a label: what it is worth is what the hold of that sum in a sandbox is worth. -/
noncomputable def Try.pinned : Pinned := { name := "ythhmgleopaojiaa", sum := "b4531b8ddd628af19e43f7bb2b1d0a55b2440499c11df3eee09de75ffca3f792", checked := Try.checked }
namespace Rows
def none {H : Type} : Left H := { results := [], args := [] }

/-- 'spruelaw8.KindsCounts': WHATEVER THE INPUT: true; the input reads as it did. -/
def kindsCountsSpec : ChangeSpec := { name := "kindsCounts", fn := fun _ => fun
  | [d1, d2] => { results := [.lit (.bool true)], args := [d1, d2] }
  | _ => none }
def kindsCountsRow : OpenClaim := { program := "ythhmgleopaojiaa", sum := "b4531b8ddd628af19e43f7bb2b1d0a55b2440499c11df3eee09de75ffca3f792", func := "sprue/spruelaw8.KindsCounts", spec := "kindsCounts", inPlace := ["internal/bytealg.IndexByteString", "internal/bytealg.IndexString"], unfollowed := true, recurses := true, named := ["internal/bytealg.MaxLen"], plainKeys := false, apart := false }
def KindsCountsSaid : Prop := kindsCountsRow.holds Try.pinned (OpenSpec.ofChange kindsCountsSpec)

/-- ITS FALSE NEIGHBOUR: 'it returns false'. Refute it at one input. -/
def kindsCountsWrong : ChangeSpec := { name := "kindsCounts", fn := fun _ => fun
  | [d1, d2] => { results := [.lit (.bool false)], args := [d1, d2] }
  | _ => none }
def KindsCountsWrongFalsely : Prop := kindsCountsRow.holds Try.pinned (OpenSpec.ofChange kindsCountsWrong)

/-- 'spruelaw8.KindsSigs': WHATEVER THE INPUT: true; the input reads as it did. -/
def kindsSigsSpec : ChangeSpec := { name := "kindsSigs", fn := fun _ => fun
  | [d1, d2, d3, d4] => { results := [.lit (.bool true)], args := [d1, d2, d3, d4] }
  | _ => none }
def kindsSigsRow : OpenClaim := { program := "ythhmgleopaojiaa", sum := "b4531b8ddd628af19e43f7bb2b1d0a55b2440499c11df3eee09de75ffca3f792", func := "sprue/spruelaw8.KindsSigs", spec := "kindsSigs", inPlace := ["internal/bytealg.IndexByteString", "internal/bytealg.IndexString"], unfollowed := true, recurses := true, named := ["internal/bytealg.MaxLen"], loops := true, plainKeys := false, apart := false }
def KindsSigsSaid : Prop := kindsSigsRow.holds Try.pinned (OpenSpec.ofChange kindsSigsSpec)

/-- ITS FALSE NEIGHBOUR: 'it returns false'. Refute it at one input. -/
def kindsSigsWrong : ChangeSpec := { name := "kindsSigs", fn := fun _ => fun
  | [d1, d2, d3, d4] => { results := [.lit (.bool false)], args := [d1, d2, d3, d4] }
  | _ => none }
def KindsSigsWrongFalsely : Prop := kindsSigsRow.holds Try.pinned (OpenSpec.ofChange kindsSigsWrong)

/-- 'spruelaw8.KindsNumbers': WHATEVER THE INPUT: true; the input reads as it did. -/
def kindsNumbersSpec : ChangeSpec := { name := "kindsNumbers", fn := fun _ => fun
  | [d1, d2, d3] => { results := [.lit (.bool true)], args := [d1, d2, d3] }
  | _ => none }
def kindsNumbersRow : OpenClaim := { program := "ythhmgleopaojiaa", sum := "b4531b8ddd628af19e43f7bb2b1d0a55b2440499c11df3eee09de75ffca3f792", func := "sprue/spruelaw8.KindsNumbers", spec := "kindsNumbers", inPlace := ["internal/bytealg.IndexByteString", "internal/bytealg.IndexString"], unfollowed := true, recurses := true, named := ["internal/bytealg.MaxLen"], plainKeys := false, apart := false }
def KindsNumbersSaid : Prop := kindsNumbersRow.holds Try.pinned (OpenSpec.ofChange kindsNumbersSpec)

/-- ITS FALSE NEIGHBOUR: 'it returns false'. Refute it at one input. -/
def kindsNumbersWrong : ChangeSpec := { name := "kindsNumbers", fn := fun _ => fun
  | [d1, d2, d3] => { results := [.lit (.bool false)], args := [d1, d2, d3] }
  | _ => none }
def KindsNumbersWrongFalsely : Prop := kindsNumbersRow.holds Try.pinned (OpenSpec.ofChange kindsNumbersWrong)

/-- 'spruelaw8.KindsOpts': WHATEVER THE INPUT: true; the input reads as it did. -/
def kindsOptsSpec : ChangeSpec := { name := "kindsOpts", fn := fun _ => fun
  | [d1, d2] => { results := [.lit (.bool true)], args := [d1, d2] }
  | _ => none }
def kindsOptsRow : OpenClaim := { program := "ythhmgleopaojiaa", sum := "b4531b8ddd628af19e43f7bb2b1d0a55b2440499c11df3eee09de75ffca3f792", func := "sprue/spruelaw8.KindsOpts", spec := "kindsOpts", inPlace := ["internal/bytealg.IndexByteString", "internal/bytealg.IndexString"], unfollowed := true, recurses := true, named := ["internal/bytealg.MaxLen"], loops := true, plainKeys := false, apart := false }
def KindsOptsSaid : Prop := kindsOptsRow.holds Try.pinned (OpenSpec.ofChange kindsOptsSpec)

/-- ITS FALSE NEIGHBOUR: 'it returns false'. Refute it at one input. -/
def kindsOptsWrong : ChangeSpec := { name := "kindsOpts", fn := fun _ => fun
  | [d1, d2] => { results := [.lit (.bool false)], args := [d1, d2] }
  | _ => none }
def KindsOptsWrongFalsely : Prop := kindsOptsRow.holds Try.pinned (OpenSpec.ofChange kindsOptsWrong)

/-- 'spruelaw8.KindsNamed': WHATEVER THE INPUT: true; the input reads as it did. -/
def kindsNamedSpec : ChangeSpec := { name := "kindsNamed", fn := fun _ => fun
  | [d1, d2] => { results := [.lit (.bool true)], args := [d1, d2] }
  | _ => none }
def kindsNamedRow : OpenClaim := { program := "ythhmgleopaojiaa", sum := "b4531b8ddd628af19e43f7bb2b1d0a55b2440499c11df3eee09de75ffca3f792", func := "sprue/spruelaw8.KindsNamed", spec := "kindsNamed", inPlace := ["internal/bytealg.IndexByteString", "internal/bytealg.IndexString"], unfollowed := true, recurses := true, named := ["internal/bytealg.MaxLen"], plainKeys := false, apart := false }
def KindsNamedSaid : Prop := kindsNamedRow.holds Try.pinned (OpenSpec.ofChange kindsNamedSpec)

/-- ITS FALSE NEIGHBOUR: 'it returns false'. Refute it at one input. -/
def kindsNamedWrong : ChangeSpec := { name := "kindsNamed", fn := fun _ => fun
  | [d1, d2] => { results := [.lit (.bool false)], args := [d1, d2] }
  | _ => none }
def KindsNamedWrongFalsely : Prop := kindsNamedRow.holds Try.pinned (OpenSpec.ofChange kindsNamedWrong)

/-- 'spruelaw8.KindsTable': WHATEVER THE INPUT: true; the input reads as it did. -/
def kindsTableSpec : ChangeSpec := { name := "kindsTable", fn := fun _ => fun
  | [d1, d2] => { results := [.lit (.bool true)], args := [d1, d2] }
  | _ => none }
def kindsTableRow : OpenClaim := { program := "ythhmgleopaojiaa", sum := "b4531b8ddd628af19e43f7bb2b1d0a55b2440499c11df3eee09de75ffca3f792", func := "sprue/spruelaw8.KindsTable", spec := "kindsTable", inPlace := ["internal/bytealg.IndexByteString", "internal/bytealg.IndexString"], unfollowed := true, recurses := true, named := ["internal/bytealg.MaxLen"], plainKeys := false, apart := false }
def KindsTableSaid : Prop := kindsTableRow.holds Try.pinned (OpenSpec.ofChange kindsTableSpec)

/-- ITS FALSE NEIGHBOUR: 'it returns false'. Refute it at one input. -/
def kindsTableWrong : ChangeSpec := { name := "kindsTable", fn := fun _ => fun
  | [d1, d2] => { results := [.lit (.bool false)], args := [d1, d2] }
  | _ => none }
def KindsTableWrongFalsely : Prop := kindsTableRow.holds Try.pinned (OpenSpec.ofChange kindsTableWrong)

/- THE SECOND FORM. 'bulk': how many values and letters a reading holds, each counted each time it is reached (what is shared counts as often as it is met; a slice's spare places count too). A statement '..UptoSaid' is the law's where the arguments, and the package variables that the reading takes, are together of bulk at most 1048576: NARROWER than '..Said'. Prove '..Said' where nothing that the law and all that it calls make is longer than what came in: it says more and counts as full. Else prove '..UptoSaid'. A law counts once. -/
mutual
def uptoBulk {H : Type} : DataW H → Nat
  | .lit (.string bytes) => bytes.length + 1
  | .lit _ => 1
  | .nil => 1
  | .ptr d => uptoBulk d + 1
  | .slice elems spare => uptoBulkAll elems + uptoBulkAll spare + 1
  | .agg parts => uptoBulkAll parts + 1
  | .iface _ d => uptoBulk d + 1
  | .map entries => uptoBulkEntries entries + 1
  | .held _ => 1
def uptoBulkAll {H : Type} : List (DataW H) → Nat
  | [] => 0
  | d :: r => uptoBulk d + uptoBulkAll r
def uptoBulkEntries {H : Type} : List (Lit × DataW H) → Nat
  | [] => 0
  | x :: r => uptoBulkEntry x + uptoBulkEntries r
def uptoBulkEntry {H : Type} : Lit × DataW H → Nat
  | (.string bytes, d) => bytes.length + uptoBulk d + 1
  | (_, d) => uptoBulk d + 1
 end
def uptoSmall : (H : Type) → List (DataW H) → Bool := fun _ ds => decide (uptoBulkAll ds ≤ 1048576)
def OpenSpec.upto (s : _root_.Go.ChangeSpec) : _root_.Go.OpenSpec := { _root_.Go.OpenSpec.ofChange s with cond := some uptoSmall }

/-- 'spruelaw8.KindsCounts', WHERE WHAT IT READS IS OF BULK AT MOST 1048576: true; the input reads as it did. -/
def kindsCountsUptoRow : OpenClaim := { program := "ythhmgleopaojiaa", sum := "b4531b8ddd628af19e43f7bb2b1d0a55b2440499c11df3eee09de75ffca3f792", func := "sprue/spruelaw8.KindsCounts", spec := "kindsCounts", inPlace := ["internal/bytealg.IndexByteString", "internal/bytealg.IndexString"], unfollowed := true, recurses := true, named := ["internal/bytealg.MaxLen"], plainKeys := false, apart := false, narrowed := true }
def KindsCountsUptoSaid : Prop := kindsCountsUptoRow.holds Try.pinned (OpenSpec.upto kindsCountsSpec)

/-- 'spruelaw8.KindsSigs', WHERE WHAT IT READS IS OF BULK AT MOST 1048576: true; the input reads as it did. -/
def kindsSigsUptoRow : OpenClaim := { program := "ythhmgleopaojiaa", sum := "b4531b8ddd628af19e43f7bb2b1d0a55b2440499c11df3eee09de75ffca3f792", func := "sprue/spruelaw8.KindsSigs", spec := "kindsSigs", inPlace := ["internal/bytealg.IndexByteString", "internal/bytealg.IndexString"], unfollowed := true, recurses := true, named := ["internal/bytealg.MaxLen"], loops := true, plainKeys := false, apart := false, narrowed := true }
def KindsSigsUptoSaid : Prop := kindsSigsUptoRow.holds Try.pinned (OpenSpec.upto kindsSigsSpec)

/-- 'spruelaw8.KindsNumbers', WHERE WHAT IT READS IS OF BULK AT MOST 1048576: true; the input reads as it did. -/
def kindsNumbersUptoRow : OpenClaim := { program := "ythhmgleopaojiaa", sum := "b4531b8ddd628af19e43f7bb2b1d0a55b2440499c11df3eee09de75ffca3f792", func := "sprue/spruelaw8.KindsNumbers", spec := "kindsNumbers", inPlace := ["internal/bytealg.IndexByteString", "internal/bytealg.IndexString"], unfollowed := true, recurses := true, named := ["internal/bytealg.MaxLen"], plainKeys := false, apart := false, narrowed := true }
def KindsNumbersUptoSaid : Prop := kindsNumbersUptoRow.holds Try.pinned (OpenSpec.upto kindsNumbersSpec)

/-- 'spruelaw8.KindsOpts', WHERE WHAT IT READS IS OF BULK AT MOST 1048576: true; the input reads as it did. -/
def kindsOptsUptoRow : OpenClaim := { program := "ythhmgleopaojiaa", sum := "b4531b8ddd628af19e43f7bb2b1d0a55b2440499c11df3eee09de75ffca3f792", func := "sprue/spruelaw8.KindsOpts", spec := "kindsOpts", inPlace := ["internal/bytealg.IndexByteString", "internal/bytealg.IndexString"], unfollowed := true, recurses := true, named := ["internal/bytealg.MaxLen"], loops := true, plainKeys := false, apart := false, narrowed := true }
def KindsOptsUptoSaid : Prop := kindsOptsUptoRow.holds Try.pinned (OpenSpec.upto kindsOptsSpec)

/-- 'spruelaw8.KindsNamed', WHERE WHAT IT READS IS OF BULK AT MOST 1048576: true; the input reads as it did. -/
def kindsNamedUptoRow : OpenClaim := { program := "ythhmgleopaojiaa", sum := "b4531b8ddd628af19e43f7bb2b1d0a55b2440499c11df3eee09de75ffca3f792", func := "sprue/spruelaw8.KindsNamed", spec := "kindsNamed", inPlace := ["internal/bytealg.IndexByteString", "internal/bytealg.IndexString"], unfollowed := true, recurses := true, named := ["internal/bytealg.MaxLen"], plainKeys := false, apart := false, narrowed := true }
def KindsNamedUptoSaid : Prop := kindsNamedUptoRow.holds Try.pinned (OpenSpec.upto kindsNamedSpec)

/-- 'spruelaw8.KindsTable', WHERE WHAT IT READS IS OF BULK AT MOST 1048576: true; the input reads as it did. -/
def kindsTableUptoRow : OpenClaim := { program := "ythhmgleopaojiaa", sum := "b4531b8ddd628af19e43f7bb2b1d0a55b2440499c11df3eee09de75ffca3f792", func := "sprue/spruelaw8.KindsTable", spec := "kindsTable", inPlace := ["internal/bytealg.IndexByteString", "internal/bytealg.IndexString"], unfollowed := true, recurses := true, named := ["internal/bytealg.MaxLen"], plainKeys := false, apart := false, narrowed := true }
def KindsTableUptoSaid : Prop := kindsTableUptoRow.holds Try.pinned (OpenSpec.upto kindsTableSpec)

end Rows
end Go.Proofs.Ythhmgleopaojiaa
