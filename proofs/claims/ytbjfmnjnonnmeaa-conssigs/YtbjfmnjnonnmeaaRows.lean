/-
  NARROWER THAN 'FOR EVERY INPUT', by the rows' own cells (each row's printed sentence says how): ConsOpens: loops · ConsTrees: loops · ConsSigs: loops · ConsBases: loops.
  DERIVED. THE GIVEN ROWS OF THIS SEAT. 4 by the template 'for every input the law returns true; each argument reads behind the call as it read before'; 0 by the template 'total and deterministic' (their statements: YtbjfmnjnonnmeaaTotals.lean).
  GIVEN WITH THE SEED: the statements are not yours to turn. If you find one false, say at which input.
  Laid BY PROGRAM, IN A SANDBOX (cutbox-rows.mjs): the forced cells as the released guide's own fill.sh prints them over the translation 46bc145a7e0d5c68… (all of the seat's roots in one cut). By AI agents, Wed Nov 11 2026. No macro, syntax, notation, axiom, sorry.
-/
import Derived.Test.YtbjfmnjnonnmeaaChecked
import GoSem.Claim
import GoSem.ClaimJoined
import GoSem.ClaimMapViews
import Derived.JoinedTies
import Derived.KernelRfl
namespace Go.Proofs.Ytbjfmnjnonnmeaa
/- THE CELL 'sum', in the pinned program and in every row, IS THE sha256 OF THE DUMP (.gsa) THAT YtbjfmnjnonnmeaaProg.lean LOADS. Nothing in Lean hashes anything: it is a label: what it is worth is what the hold of that sum in a sandbox is worth. -/
noncomputable def Try.pinned : Pinned := { name := "ytbjfmnjnonnmeaa", sum := "46bc145a7e0d5c681a77169ef1df4456edf29b7269c7d6c10ca1d89aadd33dc9", checked := Try.checked }
namespace Rows
def none {H : Type} : Left H := { results := [], args := [] }

/-- 'spruelaw5.ConsOpens': WHATEVER THE INPUT: true; the input reads as it did. -/
def consOpensSpec : ChangeSpec := { name := "consOpens", fn := fun _ => fun
  | [d1, d2] => { results := [.lit (.bool true)], args := [d1, d2] }
  | _ => none }
def consOpensRow : OpenClaim := { program := "ytbjfmnjnonnmeaa", sum := "46bc145a7e0d5c681a77169ef1df4456edf29b7269c7d6c10ca1d89aadd33dc9", func := "sprue/spruelaw5.ConsOpens", spec := "consOpens", inPlace := ["internal/bytealg.IndexByteString", "internal/bytealg.IndexString"], unfollowed := true, recurses := true, named := ["internal/bytealg.MaxLen"], loops := true, plainKeys := false, apart := false }
def ConsOpensSaid : Prop := consOpensRow.holds Try.pinned (OpenSpec.ofChange consOpensSpec)

/-- ITS FALSE NEIGHBOUR: 'it returns false'. Refute it at one input. -/
def consOpensWrong : ChangeSpec := { name := "consOpens", fn := fun _ => fun
  | [d1, d2] => { results := [.lit (.bool false)], args := [d1, d2] }
  | _ => none }
def ConsOpensWrongFalsely : Prop := consOpensRow.holds Try.pinned (OpenSpec.ofChange consOpensWrong)

/-- 'spruelaw5.ConsTrees': WHATEVER THE INPUT: true; the input reads as it did. -/
def consTreesSpec : ChangeSpec := { name := "consTrees", fn := fun _ => fun
  | [d1, d2, d3] => { results := [.lit (.bool true)], args := [d1, d2, d3] }
  | _ => none }
def consTreesRow : OpenClaim := { program := "ytbjfmnjnonnmeaa", sum := "46bc145a7e0d5c681a77169ef1df4456edf29b7269c7d6c10ca1d89aadd33dc9", func := "sprue/spruelaw5.ConsTrees", spec := "consTrees", inPlace := ["internal/bytealg.IndexByteString", "internal/bytealg.IndexString"], unfollowed := true, recurses := true, named := ["internal/bytealg.MaxLen"], loops := true, plainKeys := false, apart := false }
def ConsTreesSaid : Prop := consTreesRow.holds Try.pinned (OpenSpec.ofChange consTreesSpec)

/-- ITS FALSE NEIGHBOUR: 'it returns false'. Refute it at one input. -/
def consTreesWrong : ChangeSpec := { name := "consTrees", fn := fun _ => fun
  | [d1, d2, d3] => { results := [.lit (.bool false)], args := [d1, d2, d3] }
  | _ => none }
def ConsTreesWrongFalsely : Prop := consTreesRow.holds Try.pinned (OpenSpec.ofChange consTreesWrong)

/-- 'spruelaw5.ConsSigs': WHATEVER THE INPUT: true; the input reads as it did. -/
def consSigsSpec : ChangeSpec := { name := "consSigs", fn := fun _ => fun
  | [d1, d2, d3, d4] => { results := [.lit (.bool true)], args := [d1, d2, d3, d4] }
  | _ => none }
def consSigsRow : OpenClaim := { program := "ytbjfmnjnonnmeaa", sum := "46bc145a7e0d5c681a77169ef1df4456edf29b7269c7d6c10ca1d89aadd33dc9", func := "sprue/spruelaw5.ConsSigs", spec := "consSigs", inPlace := ["internal/bytealg.IndexByteString", "internal/bytealg.IndexString"], unfollowed := true, recurses := true, named := ["internal/bytealg.MaxLen"], loops := true, plainKeys := false, apart := false }
def ConsSigsSaid : Prop := consSigsRow.holds Try.pinned (OpenSpec.ofChange consSigsSpec)

/-- ITS FALSE NEIGHBOUR: 'it returns false'. Refute it at one input. -/
def consSigsWrong : ChangeSpec := { name := "consSigs", fn := fun _ => fun
  | [d1, d2, d3, d4] => { results := [.lit (.bool false)], args := [d1, d2, d3, d4] }
  | _ => none }
def ConsSigsWrongFalsely : Prop := consSigsRow.holds Try.pinned (OpenSpec.ofChange consSigsWrong)

/-- 'spruelaw5.ConsBases': WHATEVER THE INPUT: true; the input reads as it did. -/
def consBasesSpec : ChangeSpec := { name := "consBases", fn := fun _ => fun
  | [d1, d2, d3] => { results := [.lit (.bool true)], args := [d1, d2, d3] }
  | _ => none }
def consBasesRow : OpenClaim := { program := "ytbjfmnjnonnmeaa", sum := "46bc145a7e0d5c681a77169ef1df4456edf29b7269c7d6c10ca1d89aadd33dc9", func := "sprue/spruelaw5.ConsBases", spec := "consBases", inPlace := ["internal/bytealg.IndexByteString", "internal/bytealg.IndexString"], unfollowed := true, recurses := true, named := ["internal/bytealg.MaxLen"], loops := true, plainKeys := false, apart := false }
def ConsBasesSaid : Prop := consBasesRow.holds Try.pinned (OpenSpec.ofChange consBasesSpec)

/-- ITS FALSE NEIGHBOUR: 'it returns false'. Refute it at one input. -/
def consBasesWrong : ChangeSpec := { name := "consBases", fn := fun _ => fun
  | [d1, d2, d3] => { results := [.lit (.bool false)], args := [d1, d2, d3] }
  | _ => none }
def ConsBasesWrongFalsely : Prop := consBasesRow.holds Try.pinned (OpenSpec.ofChange consBasesWrong)

/- THE SECOND FORM. 'bulk': how many values and letters a reading holds, each counted each time it is reached (what is shared counts as often as it is met; a slice's spare places count too). A statement '..UptoSaid' is the law's where the arguments, and the package variables that the reading takes, are together of bulk at most 1048576: NARROWER than '..Said'. Prove '..Said' where nothing that the law and all that it calls make is longer than what came in: it says more and counts as full. Else prove '..UptoSaid'. A law counts once. -/
mutual
def uptoBulk {H : Type} : DataW H → Nat
  | .lit (.string bytes) => bytes.length + 1
  | .lit _ => 1
  | .nil => 1
  | .ptr d => uptoBulk d + 1
  | .slice elems spare => uptoBulkAll elems + uptoBulkAll spare + 1
  | .agg parts => uptoBulkAll parts + 1
  | .iface _ d => uptoBulk d + 1
  | .map entries => uptoBulkEntries entries + 1
  | .held _ => 1
def uptoBulkAll {H : Type} : List (DataW H) → Nat
  | [] => 0
  | d :: r => uptoBulk d + uptoBulkAll r
def uptoBulkEntries {H : Type} : List (Lit × DataW H) → Nat
  | [] => 0
  | x :: r => uptoBulkEntry x + uptoBulkEntries r
def uptoBulkEntry {H : Type} : Lit × DataW H → Nat
  | (.string bytes, d) => bytes.length + uptoBulk d + 1
  | (_, d) => uptoBulk d + 1
 end
def uptoSmall : (H : Type) → List (DataW H) → Bool := fun _ ds => decide (uptoBulkAll ds ≤ 1048576)
def OpenSpec.upto (s : _root_.Go.ChangeSpec) : _root_.Go.OpenSpec := { _root_.Go.OpenSpec.ofChange s with cond := some uptoSmall }

/-- 'spruelaw5.ConsOpens', WHERE WHAT IT READS IS OF BULK AT MOST 1048576: true; the input reads as it did. -/
def consOpensUptoRow : OpenClaim := { program := "ytbjfmnjnonnmeaa", sum := "46bc145a7e0d5c681a77169ef1df4456edf29b7269c7d6c10ca1d89aadd33dc9", func := "sprue/spruelaw5.ConsOpens", spec := "consOpens", inPlace := ["internal/bytealg.IndexByteString", "internal/bytealg.IndexString"], unfollowed := true, recurses := true, named := ["internal/bytealg.MaxLen"], loops := true, plainKeys := false, apart := false, narrowed := true }
def ConsOpensUptoSaid : Prop := consOpensUptoRow.holds Try.pinned (OpenSpec.upto consOpensSpec)

/-- 'spruelaw5.ConsTrees', WHERE WHAT IT READS IS OF BULK AT MOST 1048576: true; the input reads as it did. -/
def consTreesUptoRow : OpenClaim := { program := "ytbjfmnjnonnmeaa", sum := "46bc145a7e0d5c681a77169ef1df4456edf29b7269c7d6c10ca1d89aadd33dc9", func := "sprue/spruelaw5.ConsTrees", spec := "consTrees", inPlace := ["internal/bytealg.IndexByteString", "internal/bytealg.IndexString"], unfollowed := true, recurses := true, named := ["internal/bytealg.MaxLen"], loops := true, plainKeys := false, apart := false, narrowed := true }
def ConsTreesUptoSaid : Prop := consTreesUptoRow.holds Try.pinned (OpenSpec.upto consTreesSpec)

/-- 'spruelaw5.ConsSigs', WHERE WHAT IT READS IS OF BULK AT MOST 1048576: true; the input reads as it did. -/
def consSigsUptoRow : OpenClaim := { program := "ytbjfmnjnonnmeaa", sum := "46bc145a7e0d5c681a77169ef1df4456edf29b7269c7d6c10ca1d89aadd33dc9", func := "sprue/spruelaw5.ConsSigs", spec := "consSigs", inPlace := ["internal/bytealg.IndexByteString", "internal/bytealg.IndexString"], unfollowed := true, recurses := true, named := ["internal/bytealg.MaxLen"], loops := true, plainKeys := false, apart := false, narrowed := true }
def ConsSigsUptoSaid : Prop := consSigsUptoRow.holds Try.pinned (OpenSpec.upto consSigsSpec)

/-- 'spruelaw5.ConsBases', WHERE WHAT IT READS IS OF BULK AT MOST 1048576: true; the input reads as it did. -/
def consBasesUptoRow : OpenClaim := { program := "ytbjfmnjnonnmeaa", sum := "46bc145a7e0d5c681a77169ef1df4456edf29b7269c7d6c10ca1d89aadd33dc9", func := "sprue/spruelaw5.ConsBases", spec := "consBases", inPlace := ["internal/bytealg.IndexByteString", "internal/bytealg.IndexString"], unfollowed := true, recurses := true, named := ["internal/bytealg.MaxLen"], loops := true, plainKeys := false, apart := false, narrowed := true }
def ConsBasesUptoSaid : Prop := consBasesUptoRow.holds Try.pinned (OpenSpec.upto consBasesSpec)

end Rows
end Go.Proofs.Ytbjfmnjnonnmeaa
