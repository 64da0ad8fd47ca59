/-
  No cell of these rows narrows 'for every input' (looked for: loops, veiled, ifaces, maps, wideKeys, modest, calm, conditions, laid).
  DERIVED. THE GIVEN ROWS OF THIS SEAT. 3 by the template 'for every input the law returns true; each argument reads behind the call as it read before'; 0 by the template 'total and deterministic' (their statements: YtdjcdbkbmphmiaaGreatTotals.lean).
  GIVEN WITH THE SEED: the statements are not yours to turn. If you find one false, say at which input.
  Laid BY PROGRAM, IN A SANDBOX (cutbox-rows.mjs): the forced cells as the released guide's own fill.sh prints them over the translation 3201e0010f686acd… (all of the seat's roots in one cut). By AI agents, Wed Nov 11 2026. No macro, syntax, notation, axiom, sorry.
-/
import Derived.Test.YtdjcdbkbmphmiaaGreatChecked
import GoSem.Claim
import GoSem.ClaimJoined
import GoSem.ClaimMapViews
import Derived.JoinedTies
import Derived.KernelRfl
namespace Go.Proofs.YtdjcdbkbmphmiaaGreat
/- THE CELL 'sum', in the pinned program and in every row, IS THE sha256 OF THE DUMP (.gsa) THAT YtdjcdbkbmphmiaaGreatProg.lean LOADS. Nothing in Lean hashes anything: it is a label: what it is worth is what the hold of that sum in a sandbox is worth. -/
noncomputable def Tryz.pinned : Pinned := { name := "ytdjcdbkbmphmiaagreat", sum := "3201e0010f686acd71031c3c4526a04f785610c57cda6df8f5a2b2446e99ad9f", checked := Tryz.checked }
namespace Rows
def none {H : Type} : Left H := { results := [], args := [] }

/-- 'spruelaw11.SigsFaults': WHATEVER THE INPUT: true; the input reads as it did. -/
def sigsFaultsSpec : ChangeSpec := { name := "sigsFaults", fn := fun _ => fun
  | [d] => { results := [.lit (.bool true)], args := [d] }
  | _ => none }
def sigsFaultsRow : OpenClaim := { program := "ytdjcdbkbmphmiaagreat", sum := "3201e0010f686acd71031c3c4526a04f785610c57cda6df8f5a2b2446e99ad9f", func := "sprue/spruelaw11.SigsFaults", spec := "sigsFaults", inPlace := ["internal/bytealg.IndexByteString", "internal/bytealg.IndexString"], unfollowed := true, recurses := true, named := ["internal/bytealg.MaxLen"], plainKeys := false, apart := false }
def SigsFaultsSaid : Prop := sigsFaultsRow.holds Tryz.pinned (OpenSpec.ofChange sigsFaultsSpec)

/-- ITS FALSE NEIGHBOUR: 'it returns false'. Refute it at one input. -/
def sigsFaultsWrong : ChangeSpec := { name := "sigsFaults", fn := fun _ => fun
  | [d] => { results := [.lit (.bool false)], args := [d] }
  | _ => none }
def SigsFaultsWrongFalsely : Prop := sigsFaultsRow.holds Tryz.pinned (OpenSpec.ofChange sigsFaultsWrong)

/-- 'spruelaw11.SigsGrow': WHATEVER THE INPUT: true; the input reads as it did. -/
def sigsGrowSpec : ChangeSpec := { name := "sigsGrow", fn := fun _ => fun
  | [d1, d2] => { results := [.lit (.bool true)], args := [d1, d2] }
  | _ => none }
def sigsGrowRow : OpenClaim := { program := "ytdjcdbkbmphmiaagreat", sum := "3201e0010f686acd71031c3c4526a04f785610c57cda6df8f5a2b2446e99ad9f", func := "sprue/spruelaw11.SigsGrow", spec := "sigsGrow", inPlace := ["internal/bytealg.IndexByteString", "internal/bytealg.IndexString"], unfollowed := true, recurses := true, named := ["internal/bytealg.MaxLen"], plainKeys := false, apart := false }
def SigsGrowSaid : Prop := sigsGrowRow.holds Tryz.pinned (OpenSpec.ofChange sigsGrowSpec)

/-- ITS FALSE NEIGHBOUR: 'it returns false'. Refute it at one input. -/
def sigsGrowWrong : ChangeSpec := { name := "sigsGrow", fn := fun _ => fun
  | [d1, d2] => { results := [.lit (.bool false)], args := [d1, d2] }
  | _ => none }
def SigsGrowWrongFalsely : Prop := sigsGrowRow.holds Tryz.pinned (OpenSpec.ofChange sigsGrowWrong)

/-- 'spruelaw11.SigsTypes': WHATEVER THE INPUT: true; the input reads as it did. -/
def sigsTypesSpec : ChangeSpec := { name := "sigsTypes", fn := fun _ => fun
  | [d1, d2] => { results := [.lit (.bool true)], args := [d1, d2] }
  | _ => none }
def sigsTypesRow : OpenClaim := { program := "ytdjcdbkbmphmiaagreat", sum := "3201e0010f686acd71031c3c4526a04f785610c57cda6df8f5a2b2446e99ad9f", func := "sprue/spruelaw11.SigsTypes", spec := "sigsTypes", inPlace := ["internal/bytealg.IndexByteString", "internal/bytealg.IndexString"], unfollowed := true, recurses := true, named := ["internal/bytealg.MaxLen"], plainKeys := false, apart := false }
def SigsTypesSaid : Prop := sigsTypesRow.holds Tryz.pinned (OpenSpec.ofChange sigsTypesSpec)

/-- ITS FALSE NEIGHBOUR: 'it returns false'. Refute it at one input. -/
def sigsTypesWrong : ChangeSpec := { name := "sigsTypes", fn := fun _ => fun
  | [d1, d2] => { results := [.lit (.bool false)], args := [d1, d2] }
  | _ => none }
def SigsTypesWrongFalsely : Prop := sigsTypesRow.holds Tryz.pinned (OpenSpec.ofChange sigsTypesWrong)

/- THE SECOND FORM. 'bulk': how many values and letters a reading holds, each counted each time it is reached (what is shared counts as often as it is met; a slice's spare places count too). A statement '..UptoSaid' is the law's where the arguments, and the package variables that the reading takes, are together of bulk at most 1048576: NARROWER than '..Said'. Prove '..Said' where nothing that the law and all that it calls make is longer than what came in: it says more and counts as full. Else prove '..UptoSaid'. A law counts once. -/
mutual
def uptoBulk {H : Type} : DataW H → Nat
  | .lit (.string bytes) => bytes.length + 1
  | .lit _ => 1
  | .nil => 1
  | .ptr d => uptoBulk d + 1
  | .slice elems spare => uptoBulkAll elems + uptoBulkAll spare + 1
  | .agg parts => uptoBulkAll parts + 1
  | .iface _ d => uptoBulk d + 1
  | .map entries => uptoBulkEntries entries + 1
  | .held _ => 1
def uptoBulkAll {H : Type} : List (DataW H) → Nat
  | [] => 0
  | d :: r => uptoBulk d + uptoBulkAll r
def uptoBulkEntries {H : Type} : List (Lit × DataW H) → Nat
  | [] => 0
  | x :: r => uptoBulkEntry x + uptoBulkEntries r
def uptoBulkEntry {H : Type} : Lit × DataW H → Nat
  | (.string bytes, d) => bytes.length + uptoBulk d + 1
  | (_, d) => uptoBulk d + 1
 end
def uptoSmall : (H : Type) → List (DataW H) → Bool := fun _ ds => decide (uptoBulkAll ds ≤ 1048576)
def OpenSpec.upto (s : _root_.Go.ChangeSpec) : _root_.Go.OpenSpec := { _root_.Go.OpenSpec.ofChange s with cond := some uptoSmall }

/-- 'spruelaw11.SigsFaults', WHERE WHAT IT READS IS OF BULK AT MOST 1048576: true; the input reads as it did. -/
def sigsFaultsUptoRow : OpenClaim := { program := "ytdjcdbkbmphmiaagreat", sum := "3201e0010f686acd71031c3c4526a04f785610c57cda6df8f5a2b2446e99ad9f", func := "sprue/spruelaw11.SigsFaults", spec := "sigsFaults", inPlace := ["internal/bytealg.IndexByteString", "internal/bytealg.IndexString"], unfollowed := true, recurses := true, named := ["internal/bytealg.MaxLen"], plainKeys := false, apart := false, narrowed := true }
def SigsFaultsUptoSaid : Prop := sigsFaultsUptoRow.holds Tryz.pinned (OpenSpec.upto sigsFaultsSpec)

/-- 'spruelaw11.SigsGrow', WHERE WHAT IT READS IS OF BULK AT MOST 1048576: true; the input reads as it did. -/
def sigsGrowUptoRow : OpenClaim := { program := "ytdjcdbkbmphmiaagreat", sum := "3201e0010f686acd71031c3c4526a04f785610c57cda6df8f5a2b2446e99ad9f", func := "sprue/spruelaw11.SigsGrow", spec := "sigsGrow", inPlace := ["internal/bytealg.IndexByteString", "internal/bytealg.IndexString"], unfollowed := true, recurses := true, named := ["internal/bytealg.MaxLen"], plainKeys := false, apart := false, narrowed := true }
def SigsGrowUptoSaid : Prop := sigsGrowUptoRow.holds Tryz.pinned (OpenSpec.upto sigsGrowSpec)

/-- 'spruelaw11.SigsTypes', WHERE WHAT IT READS IS OF BULK AT MOST 1048576: true; the input reads as it did. -/
def sigsTypesUptoRow : OpenClaim := { program := "ytdjcdbkbmphmiaagreat", sum := "3201e0010f686acd71031c3c4526a04f785610c57cda6df8f5a2b2446e99ad9f", func := "sprue/spruelaw11.SigsTypes", spec := "sigsTypes", inPlace := ["internal/bytealg.IndexByteString", "internal/bytealg.IndexString"], unfollowed := true, recurses := true, named := ["internal/bytealg.MaxLen"], plainKeys := false, apart := false, narrowed := true }
def SigsTypesUptoSaid : Prop := sigsTypesUptoRow.holds Tryz.pinned (OpenSpec.upto sigsTypesSpec)

end Rows
end Go.Proofs.YtdjcdbkbmphmiaaGreat
