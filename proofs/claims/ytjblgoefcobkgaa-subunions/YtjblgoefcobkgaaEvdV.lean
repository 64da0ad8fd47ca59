/- 'SubWidth', plainly. -/
import Derived.Test.YtjblgoefcobkgaaEvd9
namespace Eva
open Go Go.RowKit
set_option linter.unusedVariables false
set_option maxRecDepth 100000
def xsOf (l : List Bool) : List Nat → List Str
  | [] => []
  | k :: r => if l.getD k false then [UInt8.ofNat (97 + k)] :: xsOf l r else xsOf l r
def hasW (zs : List Int) (k : Nat) : Bool := (zs.take 20).any fun z => decide (z % 8 = (k : Int))
def xsW (zs : List Int) : Nat → List Str
  | 0 => []
  | k + 1 => if hasW zs k = true then xsW zs k ++ [[UInt8.ofNat (97 + k)]] else xsW zs k
theorem xsW_len (zs : List Int) : ∀ k, (xsW zs k).length ≤ k
  | 0 => Nat.le_refl 0
  | k + 1 => by
    have := xsW_len zs k
    rw [xsW]
    split
    · simp; omega
    · omega
theorem xs_eq (zs : List Int) : xsW zs 8 = xsOf [hasW zs 0, hasW zs 1, hasW zs 2, hasW zs 3, hasW zs 4, hasW zs 5, hasW zs 6, hasW zs 7] [0, 1, 2, 3, 4, 5, 6, 7] := by
  have key : ∀ a b c d e f g h : Bool, (let x1 : List Str := if a = true then [] ++ [[UInt8.ofNat (97 + 0)]] else []
      let x2 := if b = true then x1 ++ [[UInt8.ofNat (97 + 1)]] else x1
      let x3 := if c = true then x2 ++ [[UInt8.ofNat (97 + 2)]] else x2
      let x4 := if d = true then x3 ++ [[UInt8.ofNat (97 + 3)]] else x3
      let x5 := if e = true then x4 ++ [[UInt8.ofNat (97 + 4)]] else x4
      let x6 := if f = true then x5 ++ [[UInt8.ofNat (97 + 5)]] else x5
      let x7 := if g = true then x6 ++ [[UInt8.ofNat (97 + 6)]] else x6
      if h = true then x7 ++ [[UInt8.ofNat (97 + 7)]] else x7) = xsOf [a, b, c, d, e, f, g, h] [0, 1, 2, 3, 4, 5, 6, 7] := by decide +kernel
  exact key _ _ _ _ _ _ _ _
end Eva
