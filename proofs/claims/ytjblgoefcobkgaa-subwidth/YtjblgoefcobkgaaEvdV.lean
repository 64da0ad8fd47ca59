/- 'SubWidth', plainly. -/
import Derived.Test.YtjblgoefcobkgaaEvd9
namespace Eva
open Go Go.RowKit
set_option linter.unusedVariables false
set_option maxRecDepth 100000
def tb0 : Tb := ⟨[⟨2, [], [], []⟩], [], 0, []⟩
def xsOf (l : List Bool) : List Nat → List Str
  | [] => []
  | k :: r => if l.getD k false then [UInt8.ofNat (97 + k)] :: xsOf l r else xsOf l r
def lawX (xs : List Str) (j : Nat) (u : Bool) : Bool :=
  let kd : Int := if u = true then 8 else 7
  let a := addT (.mk kd [] xs (List.replicate xs.length (.mk 1 [] [] []))) 400 tb0
  let b := addT (.mk kd [] (xs.take j ++ xs.drop (j + 1)) (List.replicate (xs.length - 1) (.mk 1 [] [] []))) 400 a.1
  let o := layS b.1 ⟨6, [], [], [a.2.1]⟩
  match fitsS o.1 60 [] a.2.1 b.2.1, fitsS o.1 60 [] b.2.1 a.2.1, fitsS o.1 60 [] a.2.1 o.2.1, fitsS o.1 60 [] o.2.1 a.2.1 with
  | some p, some q, some r, some s => (if u then q.1 && !p.1 else p.1 && !q.1) && r.1 && !s.1 && decide (a.2.1 < o.1.nodes.length) && decide (b.2.1 < o.1.nodes.length) && decide (o.2.1 < o.1.nodes.length)
  | _, _, _, _ => false
def lawWB (l : List Bool) (k : Nat) (u : Bool) : Bool :=
  let xs := xsOf l [0, 1, 2, 3, 4, 5, 6, 7]
  if xs.length < 2 then true else if xs.length ≤ k then true else lawX xs k u
theorem lawW_falsefalsefalse : ∀ (c d e f g h : Bool) (k : Fin 8), lawWB [false, false, c, d, e, f, g, h] k.1 false = true := by decide +kernel
theorem lawW_falsefalsetrue : ∀ (c d e f g h : Bool) (k : Fin 8), lawWB [false, false, c, d, e, f, g, h] k.1 true = true := by decide +kernel
theorem lawW_falsetruefalse : ∀ (c d e f g h : Bool) (k : Fin 8), lawWB [false, true, c, d, e, f, g, h] k.1 false = true := by decide +kernel
theorem lawW_falsetruetrue : ∀ (c d e f g h : Bool) (k : Fin 8), lawWB [false, true, c, d, e, f, g, h] k.1 true = true := by decide +kernel
theorem lawW_truefalsefalse : ∀ (c d e f g h : Bool) (k : Fin 8), lawWB [true, false, c, d, e, f, g, h] k.1 false = true := by decide +kernel
theorem lawW_truefalsetrue : ∀ (c d e f g h : Bool) (k : Fin 8), lawWB [true, false, c, d, e, f, g, h] k.1 true = true := by decide +kernel
theorem lawW_truetruefalse : ∀ (c d e f g h : Bool) (k : Fin 8), lawWB [true, true, c, d, e, f, g, h] k.1 false = true := by decide +kernel
theorem lawW_truetruetrue : ∀ (c d e f g h : Bool) (k : Fin 8), lawWB [true, true, c, d, e, f, g, h] k.1 true = true := by decide +kernel
theorem lawW_all (a b c d e f g h : Bool) (k : Nat) (hk : k < 8) (u : Bool) : lawWB [a, b, c, d, e, f, g, h] k u = true := by
  cases a <;> cases b <;> cases u
  · exact lawW_falsefalsefalse c d e f g h ⟨k, hk⟩
  · exact lawW_falsefalsetrue c d e f g h ⟨k, hk⟩
  · exact lawW_falsetruefalse c d e f g h ⟨k, hk⟩
  · exact lawW_falsetruetrue c d e f g h ⟨k, hk⟩
  · exact lawW_truefalsefalse c d e f g h ⟨k, hk⟩
  · exact lawW_truefalsetrue c d e f g h ⟨k, hk⟩
  · exact lawW_truetruefalse c d e f g h ⟨k, hk⟩
  · exact lawW_truetruetrue c d e f g h ⟨k, hk⟩
def hasW (zs : List Int) (k : Nat) : Bool := (zs.take 20).any fun z => decide (z % 8 = (k : Int))
def xsW (zs : List Int) : Nat → List Str
  | 0 => []
  | k + 1 => if hasW zs k = true then xsW zs k ++ [[UInt8.ofNat (97 + k)]] else xsW zs k
def boolW : List V := [.int .i64 1, ofL [], .snil, .snil]
theorem xsW_len (zs : List Int) : ∀ k, (xsW zs k).length ≤ k
  | 0 => Nat.le_refl 0
  | k + 1 => by
    have := xsW_len zs k
    rw [xsW]
    split
    · simp; omega
    · omega
abbrev kdW (u : Bool) : Int := if u = true then 8 else 7
abbrev xW (xs : List Str) (u : Bool) : Ty := .mk (kdW u) [] xs (List.replicate xs.length (.mk 1 [] [] []))
abbrev yW (xs : List Str) (j : Nat) (u : Bool) : Ty := .mk (kdW u) [] (xs.take j ++ xs.drop (j + 1)) (List.replicate (xs.length - 1) (.mk 1 [] [] []))
abbrev aW (xs : List Str) (u : Bool) := addT (xW xs u) 400 tb0
abbrev bW (xs : List Str) (j : Nat) (u : Bool) := addT (yW xs j u) 400 (aW xs u).1
abbrev oW (xs : List Str) (j : Nat) (u : Bool) := layS (bW xs j u).1 ⟨6, [], [], [(aW xs u).2.1]⟩
theorem law_of {xs : List Str} {j : Nat} {u : Bool} (h : lawX xs j u = true) :
    ∃ p q r s, fitsS (oW xs j u).1 60 [] (aW xs u).2.1 (bW xs j u).2.1 = some p ∧ fitsS (oW xs j u).1 60 [] (bW xs j u).2.1 (aW xs u).2.1 = some q ∧ fitsS (oW xs j u).1 60 [] (aW xs u).2.1 (oW xs j u).2.1 = some r ∧ fitsS (oW xs j u).1 60 [] (oW xs j u).2.1 (aW xs u).2.1 = some s ∧
      ((if u = true then q.1 else p.1) = true ∧ (if u = true then p.1 else q.1) = false ∧ r.1 = true ∧ s.1 = false) ∧ (aW xs u).2.1 < (oW xs j u).1.nodes.length ∧ (bW xs j u).2.1 < (oW xs j u).1.nodes.length ∧ (oW xs j u).2.1 < (oW xs j u).1.nodes.length := by
  have h : (match fitsS (oW xs j u).1 60 [] (aW xs u).2.1 (bW xs j u).2.1, fitsS (oW xs j u).1 60 [] (bW xs j u).2.1 (aW xs u).2.1, fitsS (oW xs j u).1 60 [] (aW xs u).2.1 (oW xs j u).2.1, fitsS (oW xs j u).1 60 [] (oW xs j u).2.1 (aW xs u).2.1 with
    | some p, some q, some r, some s => (if u then q.1 && !p.1 else p.1 && !q.1) && r.1 && !s.1 && decide ((aW xs u).2.1 < (oW xs j u).1.nodes.length) && decide ((bW xs j u).2.1 < (oW xs j u).1.nodes.length) && decide ((oW xs j u).2.1 < (oW xs j u).1.nodes.length)
    | _, _, _, _ => false) = true := h
  split at h
  · rename_i p q r s hp hq hr hs
    simp only [Bool.and_eq_true, decide_eq_true_eq, Bool.not_eq_true'] at h
    refine ⟨p, q, r, s, hp, hq, hr, hs, ⟨?_, ?_, h.1.1.1.1.2, h.1.1.1.2⟩, h.1.1.2, h.1.2, h.2⟩
    · cases u
      · have := h.1.1.1.1.1; simp at this; simpa using this.1
      · have := h.1.1.1.1.1; simp at this; simpa using this.1
    · cases u
      · have := h.1.1.1.1.1; simp at this; simpa using this.2
      · have := h.1.1.1.1.1; simp at this; simpa using this.2
  · cases h
theorem xs_eq (zs : List Int) : xsW zs 8 = xsOf [hasW zs 0, hasW zs 1, hasW zs 2, hasW zs 3, hasW zs 4, hasW zs 5, hasW zs 6, hasW zs 7] [0, 1, 2, 3, 4, 5, 6, 7] := by
  have key : ∀ a b c d e f g h : Bool, (let x1 : List Str := if a = true then [] ++ [[UInt8.ofNat (97 + 0)]] else []
      let x2 := if b = true then x1 ++ [[UInt8.ofNat (97 + 1)]] else x1
      let x3 := if c = true then x2 ++ [[UInt8.ofNat (97 + 2)]] else x2
      let x4 := if d = true then x3 ++ [[UInt8.ofNat (97 + 3)]] else x3
      let x5 := if e = true then x4 ++ [[UInt8.ofNat (97 + 4)]] else x4
      let x6 := if f = true then x5 ++ [[UInt8.ofNat (97 + 5)]] else x5
      let x7 := if g = true then x6 ++ [[UInt8.ofNat (97 + 6)]] else x6
      if h = true then x7 ++ [[UInt8.ofNat (97 + 7)]] else x7) = xsOf [a, b, c, d, e, f, g, h] [0, 1, 2, 3, 4, 5, 6, 7] := by decide +kernel
  exact key _ _ _ _ _ _ _ _
theorem xsW_law (zs : List Int) (j : Nat) (u : Bool) (h1 : ¬ (xsW zs 8).length < 2) (h2 : j < (xsW zs 8).length) : lawX (xsW zs 8) j u = true := by
  have h3 := xsW_len zs 8
  have h := lawW_all (hasW zs 0) (hasW zs 1) (hasW zs 2) (hasW zs 3) (hasW zs 4) (hasW zs 5) (hasW zs 6) (hasW zs 7) j (by omega) u
  unfold lawWB at h
  rw [← xs_eq] at h
  simp only at h
  rw [if_neg h1, if_neg (by omega)] at h
  exact h
end Eva
