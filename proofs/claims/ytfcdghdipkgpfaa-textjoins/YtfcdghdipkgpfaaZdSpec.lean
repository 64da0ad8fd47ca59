/- Chapter 2, plainly: where an action's end begins; the parts of a text; a text put together again. -/
import Derived.Test.YtfcdghdipkgpfaaZdPlace
import Derived.Test.YtfcdghdipkgpfaaEvd8
namespace Go.Proofs.Ytfcdghdipkgpfaa
open Eva Go.RowKit
set_option maxRecDepth 100000
set_option linter.unusedSimpArgs false
set_option linter.unusedVariables false

/-- Within quotes, behind a byte; backslashes ahead of what follows. -/
def stQ (q : Bool) (b : Nat) (c : UInt8) : Bool := if q then (c != 34 || b % 2 == 1) else c == 34
def stB (q : Bool) (b : Nat) (c : UInt8) : Nat := if q && c == 92 then b + 1 else 0
/-- Where the braces are that end an action. -/
def endS : List UInt8 → Bool → Nat → Option Nat
  | [], _, _ => none
  | c :: r, q, b => if q = false ∧ c = 125 ∧ r.head? = some 125 then some 0 else (endS r (stQ q b c) (stB q b c)).map (· + 1)

theorem endS_drop {l : List UInt8} {i : Nat} (h : i < l.length) (q : Bool) (b : Nat) :
    endS (l.drop i) q b = if q = false ∧ l[i] = 125 ∧ l[i + 1]? = some 125 then some 0 else (endS (l.drop (i + 1)) (stQ q b l[i]) (stB q b l[i])).map (· + 1) := by
  rw [List.drop_eq_getElem_cons h, endS, List.head?_drop]
theorem endS_done {l : List UInt8} {i : Nat} (h : l.length ≤ i) (q : Bool) (b : Nat) : endS (l.drop i) q b = none := by
  rw [List.drop_eq_nil_of_le h, endS]
theorem endS_lt : ∀ {l : List UInt8} {q : Bool} {b k : Nat}, endS l q b = some k → k + 2 ≤ l.length ∧ (l.drop k).take 2 = [125, 125]
  | [], _, _, _, h => by simp [endS] at h
  | c :: r, q, b, k, h => by
    rw [endS] at h
    split at h
    · rename_i hc
      injection h with h; subst h
      obtain ⟨_, rfl, h2⟩ := hc
      cases r with
      | nil => simp at h2
      | cons d r => simp at h2; subst h2; simp
    · obtain ⟨j, hj, rfl⟩ := Option.map_eq_some_iff.1 h
      obtain ⟨h1, h2⟩ := endS_lt hj
      exact ⟨by simp; omega, by simpa using h2⟩
theorem endS_sl {l : List UInt8} {q : Bool} {b b' : Nat} (h : q = true → b = b') : endS l q b = endS l q b' := by
  cases q with
  | true => rw [h rfl]
  | false =>
    cases l with
    | nil => rfl
    | cons c r => simp [endS, stQ, stB]

/-- Where braces are that begin an action. -/
def openAt : List UInt8 → Option Nat
  | [] => none
  | c :: r => if c = 123 ∧ r.head? = some 123 then some 0 else (openAt r).map (· + 1)
theorem openAt_drop {l : List UInt8} {i : Nat} (h : i < l.length) : openAt (l.drop i) = if l[i] = 123 ∧ l[i + 1]? = some 123 then some 0 else (openAt (l.drop (i + 1))).map (· + 1) := by
  rw [List.drop_eq_getElem_cons h, openAt, List.head?_drop]
theorem openAt_lt : ∀ {l : List UInt8} {k : Nat}, openAt l = some k → k + 2 ≤ l.length ∧ (l.drop k).take 2 = [123, 123]
  | [], _, h => by simp [openAt] at h
  | c :: r, k, h => by
    rw [openAt] at h
    split at h
    · rename_i hc
      injection h with h; subst h
      obtain ⟨rfl, h2⟩ := hc
      cases r with
      | nil => simp at h2
      | cons d r => simp at h2; subst h2; simp
    · obtain ⟨j, hj, rfl⟩ := Option.map_eq_some_iff.1 h
      obtain ⟨h1, h2⟩ := openAt_lt hj
      exact ⟨by simp; omega, by simpa using h2⟩
theorem openAt_index : ∀ l : List UInt8, Lib.index l [123, 123] = match openAt l with
    | some k => (k : Int)
    | none => -1
  | [] => rfl
  | c :: r => by
    rw [Lib.index, openAt, openAt_index r]
    have e : [123, 123].isPrefixOf (c :: r) = true ↔ c = 123 ∧ r.head? = some 123 := by
      cases r with
      | nil => simp [List.isPrefixOf]
      | cons d r =>
        simp only [List.isPrefixOf, Bool.and_true, Bool.and_eq_true, beq_iff_eq, List.head?_cons, Option.some.injEq]
        exact ⟨fun ⟨a, b⟩ => ⟨a.symm, b.symm⟩, fun ⟨a, b⟩ => ⟨a.symm, b.symm⟩⟩
    by_cases h : c = 123 ∧ r.head? = some 123
    · rw [if_pos (e.2 h), if_pos h]; rfl
    · rw [if_neg (fun k => h (e.1 k)), if_neg h]
      cases openAt r with
      | none => rfl
      | some k =>
        simp only [Option.map_some]
        rw [if_neg (by first | (simp; done) | (simp; omega))]
        rfl

abbrev Prt := Bool × List UInt8 × Nat
/-- The parts of a text, from a place on; none: an action that has no end. -/
def splitS (l : List UInt8) (at_ : Nat) : Option (List Prt) :=
  if _h : l.length ≤ at_ then some [] else
    match openAt (l.drop at_) with
    | none => some [(false, l.drop at_, at_)]
    | some (n + 1) => (splitS l (at_ + (n + 1))).map ((false, (l.drop at_).take (n + 1), at_) :: ·)
    | some 0 => match endS (l.drop (at_ + 2)) false 0 with
      | none => none
      | some k => (splitS l (at_ + 2 + k + 2)).map ((true, (l.drop (at_ + 2)).take k, at_) :: ·)
termination_by l.length - at_

def splitR (l : List UInt8) : List Prt × Int := if 1500 < l.length then ([], 4) else match splitS l 0 with
  | none => ([], 11)
  | some ps => if 200 < ps.length then ([], 3) else (ps, 0)

/-- A text put together again. -/
def glue1 (p : Prt) : List UInt8 := if p.1 then [123, 123] ++ p.2.1 ++ [125, 125] else p.2.1
def glue (ps : List Prt) : List UInt8 := ps.flatMap glue1
theorem glue_snoc (ps : List Prt) (p : Prt) : glue (ps ++ [p]) = glue ps ++ glue1 p := by simp [glue]

theorem splitS_glue (l : List UInt8) : ∀ (n at_ : Nat) (ps : List Prt), l.length - at_ = n → splitS l at_ = some ps → glue ps = l.drop at_ ∧ ∀ i (h : i < ps.length), ps[i].2.2 = at_ + (glue (ps.take i)).length := by
  intro n
  induction n using Nat.strongRecOn with
  | _ n ih =>
    intro at_ ps hn h
    rw [splitS] at h
    split at h
    · rename_i hle
      injection h with h; subst h
      exact ⟨by rw [List.drop_eq_nil_of_le hle]; rfl, fun i hi => absurd hi (by simp)⟩
    rename_i hlt
    have cons : ∀ (p : Prt) (at2 : Nat) (qs : List Prt), p.2.2 = at_ → glue1 p ++ l.drop at2 = l.drop at_ → at2 = at_ + (glue1 p).length → (glue qs = l.drop at2 ∧ ∀ i (h : i < qs.length), qs[i].2.2 = at2 + (glue (qs.take i)).length) →
        glue (p :: qs) = l.drop at_ ∧ ∀ i (h : i < (p :: qs).length), (p :: qs)[i].2.2 = at_ + (glue ((p :: qs).take i)).length := by
      intro p at2 qs hp hg hl ⟨h1, h2⟩
      have e : ∀ m : List Prt, glue (p :: m) = glue1 p ++ glue m := fun m => by simp [glue]
      refine ⟨by rw [e, h1, hg], fun i hi => ?_⟩
      cases i with
      | zero => simpa [glue] using hp
      | succ i =>
        have := h2 i (by simpa using hi)
        simp only [List.getElem_cons_succ, List.take_succ_cons, e, List.length_append]
        omega
    split at h
    · injection h with h; subst h
      refine ⟨by simp [glue, glue1], fun i hi => ?_⟩
      obtain rfl : i = 0 := by simpa using hi
      simp [glue]
    · rename_i m hm
      obtain ⟨qs, hq, rfl⟩ := Option.map_eq_some_iff.1 h
      obtain ⟨h1, _⟩ := openAt_lt hm
      rw [List.length_drop] at h1
      refine cons _ _ qs rfl ?_ ?_ (ih _ (by omega) _ qs rfl hq)
      · simp only [glue1]
        rw [← List.drop_drop, if_neg (by simp), List.take_append_drop]
      · simp [glue1]; omega
    · rename_i hm
      obtain ⟨o1, o2⟩ := openAt_lt hm
      rw [List.drop_zero] at o2
      split at h
      · cases h
      · rename_i k hk
        obtain ⟨qs, hq, rfl⟩ := Option.map_eq_some_iff.1 h
        obtain ⟨h1, h2⟩ := endS_lt hk
        rw [List.length_drop] at h1 o1
        refine cons _ _ qs rfl ?_ ?_ (ih _ (by omega) _ qs rfl hq)
        · simp only [glue1, if_true]
          have a : l.drop at_ = [123, 123] ++ l.drop (at_ + 2) := by
            rw [← o2, ← List.drop_drop, List.take_append_drop]
          have b : l.drop (at_ + 2) = (l.drop (at_ + 2)).take k ++ ([125, 125] ++ l.drop (at_ + 2 + k + 2)) := by
            rw [← h2, ← List.drop_drop (i := 2) (j := at_ + 2 + k), ← List.drop_drop (i := k) (j := at_ + 2), List.take_append_drop, List.take_append_drop]
          rw [a]
          conv => rhs; rw [b]
          simp
        · simp [glue1]; omega
end Go.Proofs.Ytfcdghdipkgpfaa
