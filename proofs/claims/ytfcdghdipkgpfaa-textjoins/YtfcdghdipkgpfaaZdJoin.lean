/- The parts of two texts put together, plainly. -/
import Derived.Test.YtfcdghdipkgpfaaZdSplits
namespace Go.Proofs.Ytfcdghdipkgpfaa
open Eva Go.RowKit
set_option maxRecDepth 100000
set_option linter.unusedSimpArgs false
set_option linter.unusedVariables false

theorem head_append {l m : List UInt8} {c : UInt8} (h : l.head? = some c) : (l ++ m).head? = some c := by
  cases l with
  | nil => cases h
  | cons x r => simpa using h
theorem endS_append : ∀ {l : List UInt8} {q : Bool} {b k : Nat} (m : List UInt8), endS l q b = some k → endS (l ++ m) q b = some k
  | [], _, _, _, _, h => by simp [endS] at h
  | c :: r, q, b, k, m, h => by
    rw [endS] at h
    rw [List.cons_append, endS]
    split at h
    · rename_i hc
      rw [if_pos ⟨hc.1, hc.2.1, head_append hc.2.2⟩]; exact h
    · rename_i hc
      obtain ⟨j, hj, rfl⟩ := Option.map_eq_some_iff.1 h
      have hc' : ¬ (q = false ∧ c = 125 ∧ (r ++ m).head? = some 125) := by
        rintro ⟨h1, h2, h3⟩
        cases r with
        | nil => simp [endS] at hj
        | cons d r => exact hc ⟨h1, h2, by simpa using h3⟩
      rw [if_neg hc', endS_append m hj]
      rfl
theorem openAt_append : ∀ {l : List UInt8} {k : Nat} (m : List UInt8), openAt l = some k → openAt (l ++ m) = some k
  | [], _, _, h => by simp [openAt] at h
  | c :: r, k, m, h => by
    rw [openAt] at h
    rw [List.cons_append, openAt]
    split at h
    · rename_i hc
      rw [if_pos ⟨hc.1, head_append hc.2⟩]; exact h
    · rename_i hc
      obtain ⟨j, hj, rfl⟩ := Option.map_eq_some_iff.1 h
      have hc' : ¬ (c = 123 ∧ (r ++ m).head? = some 123) := by
        rintro ⟨h2, h3⟩
        cases r with
        | nil => simp [openAt] at hj
        | cons d r => exact hc ⟨h2, by simpa using h3⟩
      rw [if_neg hc', openAt_append m hj]
      rfl
/-- A text without an opening, that does not end in a brace. -/
theorem openAt_text : ∀ {l : List UInt8} (m : List UInt8), openAt l = none → l.getLast? ≠ some 123 → openAt (l ++ m) = (openAt m).map (· + l.length)
  | [], m, _, _ => by simp
  | [c], m, h, hl => by
    have hc : c ≠ 123 := fun e => hl (by simp [e])
    rw [List.cons_append, openAt, if_neg (fun e => hc e.1)]
    rfl
  | c :: d :: r, m, h, hl => by
    rw [openAt] at h
    split at h
    · cases h
    · rename_i hc
      have hr : openAt (d :: r) = none := by simpa using h
      rw [List.cons_append, openAt, if_neg (by simpa using hc), openAt_text m hr (by simpa using hl), Option.map_map]
      congr 1

def shiftP (k : Nat) (p : Prt) : Prt := (p.1, p.2.1, p.2.2 + k)
theorem splitS_shift (s t : List UInt8) : ∀ (n j : Nat), t.length - j = n → splitS (s ++ t) (s.length + j) = (splitS t j).map (·.map (shiftP s.length)) := by
  intro n
  induction n using Nat.strongRecOn with
  | _ n ih =>
    intro j hn
    by_cases hj : t.length ≤ j
    · rw [splitS_end hj, splitS_end (by rw [List.length_append]; omega)]; rfl
    have hd : (s ++ t).drop (s.length + j) = t.drop j := by rw [List.drop_append]; simp
    have hd2 : (s ++ t).drop (s.length + j + 2) = t.drop (j + 2) := by rw [show s.length + j + 2 = s.length + (j + 2) by omega, List.drop_append]; simp
    rw [splitS_at (show j < t.length by omega), splitS_at (show s.length + j < (s ++ t).length by rw [List.length_append]; omega), hd, hd2]
    cases ho : openAt (t.drop j) with
    | none => simp [shiftP]; omega
    | some m =>
      obtain ⟨o1, _⟩ := openAt_lt ho
      rw [List.length_drop] at o1
      cases m with
      | succ m =>
        simp only
        rw [show s.length + j + (m + 1) = s.length + (j + (m + 1)) by omega, ih _ (by omega) _ rfl, Option.map_map, Option.map_map]
        congr 1
        funext x
        simp [shiftP]; omega
      | zero =>
        simp only
        cases he : endS (t.drop (j + 2)) false 0 with
        | none => rfl
        | some m =>
          obtain ⟨e1, _⟩ := endS_lt he
          rw [List.length_drop] at e1
          simp only
          rw [show s.length + j + 2 + m + 2 = s.length + (j + 2 + m + 2) by omega, ih _ (by omega) _ rfl, Option.map_map, Option.map_map]
          congr 1
          funext x
          simp [shiftP]; omega

theorem splitS_ne {l : List UInt8} {k : Nat} (h : k < l.length) : splitS l k ≠ some [] := by
  rw [splitS_at h]
  cases openAt (l.drop k) with
  | none => simp
  | some m =>
    cases m with
    | succ m => simp
    | zero =>
      simp only
      cases endS (l.drop (k + 2)) false 0 with
      | none => simp
      | some m => simp
/-- Parts of one text and of another one, put together. -/
def joinP : List Prt → List Prt → List Prt
  | [], y => y
  | [p], q :: y => if p.1 = false ∧ q.1 = false then (false, p.2.1 ++ q.2.1, p.2.2) :: y else p :: q :: y
  | [p], [] => [p]
  | p :: r, y => p :: joinP r y
/-- What a text ends in is no brace that opens. -/
def lastOK (x : List Prt) : Prop := ∀ p, x.getLast? = some p → p.1 = false → p.2.1 ≠ [] ∧ p.2.1.getLast? ≠ some 123

theorem joinP_cons (p : Prt) {x : List Prt} (h : x ≠ []) (y : List Prt) : joinP (p :: x) y = p :: joinP x y := by
  cases x with
  | nil => exact absurd rfl h
  | cons q r => cases y <;> rfl

theorem splitS_join (s t : List UInt8) {y : List Prt} (hy : splitS t 0 = some y) : ∀ (n at_ : Nat) (x : List Prt), s.length - at_ = n → at_ ≤ s.length → splitS s at_ = some x → lastOK x → splitS (s ++ t) at_ = some (joinP x (y.map (shiftP s.length))) := by
  intro n
  induction n using Nat.strongRecOn with
  | _ n ih =>
    intro at_ x hn hle hx hok
    have hsh : splitS (s ++ t) s.length = some (y.map (shiftP s.length)) := by
      have := splitS_shift s t _ 0 rfl
      rw [hy] at this
      simpa using this
    by_cases hat : s.length ≤ at_
    · obtain rfl : at_ = s.length := by omega
      rw [splitS_end hat] at hx
      injection hx with hx; subst hx
      exact hsh
    have hda : (s ++ t).drop at_ = s.drop at_ ++ t := by rw [List.drop_append_of_le_length (by omega)]
    have hlt2 : at_ < (s ++ t).length := by rw [List.length_append]; omega
    have tail : ∀ (p : Prt) (at2 : Nat) (qs : List Prt), at_ < at2 → at2 ≤ s.length → splitS s at2 = some qs → x = p :: qs → (p.1 = false → qs ≠ []) → (splitS (s ++ t) at2).map (p :: ·) = some (joinP x (y.map (shiftP s.length))) := by
      intro p at2 qs h1 h2 h3 h4 h5
      by_cases hq : qs = []
      · subst hq
        have hp : p.1 = true := by
          cases hb : p.1 with
          | true => rfl
          | false => exact absurd rfl (h5 hb)
        have : at2 = s.length := by
          apply Classical.byContradiction
          intro ne
          have := splitS_ne (l := s) (k := at2) (by omega)
          exact this h3
        subst this
        rw [hsh, h4]
        cases y with
        | nil => rfl
        | cons q y => simp [joinP, hp]
      · rw [ih (s.length - at2) (by omega) at2 qs rfl h2 h3 (fun r hr hf => hok r (by rw [h4, List.getLast?_cons]; cases hl : qs.getLast? with
          | none => simp [hl] at hr
          | some z => rw [hl] at hr; simpa using hr) hf), h4, joinP_cons _ hq]
        rfl
    rw [splitS_at (show at_ < s.length by omega)] at hx
    rw [splitS_at hlt2, hda]
    cases ho : openAt (s.drop at_) with
    | none =>
      rw [ho] at hx
      simp only [Option.some.injEq] at hx
      subst hx
      obtain ⟨ne, hlast⟩ := hok (false, s.drop at_, at_) rfl rfl
      rw [openAt_text t ho hlast]
      have hlen : (s.drop at_).length = s.length - at_ := List.length_drop
      cases t with
      | nil =>
        rw [splitS_end (by simp)] at hy
        injection hy with hy; subst hy
        simp [openAt, joinP]
      | cons c t' =>
        rw [splitS_at (by simp)] at hy
        rw [List.drop_zero] at hy
        cases hot : openAt (c :: t') with
        | none =>
          rw [hot] at hy
          simp only [Option.some.injEq] at hy
          subst hy
          simp [joinP, shiftP]
        | some m =>
          rw [hot] at hy
          simp only [Option.map_some, hlen]
          cases m with
          | succ m =>
            simp only [Nat.zero_add] at hy
            obtain ⟨ys, hys, rfl⟩ := Option.map_eq_some_iff.1 hy
            rw [show m + 1 + (s.length - at_) = (m + (s.length - at_)) + 1 by omega]
            simp only
            have h2 := splitS_shift s (c :: t') _ (m + 1) rfl
            rw [hys] at h2
            rw [show at_ + (m + (s.length - at_) + 1) = s.length + (m + 1) by omega, h2]
            simp only [Option.map_some, List.map_cons, joinP, shiftP, and_self, if_true]
            congr 3
            rw [show m + (s.length - at_) + 1 = (s.drop at_).length + (m + 1) by omega, List.take_append]
            simp
            exact List.take_of_length_le (by rw [List.length_drop]; omega)
          | zero =>
            simp only [Nat.zero_add] at hy ⊢
            rw [show s.length - at_ = (s.length - at_ - 1) + 1 by omega]
            simp only
            rw [show at_ + (s.length - at_ - 1 + 1) = s.length by omega, hsh, show s.length - at_ - 1 + 1 = (s.drop at_).length by omega, List.take_left]
            cases y with
            | nil =>
              cases he : endS ((c :: t').drop 2) false 0 with
              | none => rw [he] at hy; cases hy
              | some k =>
                rw [he] at hy
                obtain ⟨ys, _, e⟩ := Option.map_eq_some_iff.1 hy
                cases e
            | cons q y =>
              have hq : q.1 = true := by
                cases he : endS ((c :: t').drop 2) false 0 with
                | none => rw [he] at hy; cases hy
                | some k =>
                  rw [he] at hy
                  obtain ⟨ys, _, e⟩ := Option.map_eq_some_iff.1 hy
                  injection e with e1 _
                  rw [← e1]
              simp [joinP, shiftP, hq]
    | some m =>
      obtain ⟨o1, _⟩ := openAt_lt ho
      rw [List.length_drop] at o1
      rw [ho] at hx
      rw [openAt_append t ho]
      cases m with
      | succ m =>
        simp only at hx ⊢
        obtain ⟨qs, hqs, rfl⟩ := Option.map_eq_some_iff.1 hx
        rw [List.take_append_of_le_length (by rw [List.length_drop]; omega)]
        exact tail _ _ qs (by omega) (by omega) hqs rfl (fun _ e => splitS_ne (l := s) (k := at_ + (m + 1)) (by omega) (by rw [hqs, e]))
      | zero =>
        simp only at hx ⊢
        have hd2 : (s ++ t).drop (at_ + 2) = s.drop (at_ + 2) ++ t := by rw [List.drop_append_of_le_length (by omega)]
        cases he : endS (s.drop (at_ + 2)) false 0 with
        | none => rw [he] at hx; cases hx
        | some k =>
          rw [he] at hx
          simp only at hx
          obtain ⟨qs, hqs, rfl⟩ := Option.map_eq_some_iff.1 hx
          obtain ⟨e1, _⟩ := endS_lt he
          rw [List.length_drop] at e1
          rw [hd2, endS_append t he]
          simp only
          rw [List.take_append_of_le_length (by rw [List.length_drop]; omega)]
          exact tail _ _ qs (by omega) (by omega) hqs rfl (fun h => by cases h)
end Go.Proofs.Ytfcdghdipkgpfaa
