/- An evaluator of the model's code, proved to tell what the model does. strconv.Itoa below a hundred, as a hook; a contract wrapped for a row that lists variables, the world's shape kept. No condition. -/
import Derived.Test.YtkjnlhppheooeaaGreatDoorEvc7
import Derived.Lib.ItoaNum
import Derived.Lib.AppendIntMem
import Derived.Handed
import Derived.HandedShaped
set_option linter.unusedVariables false
set_option linter.unusedSimpArgs false
namespace Eva
open Go Go.RowKit
set_option linter.unusedVariables false

def digs (m : Nat) : List UInt8 := if m < 10 then [UInt8.ofNat (48 + m)] else [UInt8.ofNat (48 + m / 10), UInt8.ofNat (48 + m % 10)]
theorem decDigits_small {m : Nat} (h : m < 100) : Lib.decDigits m = digs m := by
  unfold digs
  by_cases h1 : m < 10
  · rw [Lib.decDigits, dif_pos h1, if_pos h1]
  · rw [Lib.decDigits, dif_neg h1, if_neg h1, Lib.decDigits, dif_pos (by omega)]
    rfl

def itoaG : List V → Option V
  | [.int .i64 (.ofNat m)] => if m < 10 then some (.str 1 (48 + m)) else if m < 100 then some (.str 2 (48 + m / 10 + 256 * (48 + m % 10))) else none
  | _ => none

noncomputable def itoaK : BodyK := fun _ args st k => Option.rec (motive := fun _ => Bool) false (fun v => forceV v fun v => k v st) (itoaG args)
noncomputable def itoaE : E := { k := itoaK, b := (hookE itoaG).b }
theorem itoaE_K : BodyKOK itoaE.k itoaE.b := by
  intro ks self _ args st k h
  have h : Option.rec (motive := fun _ => Bool) false (fun v => forceV v fun v => k v st) (itoaG args) = true := h
  show ∃ w st', (match itoaG args with
      | some v => some (v, st)
      | none => none) = some (w, st') ∧ k w st' = true
  cases hg : itoaG args with
  | none => rw [hg] at h; cases h
  | some v =>
    rw [hg] at h
    have h : forceV v (fun v => k v st) = true := h
    rw [forceV_eq] at h
    exact ⟨v, st, rfl, h⟩

theorem digs_len {m : Nat} : (digs m).length = if m < 10 then 1 else 2 := by unfold digs; split <;> rfl
theorem digs_num {m : Nat} (h : m < 100) : snum (digs m) = if m < 10 then 48 + m else 48 + m / 10 + 256 * (48 + m % 10) := by
  have : ∀ m : Fin 100, snum (digs m) = if m.1 < 10 then 48 + m.1 else 48 + m.1 / 10 + 256 * (48 + m.1 % 10) := by decide +kernel
  exact this ⟨m, h⟩

theorem itoa_of {m : Nat} (h : m < 100) : itoaG [.int .i64 m] = some (.str (digs m).length (snum (digs m))) := by
  rw [digs_len, digs_num h]
  show (if m < 10 then _ else _) = _
  split
  · rfl
  · first | rfl | rw [if_pos h]

theorem itoaE_B {P : Program} {ρ : Nat → Value} {base : Bs} {f : Nat} {fn : Func} (h1 : P.funcs[f]? = some fn) (h2 : fn.body.isSome = true) (h3 : fn.name ≠ "runtime.NumGoroutine")
    (hc : ∀ (i : Nat) (_ : i < 100) (w : World), Calls P f #[.int .i64 i] w fun e w' => e = .returned (.string ⟨(Lib.decDigits i).toArray⟩) ∧ w' = w) : BodyOK P ρ base f (hookE itoaG).b :=
  hook_ok h1 h2 h3 fun args v hv γ c w xs hx hrel => by
    unfold itoaG at hv
    split at hv
    · rename_i m
      have hm : m < 100 := by
        split at hv
        · omega
        · split at hv
          · assumption
          · cases hv
      obtain ⟨y, ys, e1, e2, e3⟩ := hx
      simp only [RL] at e3
      have e2 : y = .int .i64 (m : Nat) := e2
      subst e3; subst e2; subst e1
      refine (hc m hm w).mono fun e w' ⟨k1, k2⟩ => ⟨_, k1, ?_, by rw [k2]; exact Below.refl _ _⟩
      rw [decDigits_small hm]
      have hv' : itoaG [.int .i64 m] = some v := hv
      rw [itoa_of hm] at hv'
      injection hv' with hv'; subst hv'
      exact ⟨_, rfl, rfl, rfl⟩
    · cases hv


theorem change_and_shaped {H : Type} {enc : TypeId × Value → H} {a : Assume} {C : Checked} {os : Os} {f : FuncId} {fn : Func} {s : ChangeSpec} {conds : List PathCond} {apart fresh handsOn again : Bool} {X : World → Array Value → Prop}
    (hX : ∀ (w w' : World) (args : Array Value), w.heap = w'.heap → X w args → X w' args)
    (own : ownKnob C.prog.godebug = none) (started : os.Started) (noInit : C.prog.inits.idxOf? f = none) (hfn : C.prog.funcs[f]? = some fn)
    (witness : ∃ (w : World) (tape : Tape) (i : Input), w.os = os ∧ (w.forCall tape i).Shaped C.prog ∧ i.vars = [] ∧ Input.okWide C.prog (w.forCall tape i) .any w.heap.size f i ∧
      ((s.pre enc C.prog fn conds apart (w.forCall tape i).memory i.args ∧ X (w.forCall tape i).memory i.args) ∧ sizedMet enc C.prog fn (OpenSpec.ofChange s) apart (w.forCall tape i).memory i.args) ∧ a.holds C.prog (lone (Frame.enter C.prog f i.args .normal) [] (w.forCall tape i)))
    (contract : ∀ (W : World) (base : Nat) (args : Array Value) (ds gs : List (DataW H)) (before : List MemPlace),
      (∀ (j : Nat) t v, fn.params[j]? = some t → args[j]? = some v → Value.okWide C.prog W .any base t v) →
      DataW.Whole enc C.prog fn.params.toList s.vars apart W args.toList ds gs before →
      conds.all (PathCond.test C.prog ⟨fn.params.toList, ds, s.plain.varTypes C.prog, gs⟩) = true →
      (DataW.weightsEach C.prog (fn.params.toList ++ s.plain.varTypes C.prog) (ds ++ gs)).all (· ≤ reachBytes) = true → X W args → W.ShapedOpen C.prog →
      a.holds C.prog (lone (Frame.enter C.prog f args .normal) [] W) →
      Calls C.prog f args W fun e W' => ∃ v, e = .returned v ∧ s.post enc C.prog fn apart fresh handsOn again W args v W') :
    ReturnsInHanded a C os f .any (fun w args => (s.pre enc C.prog fn conds apart w args ∧ X w args) ∧ sizedMet enc C.prog fn (OpenSpec.ofChange s) apart w args) (s.post enc C.prog fn apart fresh handsOn again) := by
  refine returnsInHanded_of_calls own started noInit witness ?_
  intro w tape i _ hsh _ hok hpre hholds
  obtain ⟨_, _, _, fn', hfn', _, _, _, _, hval⟩ := hok
  have e : fn' = fn := Option.some.inj (hfn'.symm.trans hfn)
  subst e
  obtain ⟨⟨⟨ds, gs, before, hw, hc⟩, hx⟩, hz⟩ := hpre
  have hw' := DataW.Whole.of_heap (w' := w.forCall tape i) (by rfl) hw
  refine (contract (w.forCall tape i) w.heap.size i.args ds gs before hval hw' hc (hz.weights hw) (hX _ _ _ (by rfl) hx) hsh hholds).mono fun e W' ⟨v, he, hp⟩ => ?_
  subst he
  exact ChangeSpec.post_blind hp
end Eva
