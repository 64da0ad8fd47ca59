/- An evaluator of the model's code, proved to tell what the model does. A law that is handed numbers in a slice: those that count are known by what they leave, the others not at all. No condition. -/
import Derived.Test.YtgmgjbdfolclpaaEvc7
import Derived.ChangeSlices
import Derived.ChangeMaps5
import Derived.Carry
import Derived.WideShapes
set_option linter.unusedVariables false
set_option linter.unusedSimpArgs false
namespace Eva
open Go Go.RowKit Go.ChangeShapes
set_option linter.unusedVariables false

/-- A value is a slice of these numbers, in a world. -/
def IntsIn (w : World) (v : Value) (zs : List Int) : Prop := (v = .slice none 0 0 ∧ zs = []) ∨ (∃ a, v = .slice (some a) 0 0 ∧ zs = []) ∨
  ∃ b off cap, v = .slice (some ⟨b, off, none⟩) zs.length cap ∧ zs.length ≤ cap ∧ b < w.heap.size ∧ ∀ i (h : i < zs.length), w.cell? ⟨b, off + i, none⟩ = some (.int .i64 zs[i])

theorem heap_of_cell {w : World} {b o : Nat} {x : Value} (h : w.cell? ⟨b, o, none⟩ = some x) : ∃ arr elem fz, w.heap[b]? = some (.cells arr elem fz) ∧ arr[o]? = some x := by
  unfold World.cell? at h
  split at h
  · rename_i cells t fz hc
    refine ⟨cells, t, fz, hc, ?_⟩
    simpa using h
  · cases h

theorem ints_row {w : World} {v : Value} {zs : List Int} (h : IntsIn w v zs) (h0 : 0 < w.heap.size) :
    ∃ lo : Loc, lo.b < w.heap.size ∧ (∀ γ ρ, RowOK γ ρ lo (.ro (zs.map (V.int .i64))) w) ∧ ∀ r : Pt, ∃ u : V, ((u = .snil ∧ zs = []) ∨ u = .sl r 0 zs.length 1) ∧ ∀ γ ρ, γ r = some lo → R γ ρ u v := by
  rcases h with ⟨rfl, rfl⟩ | ⟨a, rfl, rfl⟩ | ⟨b, off, cap, rfl, h1, h2, h3⟩
  · exact ⟨⟨0, 0, 0⟩, h0, fun γ ρ i v hi => by simp at hi, fun r => ⟨.snil, .inl ⟨rfl, rfl⟩, fun γ ρ _ => rfl⟩⟩
  · exact ⟨⟨0, 0, 0⟩, h0, fun γ ρ i v hi => by simp at hi, fun r => ⟨.sl r 0 0 1, .inr rfl, fun γ ρ hr => ⟨⟨0, 0, 0⟩, a, 0, hr, rfl, Nat.le_refl _, fun e => absurd rfl e, Nat.le_refl _⟩⟩⟩
  · refine ⟨⟨b, off, cap⟩, h2, fun γ ρ i v hi => ?_, fun r => ⟨.sl r 0 zs.length 1, .inr rfl, fun γ ρ hr => ⟨⟨b, off, cap⟩, ⟨b, off, none⟩, cap, hr, rfl, h1, fun _ => rfl, by simp⟩⟩⟩
    rw [List.getElem?_map] at hi
    obtain ⟨z, hz, rfl⟩ := Option.map_eq_some_iff.1 hi
    obtain ⟨hi', rfl⟩ := List.getElem?_eq_some_iff.1 hz
    obtain ⟨arr, elem, fz, e1, e2⟩ := heap_of_cell (h3 i hi')
    exact ⟨arr, elem, fz, _, e1, e2, rfl⟩

section
variable {H : Type} {enc : TypeId × Value → H} {P : Program} {W : World}
theorem ints_of {t e : TypeId} {r : Reach} {b0 : Nat} {v : Value} {d : DataW H} {p : List MemPlace} (ht : P.underlying t = some (.slice e)) (he : P.underlying e = some (.int .i64)) (hc : P.cellsOf e = 1)
    (hval : Value.okWide P W r b0 t v) (h : DataW.Trod enc P W 0 (fun _ => true) true t v d p) :
    ∃ zs : List Int, IntsIn W v zs ∧ (∀ z ∈ zs, -9223372036854775808 ≤ z ∧ z < 9223372036854775808) ∧ zs.length ≤ maxLen := by
  obtain ⟨a, len, cap, rfl⟩ := WideShapes.okWide_slice ht hval
  obtain ⟨fuel, hf⟩ := h
  have hcs : (Value.slice a len cap).cells.toList = [.slice a len cap] := by simp [Value.cells]
  rcases open_ints ht he hc hf with ⟨h1, _⟩ | ⟨a', len', cap', zs, h1, _, h2, h3, h4, _, h5, h6⟩
  · rw [hcs] at h1
    injection h1 with h1
    exact ⟨[], .inl ⟨h1, rfl⟩, by simp, Nat.zero_le _⟩
  · rw [hcs] at h1
    injection h1 with h1
    have h4 : zs.length = cap' := by simpa using h4
    rw [h1]
    refine ⟨zs.take len', ?_, fun z hz => ?_, by rw [List.length_take]; omega⟩
    · have hl : (zs.take len').length = len' := by rw [List.length_take]; omega
      by_cases h0 : cap' = 0
      · have : len' = 0 := by omega
        subst this; subst h0
        exact .inr (.inl ⟨a', rfl, by simp⟩)
      · right; right
        have c0 := h5 0 (by omega)
        have hsp : (a'.add 0).spot = none := World.cell?_spot c0
        obtain ⟨b, off, spot⟩ := a'
        have hsp : spot = none := by simpa [Addr.add] using hsp
        subst hsp
        have hadd : ∀ i, (⟨b, off, none⟩ : Addr).add i = ⟨b, off + i, none⟩ := fun i => by
          unfold Addr.add
          split
          · rename_i e; subst e; rfl
          · rfl
        refine ⟨b, off, cap', by rw [hl], by omega, ?_, fun i hi => ?_⟩
        · obtain ⟨arr, elem, fz, e1, _⟩ := heap_of_cell (by rw [hadd] at c0; exact c0)
          exact (Array.getElem?_eq_some_iff.1 e1).1
        · have := h5 i (by omega)
          rw [hadd] at this
          rw [this, List.getElem_take, List.getD_eq_getElem?_getD, List.getElem?_eq_getElem (by omega)]
          rfl
    · have := h6 z (List.mem_of_mem_take hz)
      have : -9223372036854775808 ≤ z ∧ z ≤ 9223372036854775807 := by simpa [Lit.wf, IntKind.min, IntKind.max, IntKind.bits, IntKind.signed] using this
      omega
end

/-- What a number leaves; of a number that is not known, some number. -/
def withinG2 (hyp : List (Nat × Nat × Nat)) (args : List V) : Option V := match withinG hyp args with
  | some v => some v
  | none => match args with
    | [.opq i, .int .i64 n] => if 0 < n ∧ n < 1000000 then some (.im 0 1) else none
    | _ => none
theorem within2E_B {P : Program} {ρ : Nat → Value} {base : Bs} {f : Nat} {fn : Func} (h1 : P.funcs[f]? = some fn) (h2 : fn.body.isSome = true) (h3 : fn.name ≠ "runtime.NumGoroutine") {hyp : List (Nat × Nat × Nat)} (hh : HypOK ρ hyp) (hI : ∀ i, ∃ a : Int, ρ i = .int .i64 a)
    (hc : ∀ (a n : Int) (w : World), 0 < n → n < 1000000 → Calls P f #[.int .i64 a, .int .i64 n] w fun e w' => e = .returned (.int .i64 (a % n)) ∧ Below w.heap.size w w') :
    BodyOK P ρ base f (hookE (withinG2 hyp)).b := by
  have old := within_ok (base := base) h1 h2 h3 hh hc
  intro self hself args st v st' he hw
  have he : (match withinG2 hyp args with
    | some v => some (v, st)
    | none => none) = some (v, st') := he
  unfold withinG2 at he
  cases hg : withinG hyp args with
  | some u =>
    rw [hg] at he
    exact old self hself args st v st' (by simpa [hg] using he) hw
  | none =>
    have new : BodyOK P ρ base f fun _ args st => match (match args with
        | [.opq i, .int .i64 n] => if 0 < n ∧ n < 1000000 then some (.im 0 1) else none
        | _ => none : Option V) with
      | some v => some (v, st)
      | none => none := hook_ok h1 h2 h3 fun args v hv γ c w xs hx hrel => by
        split at hv
        · rename_i i n
          split at hv
          · rename_i hn
            injection hv with hv; subst hv
            obtain ⟨y, ys, e1, e2, y', ys', e6, e7, e8⟩ := hx
            simp only [RL] at e8
            have e7 : y' = .int .i64 n := e7
            have e2 : y = ρ i := e2
            obtain ⟨a, ha⟩ := hI i
            rw [ha] at e2
            subst e8; subst e7; subst e6; subst e2; subst e1
            exact (hc a n w hn.1 hn.2).mono fun e w' ⟨k1, k2⟩ => ⟨_, k1, ⟨a % n, rfl, by decide, by decide, Int.emod_one _⟩, k2⟩
          · cases hv
        · cases hv
    rw [hg] at he
    exact new self hself args st v st' he hw
/-- Rows that are there ahead of all: one. -/
def stR (l : List V) : St := { h := .n (.ro l) .e .e .e .e, nx := .a .h, t := 1, low := 0 }
theorem stR_eq (l : List V) : rosR [l] = stR l := rfl
noncomputable def checkR (t : BT) (n f : Nat) (args l : List V) (r : Bool) : Bool := runK (selK t) n f args (stR l) (nextV r)
/-- The call answers true, over a row. -/
def GoodR (t : BT) (n f : Nat) (args l : List V) : Prop := ∃ st', run (tabT t) n f args (rosR [l]) = some (.bool true, st')
theorem checkR_ok {t : BT} (hK : t.all fun _ e => BodyKOK e.k e.b) {n f : Nat} {args l : List V} {r : Bool} (h : checkR t n f args l r = true) : GoodR t n f args l ∧ r = true := by
  obtain ⟨v, st', h1, h2⟩ := runK_ok (TK := selK t) (T := tabT t) (fun f => ⟨_, rfl, sel_K hK f⟩) n f args (stR l) (nextV r) h
  obtain ⟨e, h3⟩ := nextV_true h2
  subst e
  exact ⟨⟨st', h1⟩, h3⟩
/-- The numbers, by their names. -/
theorem opq_row {w : World} {lo : Loc} {zs : List Int} (h : ∀ γ ρ, RowOK γ ρ lo (.ro (zs.map (V.int .i64))) w) {ρ : Nat → Value} (hρ : ∀ i (hi : i < zs.length), ρ i = .int .i64 zs[i]) {m : Nat} (hm : m ≤ zs.length) (γ : Locs) :
    RowOK γ ρ lo (.ro ((List.range m).map V.opq)) w := fun i v hi => by
  rw [List.getElem?_map] at hi
  obtain ⟨k, hk, rfl⟩ := Option.map_eq_some_iff.1 hi
  obtain ⟨h1, h2⟩ := List.getElem?_eq_some_iff.1 hk
  rw [List.getElem_range] at h2
  subst h2
  rw [List.length_range] at h1
  obtain ⟨arr, elem, fz, x, a, b, c⟩ := h γ ρ i (.int .i64 zs[i]) (by rw [List.getElem?_map, List.getElem?_eq_getElem (by omega)]; rfl)
  exact ⟨arr, elem, fz, x, a, b, (show x = .int .i64 zs[i] from c).trans (hρ i (by omega)).symm⟩
/-- A call over a slice of numbers. -/
theorem good_callR {P : Program} {ρ : Nat → Value} {w : World} {t : BT} (hB : t.all fun i e => BodyOK P ρ ⟨w.heap.size, w⟩ i e.b) {n f : Nat} {args l : List V} (h : GoodR t n f args l) {lo : Loc} (hb : lo.b < w.heap.size) (hr : ∀ γ, RowOK γ ρ lo (.ro l) w) {xs : List Value}
    (hx : ∀ γ : Locs, γ .h = some lo → RL γ ρ args xs) : Calls P f xs.toArray w fun e w' => e = .returned (.bool true) ∧ Below w.heap.size w w' := by
  obtain ⟨st', h1⟩ := h
  refine (run_call_ros (P := P) (T := tabT t) (L := [l]) (locs := fun _ => lo) (fun f b hb => ?_) (fun i hi => ?_) h1 (hx _ rfl)).mono fun e w' ⟨y, γ', e1, e2, e3⟩ => ⟨?_, e3⟩
  · simp only [tabT, Option.some.injEq] at hb
    subst hb
    exact sel_B hB f
  · obtain rfl : i = 0 := by simpa using hi
    exact ⟨hr _, hb⟩
  · have e2 : y = .bool true := e2
    rw [e1, e2]
/-- A row of names, and of types that nobody asks. -/
def pairsOf2 : List V → Option (List (Nat × Nat))
  | [] => some []
  | .str n v :: .int .i64 _ :: r => (pairsOf2 r).map fun l => (n, v) :: l
  | .str n v :: .im _ _ :: r => (pairsOf2 r).map fun l => (n, v) :: l
  | _ => none
def someInt (u : V) : Prop := ∀ γ ρ x, R γ ρ u x → ∃ t : Int, x = .int .i64 t
theorem pairs2_step (n v : Nat) (u : V) (r : List V) (l : List (Nat × Nat)) (hu : someInt u) (ih : ∀ m, pairsOf2 r = some m → r.length = 2 * m.length ∧ ∀ i (h : i < m.length), r[2 * i]? = some (.str m[i].1 m[i].2) ∧ ∃ u, r[2 * i + 1]? = some u ∧ someInt u)
    (h : (pairsOf2 r).map (fun l => (n, v) :: l) = some l) : (V.str n v :: u :: r).length = 2 * l.length ∧ ∀ i (h : i < l.length), (V.str n v :: u :: r)[2 * i]? = some (.str l[i].1 l[i].2) ∧ ∃ w, (V.str n v :: u :: r)[2 * i + 1]? = some w ∧ someInt w := by
    cases hr : pairsOf2 r with
    | none => rw [hr] at h; cases h
    | some m =>
      rw [hr] at h
      injection h with h; subst h
      obtain ⟨h1, h2⟩ := ih m hr
      refine ⟨by simp [h1]; omega, fun i hi => ?_⟩
      cases i with
      | zero => exact ⟨rfl, u, rfl, hu⟩
      | succ i =>
        obtain ⟨k1, w, k2, k3⟩ := h2 i (by simpa using hi)
        refine ⟨?_, w, ?_, k3⟩
        · rw [show 2 * (i + 1) = 2 * i + 1 + 1 by omega]; simpa using k1
        · rw [show 2 * (i + 1) + 1 = 2 * i + 1 + 1 + 1 by omega]; simpa using k2
theorem pairsOf2_at : ∀ {cs : List V} {l : List (Nat × Nat)}, pairsOf2 cs = some l → cs.length = 2 * l.length ∧ ∀ i (h : i < l.length), cs[2 * i]? = some (.str l[i].1 l[i].2) ∧ ∃ u, cs[2 * i + 1]? = some u ∧ someInt u
  | [], l, h => by injection h with h; subst h; exact ⟨rfl, fun i h => by simp at h⟩
  | .str n v :: .int .i64 t :: r, l, h => by
    simp only [pairsOf2] at h
    exact pairs2_step n v (.int .i64 t) r l (fun _ _ x hx => ⟨t, hx⟩) (fun m hr => pairsOf2_at hr) h
  | .str n v :: .im c m :: r, l, h => by
    simp only [pairsOf2] at h
    exact pairs2_step n v (.im c m) r l (fun _ _ x hx => (by obtain ⟨a, b, _⟩ := hx; exact ⟨a, b⟩)) (fun m hr => pairsOf2_at hr) h

/-- place: where the last variable of a name is; of no name, the dot. -/
def placeG2 : List V → St → Option V
  | [.agg [.int .i64 _, vars, nar], .str n v], st => match slen nar with
    | none => none
    | some _ => match slen vars with
      | none => none
      | some k => if 100000 < k then none else if n = 0 then some (.tup [.int .i64 (-1), .bool true]) else match (sliceCells st 2 k vars).bind pairsOf2 with
        | none => none
        | some l => match lastAt (fun p => p.1 == n && p.2 == v) l with
          | some i => some (.tup [.int .i64 i, .bool true])
          | none => some (.tup [.int .i64 (-1), .bool false])
  | _, _ => none

theorem vars_at2 {ρ : Nat → Value} {base : Bs} {γ : Locs} {c : Pt → Row} {st : St} {w : World} (hrel : Rel γ ρ base c w) (hf : Full γ c st) {vars : V} {x : Value} (hx : R γ ρ vars x) {k : Nat} (hk : slen vars = some k) {cs : List V} (hc : sliceCells st 2 k vars = some cs)
    {l : List (Nat × Nat)} (hl : pairsOf2 cs = some l) : l.length = k ∧ ∃ a cap zs, x = .slice a k cap ∧ zs.length = k ∧ VarsAt w a zs ∧ ∀ i (h : i < l.length) (h2 : i < zs.length), zs[i].1.data.toList.length = l[i].1 ∧ snum zs[i].1.data.toList = l[i].2 := by
  obtain ⟨p1, p2⟩ := pairsOf2_at hl
  have empty : k = 0 → ∀ a cap, x = .slice a k cap → cs.length = 2 * k → l.length = k ∧ ∃ a cap zs, x = .slice a k cap ∧ zs.length = k ∧ VarsAt w a zs ∧ ∀ i (h : i < l.length) (h2 : i < zs.length), zs[i].1.data.toList.length = l[i].1 ∧ snum zs[i].1.data.toList = l[i].2 := by
    intro h0 a cap hx hcs
    exact ⟨by omega, a, cap, [], hx, by simp [h0], .inl rfl, fun i h h2 => by simp at h2⟩
  have full : ∀ r o ad cap lo, γ r = some lo → x = .slice (some ad) k cap → k ≤ cap → (cap ≠ 0 → ad = ⟨lo.b, lo.o + o, none⟩) → loadN st (k * 2) (.ptr r o) = some cs → l.length = k ∧ ∃ a cap zs, x = .slice a k cap ∧ zs.length = k ∧ VarsAt w a zs ∧ ∀ i (h : i < l.length) (h2 : i < zs.length), zs[i].1.data.toList.length = l[i].1 ∧ snum zs[i].1.data.toList = l[i].2 := by
    intro r o ad cap lo h1 h2 h3 h4 h5
    obtain ⟨q1, q2⟩ := row_cells hrel hf h1 h5
    by_cases h0 : k = 0
    · exact empty h0 _ _ h2 (by omega)
    have hlk : l.length = k := by omega
    have had := h4 (by omega)
    refine ⟨hlk, some ad, cap, ?_⟩
    have each : ∀ i, ∃ z : ByteArray × Int, ∀ h : i < l.length, w.cell? ⟨lo.b, lo.o + o + 2 * i, none⟩ = some (.string z.1) ∧ w.cell? ⟨lo.b, lo.o + o + 2 * i + 1, none⟩ = some (.int .i64 z.2) ∧ z.1.data.toList.length = l[i].1 ∧ snum z.1.data.toList = l[i].2 := fun i => by
      by_cases h : i < l.length
      · obtain ⟨r1, u, r2, r3⟩ := p2 i h
        obtain ⟨x1, a1, s, a2, a3, a4⟩ := q2 _ _ r1
        obtain ⟨x2, b1, b2⟩ := q2 _ _ r2
        obtain ⟨t, b2⟩ := r3 _ _ _ b2
        exact ⟨(s, t), fun _ => ⟨by rw [a1, a2], by rw [show lo.o + o + 2 * i + 1 = lo.o + o + (2 * i + 1) by omega, b1, b2], a3, a4⟩⟩
      · exact ⟨default, fun k => absurd k h⟩
    refine ⟨(List.range k).map fun i => Classical.choose (each i), h2, by simp, .inr ⟨lo.b, lo.o + o, by rw [had], (hrel.loc r lo h1).2, fun j hj => ?_⟩, fun i hi hi2 => ?_⟩
    · have hj' : j < k := by simpa using hj
      have := Classical.choose_spec (each j) (by omega)
      simp only [List.getElem_map, List.getElem_range]
      exact ⟨this.1, this.2.1⟩
    · have := Classical.choose_spec (each i) hi
      simp only [List.getElem_map, List.getElem_range]
      exact this.2.2
  unfold slen at hk
  split at hk
  · injection hk with hk; subst hk
    have hcs : cs = [] := by simpa [sliceCells] using hc.symm
    exact empty rfl none 0 hx (by rw [hcs]; rfl)
  · rename_i r o m z
    injection hk with hk; subst hk
    unfold sliceCells at hc
    simp only [] at hc
    split at hc
    · obtain ⟨lo, ad, cp, k1, k2, k3, k4, _⟩ := hx
      exact full r o ad cp lo k1 k2 k3 k4 hc
    · cases hc
  · rename_i r o m z cp
    injection hk with hk; subst hk
    unfold sliceCells at hc
    simp only [] at hc
    split at hc
    · obtain ⟨lo, ad, k1, k2, k3, k4, _⟩ := hx
      exact full r o ad cp lo k1 k2 k3 k4 hc
    · cases hc
  · cases hk

theorem placeE2_B {P : Program} {ρ : Nat → Value} {base : Bs} {f : Nat} {fn : Func} (h1 : P.funcs[f]? = some fn) (h2 : fn.body.isSome = true) (h3 : fn.name ≠ "runtime.NumGoroutine") (hp : PlaceDoes P f) : BodyOK P ρ base f (hookSE placeG2).b :=
  hookS_ok h1 h2 h3 fun args st v hv γ c w xs hx hrel hf => by
    unfold placeG2 at hv
    split at hv
    · rename_i st d vars nar n u
      obtain ⟨y, ys, e1, ⟨fs, e2, d', fs1, e3, ed, sv, fs2, e4, hsv, nv, fs3, e5, hnv, e6⟩, y', ys', e7, ⟨s, e8, e9, e10⟩, e11⟩ := hx
      simp only [RL] at e6 e11
      have ed : d' = .int .i64 d := ed
      subst e11; subst e8; subst e7; subst e6; subst e5; subst e4; subst ed; subst e3; subst e2; subst e1
      have hsz : s.size = n := by rw [← e9, ← ByteArray.size_data, ← Array.length_toList]
      split at hv
      · cases hv
      rename_i m hm
      obtain ⟨b, cap2, eb⟩ := slice_of_len hnv hm
      subst eb
      split at hv
      · cases hv
      rename_i k hk
      split at hv
      · cases hv
      rename_i hle
      split at hv
      · rename_i hn
        injection hv with hv; subst hv
        obtain ⟨a, cap, ea⟩ := slice_of_len hsv hk
        subst ea
        obtain ⟨zs, hz⟩ : ∃ zs : List (ByteArray × Int), zs.length = k := ⟨List.replicate k default, by simp⟩
        subst hz
        have := hp w d a cap b m cap2 s zs (by omega) (fun e => absurd (by omega) e)
        refine this.mono fun e w' ⟨hb, h⟩ => ?_
        rcases h with ⟨_, e1⟩ | ⟨h, _⟩ | ⟨h, _⟩
        · exact ⟨_, e1, ⟨[.int .i64 (-1), .bool true], rfl, _, _, rfl, rfl, _, _, rfl, rfl, rfl⟩, hb⟩
        · exact absurd (by omega) h
        · exact absurd (by omega) h
      · rename_i hn
        split at hv
        · cases hv
        rename_i l hl
        obtain ⟨cs, hcs, hl⟩ := Option.bind_eq_some_iff.1 hl
        obtain ⟨hlk, a, cap, zs, ea, hz, hva, hzs⟩ := vars_at2 hrel hf hsv hk hcs hl
        subst ea
        subst hz
        refine (hp w d a cap b m cap2 s zs (by omega) (fun _ => hva)).mono fun e w' ⟨hb, h⟩ => ?_
        have key : ∀ i (h : i < l.length) (h2 : i < zs.length), (zs[i].1 = s ↔ (l[i].1 == n && l[i].2 == u) = true) := fun i h h2 => by
          obtain ⟨q1, q2⟩ := hzs i h h2
          simp only [Bool.and_eq_true, beq_iff_eq]
          constructor
          · intro e; rw [← q1, ← q2, e]; exact ⟨e9, e10⟩
          · rintro ⟨a1, a2⟩; exact ba_eq (by rw [q1, a1, e9]) (by rw [q2, a2, e10])
        split at hv
        · rename_i i hi
          injection hv with hv; subst hv
          obtain ⟨i1, i2, i3⟩ := lastAt_some hi
          have a1 := (key i i1 (by omega)).2 i2
          rcases h with ⟨h, _⟩ | ⟨_, j, hj, e1, e2, e3⟩ | ⟨_, e1, e2⟩
          · omega
          · have : i = j := by
              rcases Nat.lt_trichotomy i j with q | q | q
              · have := i3 j (by omega) q
                rw [(key j (by omega) hj).1 e2] at this
                cases this
              · exact q
              · exact absurd a1 (e3 i (by omega) q)
            subst this
            exact ⟨_, e1, ⟨[_, _], rfl, _, _, rfl, rfl, _, _, rfl, rfl, rfl⟩, hb⟩
          · exact absurd a1 (e2 i (by omega))
        · rename_i hi
          injection hv with hv; subst hv
          have no := lastAt_some.lastAt_none hi
          rcases h with ⟨h, _⟩ | ⟨_, j, hj, e1, e2, e3⟩ | ⟨_, e1, e2⟩
          · omega
          · have := no _ (List.getElem_mem (show j < l.length by omega))
            rw [(key j (by omega) hj).1 e2] at this
            cases this
          · exact ⟨_, e1, ⟨[_, _], rfl, _, _, rfl, rfl, _, _, rfl, rfl, rfl⟩, hb⟩
    · cases hv

end Eva
