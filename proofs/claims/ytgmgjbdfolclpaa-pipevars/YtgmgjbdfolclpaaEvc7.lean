/- An evaluator of the model's code, proved to tell what the model does. Functions by contracts that read memory. No condition. -/
import Derived.Test.YtgmgjbdfolclpaaEvc6
set_option linter.unusedVariables false
set_option linter.unusedSimpArgs false
namespace Eva
open Go Go.RowKit

noncomputable def hookSK (g : List V → St → Option V) : BodyK := fun _ args st k => Option.rec (motive := fun _ => Bool) false (fun v => forceV v fun v => k v st) (g args st)
noncomputable def hookSE (g : List V → St → Option V) : E := { k := hookSK g, b := fun _ args st => match g args st with
  | some v => some (v, st)
  | none => none }
theorem hookSE_K (g : List V → St → Option V) : BodyKOK (hookSE g).k (hookSE g).b := by
  intro ks self _ args st k hk
  have hk : Option.rec (motive := fun _ => Bool) false (fun v => forceV v fun v => k v st) (g args st) = true := hk
  cases hg : g args st with
  | none => rw [hg] at hk; exact absurd (show false = true from hk) (by decide)
  | some v =>
    rw [hg] at hk
    have hk : forceV v (fun v => k v st) = true := hk
    rw [forceV_eq] at hk
    exact ⟨v, st, by show (match g args st with | some v => some (v, st) | none => none) = _; rw [hg], hk⟩

section
variable {P : Program} {ρ : Nat → Value} {base : Bs}

/-- A function by its contract: it reads, hands back a value, what was there is as it was. -/
theorem hookS_ok {f : Nat} {fn : Func} (h1 : P.funcs[f]? = some fn) (h2 : fn.body.isSome = true) (h3 : fn.name ≠ "runtime.NumGoroutine") {g : List V → St → Option V}
    (hc : ∀ args st v, g args st = some v → ∀ γ c w xs, RL γ ρ args xs → Rel γ ρ base c w → Full γ c st → Calls P f xs.toArray w fun e w' => ∃ y, e = .returned y ∧ R γ ρ v y ∧ Below w.heap.size w w') :
    BodyOK P ρ base f (hookSE g).b := by
  intro self _ args st v st' he hw
  have he : (match g args st with
    | some v => some (v, st)
    | none => none) = some (v, st') := he
  split at he
  · rename_i u hg
    injection he with he; injection he with e1 e2; subst e1; subst e2
    refine ⟨Mono.refl hw, ⟨fn, h1, h2, h3⟩, fun γ c w xs hx hrel hfull _ => ?_⟩
    refine (hc args st u hg γ c w xs hx hrel hfull).mono fun e w' ⟨y, e1, e2, e3⟩ => ?_
    exact ⟨y, γ, c, e1, e2, hrel.below e3, Ext.refl _, fun _ k => .inl k, fun _ _ => rfl, fun _ k => absurd rfl k, e3.mono hrel.low⟩
  · cases he

/-- What lies at a row's place. -/
theorem row_cells {γ : Locs} {c : Pt → Row} {st : St} {w : World} (hrel : Rel γ ρ base c w) (hf : Full γ c st) {r : Pt} {o : Nat} {lo : Loc} (hγ : γ r = some lo) {n : Nat} {cs : List V} (h : loadN st n (.ptr r o) = some cs) :
    cs.length = n ∧ ∀ i v, cs[i]? = some v → ∃ x, w.cell? ⟨lo.b, lo.o + o + i, none⟩ = some x ∧ R γ ρ v x := by
  unfold loadN at h
  simp only [] at h
  have get : ∀ (l : List V), o + n ≤ l.length → ∀ i v, ((l.drop o).take n)[i]? = some v → l[o + i]? = some v := fun l hl i v hi => by
    rw [List.getElem?_take] at hi
    split at hi
    · rw [List.getElem?_drop] at hi; exact hi
    · cases hi
  split at h
  · rename_i t l hl
    split at h
    · rename_i hle
      injection h with h; subst h
      refine ⟨by simp; omega, fun i v hi => ?_⟩
      have hc : c r = .cells t l := by rw [hf r (by rw [hγ]; intro e; cases e) (by rw [hl]; intro e; cases e), hl]
      obtain ⟨l', k1, k2⟩ := hrel.row r (by rw [hc]; intro e; cases e)
      rw [hγ] at k1; injection k1 with k1; subst k1
      rw [hc] at k2
      obtain ⟨arr, elem, fz, m1, m2, m3, m4, m5⟩ := k2
      obtain ⟨x, hx1, hx2⟩ := m4 _ _ (get l hle i v hi)
      refine ⟨x, ?_, hx2⟩
      rw [show lo.o + o + i = lo.o + (o + i) by omega]
      simp [World.cell?, m1, hx1]
    · cases h
  · rename_i l hl
    split at h
    · rename_i hle
      injection h with h; subst h
      refine ⟨by simp; omega, fun i v hi => ?_⟩
      have hc : c r = .ro l := by rw [hf r (by rw [hγ]; intro e; cases e) (by rw [hl]; intro e; cases e), hl]
      obtain ⟨l', k1, k2⟩ := hrel.row r (by rw [hc]; intro e; cases e)
      rw [hγ] at k1; injection k1 with k1; subst k1
      rw [hc] at k2
      obtain ⟨arr, elem, fz, x, m1, m2, m3⟩ := k2 _ _ (get l hle i v hi)
      refine ⟨x, ?_, m3⟩
      rw [show lo.o + o + i = lo.o + (o + i) by omega]
      simp [World.cell?, m1, m2]
    · cases h
  · cases h
end

/-- The last of a list that is such. -/
def lastAt {α : Type} (p : α → Bool) : List α → Option Nat
  | [] => none
  | x :: r => match lastAt p r with
    | some i => some (i + 1)
    | none => if p x then some 0 else none
theorem lastAt_some {α : Type} {p : α → Bool} : ∀ {l : List α} {i : Nat}, lastAt p l = some i → ∃ h : i < l.length, p l[i] = true ∧ ∀ j (hj : j < l.length), i < j → p l[j] = false
  | [], _, h => by cases h
  | x :: r, i, h => by
    unfold lastAt at h
    cases hr : lastAt p r with
    | some k =>
      rw [hr] at h
      injection h with h; subst h
      obtain ⟨h1, h2, h3⟩ := lastAt_some hr
      refine ⟨by simpa using h1, by simpa using h2, fun j hj hlt => ?_⟩
      cases j with
      | zero => omega
      | succ j => simpa using h3 j (by simpa using hj) (by omega)
    | none =>
      rw [hr] at h
      simp only [] at h
      split at h
      · rename_i hp
        injection h with h; subst h
        refine ⟨by simp, by simpa using hp, fun j hj hlt => ?_⟩
        cases j with
        | zero => omega
        | succ j => simpa using lastAt_none hr _ (List.getElem_mem (by simpa using hj))
      · cases h
where lastAt_none {α : Type} {p : α → Bool} : ∀ {l : List α}, lastAt p l = none → ∀ x ∈ l, p x = false
  | [], _, x, hx => by cases hx
  | y :: r, h, x, hx => by
    unfold lastAt at h
    cases hr : lastAt p r with
    | some k => rw [hr] at h; cases h
    | none =>
      rw [hr] at h
      simp only [] at h
      split at h
      · cases h
      · rename_i hp
        rcases List.mem_cons.1 hx with e | e
        · subst e; simpa using hp
        · exact lastAt_none hr x e

/-- A row of names and types. -/
def pairsOf : List V → Option (List (Nat × Nat × Int))
  | [] => some []
  | .str n v :: .int .i64 t :: r => (pairsOf r).map fun l => (n, v, t) :: l
  | _ => none
theorem pairsOf_at : ∀ {cs : List V} {l : List (Nat × Nat × Int)}, pairsOf cs = some l → cs.length = 2 * l.length ∧ ∀ i (h : i < l.length), cs[2 * i]? = some (.str l[i].1 l[i].2.1) ∧ cs[2 * i + 1]? = some (.int .i64 l[i].2.2)
  | [], l, h => by injection h with h; subst h; exact ⟨rfl, fun i h => by simp at h⟩
  | .str n v :: .int .i64 t :: r, l, h => by
    simp only [pairsOf] at h
    cases hr : pairsOf r with
    | none => rw [hr] at h; cases h
    | some m =>
      rw [hr] at h
      injection h with h; subst h
      obtain ⟨h1, h2⟩ := pairsOf_at hr
      refine ⟨by simp [h1]; omega, fun i hi => ?_⟩
      cases i with
      | zero => exact ⟨rfl, rfl⟩
      | succ i =>
        obtain ⟨k1, k2⟩ := h2 i (by simpa using hi)
        refine ⟨?_, ?_⟩
        · rw [show 2 * (i + 1) = 2 * i + 1 + 1 by omega]; simpa using k1
        · rw [show 2 * (i + 1) + 1 = 2 * i + 1 + 1 + 1 by omega]; simpa using k2

/-- place: where the last variable of a name is; of no name, the dot. -/
def placeG : List V → St → Option V
  | [.agg [.int .i64 _, vars, nar], .str n v], st => match slen nar with
    | none => none
    | some _ => match slen vars with
      | none => none
      | some k => if 100000 < k then none else if n = 0 then some (.tup [.int .i64 (-1), .bool true]) else match (sliceCells st 2 k vars).bind pairsOf with
        | none => none
        | some l => match lastAt (fun p => p.1 == n && p.2.1 == v) l with
          | some i => some (.tup [.int .i64 i, .bool true])
          | none => some (.tup [.int .i64 (-1), .bool false])
  | _, _ => none

/-- A slice of names and types lies so. -/
def VarsAt (w : World) (a : Option Addr) (zs : List (ByteArray × Int)) : Prop :=
  zs = [] ∨ ∃ b off, a = some ⟨b, off, none⟩ ∧ b < w.heap.size ∧ ∀ j (h : j < zs.length), w.cell? ⟨b, off + 2 * j, none⟩ = some (.string zs[j].1) ∧ w.cell? ⟨b, off + 2 * j + 1, none⟩ = some (.int .i64 zs[j].2)

theorem vars_at {ρ : Nat → Value} {base : Bs} {γ : Locs} {c : Pt → Row} {st : St} {w : World} (hrel : Rel γ ρ base c w) (hf : Full γ c st) {vars : V} {x : Value} (hx : R γ ρ vars x) {k : Nat} (hk : slen vars = some k) {cs : List V} (hc : sliceCells st 2 k vars = some cs)
    {l : List (Nat × Nat × Int)} (hl : pairsOf cs = some l) : l.length = k ∧ ∃ a cap zs, x = .slice a k cap ∧ zs.length = k ∧ VarsAt w a zs ∧ ∀ i (h : i < l.length) (h2 : i < zs.length), zs[i].1.data.toList.length = l[i].1 ∧ snum zs[i].1.data.toList = l[i].2.1 ∧ zs[i].2 = l[i].2.2 := by
  obtain ⟨p1, p2⟩ := pairsOf_at hl
  have empty : k = 0 → ∀ a cap, x = .slice a k cap → cs.length = 2 * k → l.length = k ∧ ∃ a cap zs, x = .slice a k cap ∧ zs.length = k ∧ VarsAt w a zs ∧ ∀ i (h : i < l.length) (h2 : i < zs.length), zs[i].1.data.toList.length = l[i].1 ∧ snum zs[i].1.data.toList = l[i].2.1 ∧ zs[i].2 = l[i].2.2 := by
    intro h0 a cap hx hcs
    exact ⟨by omega, a, cap, [], hx, by simp [h0], .inl rfl, fun i h h2 => by simp at h2⟩
  have full : ∀ r o ad cap lo, γ r = some lo → x = .slice (some ad) k cap → k ≤ cap → (cap ≠ 0 → ad = ⟨lo.b, lo.o + o, none⟩) → loadN st (k * 2) (.ptr r o) = some cs → l.length = k ∧ ∃ a cap zs, x = .slice a k cap ∧ zs.length = k ∧ VarsAt w a zs ∧ ∀ i (h : i < l.length) (h2 : i < zs.length), zs[i].1.data.toList.length = l[i].1 ∧ snum zs[i].1.data.toList = l[i].2.1 ∧ zs[i].2 = l[i].2.2 := by
    intro r o ad cap lo h1 h2 h3 h4 h5
    obtain ⟨q1, q2⟩ := row_cells hrel hf h1 h5
    by_cases h0 : k = 0
    · exact empty h0 _ _ h2 (by omega)
    have hlk : l.length = k := by omega
    have had := h4 (by omega)
    refine ⟨hlk, some ad, cap, ?_⟩
    have each : ∀ i, ∃ z : ByteArray × Int, ∀ h : i < l.length, w.cell? ⟨lo.b, lo.o + o + 2 * i, none⟩ = some (.string z.1) ∧ w.cell? ⟨lo.b, lo.o + o + 2 * i + 1, none⟩ = some (.int .i64 z.2) ∧ z.1.data.toList.length = l[i].1 ∧ snum z.1.data.toList = l[i].2.1 ∧ z.2 = l[i].2.2 := fun i => by
      by_cases h : i < l.length
      · obtain ⟨r1, r2⟩ := p2 i h
        obtain ⟨x1, a1, s, a2, a3, a4⟩ := q2 _ _ r1
        obtain ⟨x2, b1, b2⟩ := q2 _ _ r2
        have b2 : x2 = .int .i64 l[i].2.2 := b2
        exact ⟨(s, l[i].2.2), fun _ => ⟨by rw [a1, a2], by rw [show lo.o + o + 2 * i + 1 = lo.o + o + (2 * i + 1) by omega, b1, b2], a3, a4, rfl⟩⟩
      · exact ⟨default, fun k => absurd k h⟩
    refine ⟨(List.range k).map fun i => Classical.choose (each i), h2, by simp, .inr ⟨lo.b, lo.o + o, by rw [had], (hrel.loc r lo h1).2, fun j hj => ?_⟩, fun i hi hi2 => ?_⟩
    · have hj' : j < k := by simpa using hj
      have := Classical.choose_spec (each j) (by omega)
      simp only [List.getElem_map, List.getElem_range]
      exact ⟨this.1, this.2.1⟩
    · have := Classical.choose_spec (each i) hi
      simp only [List.getElem_map, List.getElem_range]
      exact this.2.2
  unfold slen at hk
  split at hk
  · injection hk with hk; subst hk
    have hcs : cs = [] := by simpa [sliceCells] using hc.symm
    exact empty rfl none 0 hx (by rw [hcs]; rfl)
  · rename_i r o m z
    injection hk with hk; subst hk
    unfold sliceCells at hc
    simp only [] at hc
    split at hc
    · obtain ⟨lo, ad, cp, k1, k2, k3, k4, _⟩ := hx
      exact full r o ad cp lo k1 k2 k3 k4 hc
    · cases hc
  · rename_i r o m z cp
    injection hk with hk; subst hk
    unfold sliceCells at hc
    simp only [] at hc
    split at hc
    · obtain ⟨lo, ad, k1, k2, k3, k4, _⟩ := hx
      exact full r o ad cp lo k1 k2 k3 k4 hc
    · cases hc
  · cases hk

theorem slice_of_len {γ : Locs} {ρ : Nat → Value} {v : V} {x : Value} (hx : R γ ρ v x) {k : Nat} (hk : slen v = some k) : ∃ a cap, x = .slice a k cap := by
  unfold slen at hk
  split at hk
  · injection hk with hk; subst hk; exact ⟨none, 0, hx⟩
  · injection hk with hk; subst hk
    obtain ⟨lo, ad, cp, k1, k2, _⟩ := hx
    exact ⟨_, _, k2⟩
  · injection hk with hk; subst hk
    obtain ⟨lo, ad, k1, k2, _⟩ := hx
    exact ⟨_, _, k2⟩
  · cases hk

/-- What the program's place has to do. -/
def PlaceDoes (P : Program) (f : Nat) : Prop := ∀ (w : World) (d : Int) (a : Option Addr) (cap : Nat) (b : Option Addr) (m cap2 : Nat) (s : ByteArray) (zs : List (ByteArray × Int)), zs.length ≤ 100000 → (s.size ≠ 0 → VarsAt w a zs) →
  Calls P f #[.agg #[.int .i64 d, .slice a zs.length cap, .slice b m cap2], .string s] w fun e w' => Below w.heap.size w w' ∧
    ((s.size = 0 ∧ e = .returned (.tuple #[.int .i64 (-1), .bool true])) ∨
     (s.size ≠ 0 ∧ ∃ k : Nat, ∃ h : k < zs.length, e = .returned (.tuple #[.int .i64 k, .bool true]) ∧ zs[k].1 = s ∧ ∀ j (hj : j < zs.length), k < j → zs[j].1 ≠ s) ∨
     (s.size ≠ 0 ∧ e = .returned (.tuple #[.int .i64 (-1), .bool false]) ∧ ∀ j (hj : j < zs.length), zs[j].1 ≠ s))

theorem ba_eq {a b : ByteArray} (h1 : a.data.toList.length = b.data.toList.length) (h2 : snum a.data.toList = snum b.data.toList) : a = b := by
  have := snum_inj h1 h2
  cases a; cases b
  simpa using this

theorem placeE_B {P : Program} {ρ : Nat → Value} {base : Bs} {f : Nat} {fn : Func} (h1 : P.funcs[f]? = some fn) (h2 : fn.body.isSome = true) (h3 : fn.name ≠ "runtime.NumGoroutine") (hp : PlaceDoes P f) : BodyOK P ρ base f (hookSE placeG).b :=
  hookS_ok h1 h2 h3 fun args st v hv γ c w xs hx hrel hf => by
    unfold placeG at hv
    split at hv
    · rename_i st d vars nar n u
      obtain ⟨y, ys, e1, ⟨fs, e2, d', fs1, e3, ed, sv, fs2, e4, hsv, nv, fs3, e5, hnv, e6⟩, y', ys', e7, ⟨s, e8, e9, e10⟩, e11⟩ := hx
      simp only [RL] at e6 e11
      have ed : d' = .int .i64 d := ed
      subst e11; subst e8; subst e7; subst e6; subst e5; subst e4; subst ed; subst e3; subst e2; subst e1
      have hsz : s.size = n := by rw [← e9, ← ByteArray.size_data, ← Array.length_toList]
      split at hv
      · cases hv
      rename_i m hm
      obtain ⟨b, cap2, eb⟩ := slice_of_len hnv hm
      subst eb
      split at hv
      · cases hv
      rename_i k hk
      split at hv
      · cases hv
      rename_i hle
      split at hv
      · rename_i hn
        injection hv with hv; subst hv
        obtain ⟨a, cap, ea⟩ := slice_of_len hsv hk
        subst ea
        obtain ⟨zs, hz⟩ : ∃ zs : List (ByteArray × Int), zs.length = k := ⟨List.replicate k default, by simp⟩
        subst hz
        have := hp w d a cap b m cap2 s zs (by omega) (fun e => absurd (by omega) e)
        refine this.mono fun e w' ⟨hb, h⟩ => ?_
        rcases h with ⟨_, e1⟩ | ⟨h, _⟩ | ⟨h, _⟩
        · exact ⟨_, e1, ⟨[.int .i64 (-1), .bool true], rfl, _, _, rfl, rfl, _, _, rfl, rfl, rfl⟩, hb⟩
        · exact absurd (by omega) h
        · exact absurd (by omega) h
      · rename_i hn
        split at hv
        · cases hv
        rename_i l hl
        obtain ⟨cs, hcs, hl⟩ := Option.bind_eq_some_iff.1 hl
        obtain ⟨hlk, a, cap, zs, ea, hz, hva, hzs⟩ := vars_at hrel hf hsv hk hcs hl
        subst ea
        subst hz
        refine (hp w d a cap b m cap2 s zs (by omega) (fun _ => hva)).mono fun e w' ⟨hb, h⟩ => ?_
        have key : ∀ i (h : i < l.length) (h2 : i < zs.length), (zs[i].1 = s ↔ (l[i].1 == n && l[i].2.1 == u) = true) := fun i h h2 => by
          obtain ⟨q1, q2, _⟩ := hzs i h h2
          simp only [Bool.and_eq_true, beq_iff_eq]
          constructor
          · intro e; rw [← q1, ← q2, e]; exact ⟨e9, e10⟩
          · rintro ⟨a1, a2⟩; exact ba_eq (by rw [q1, a1, e9]) (by rw [q2, a2, e10])
        split at hv
        · rename_i i hi
          injection hv with hv; subst hv
          obtain ⟨i1, i2, i3⟩ := lastAt_some hi
          have a1 := (key i i1 (by omega)).2 i2
          rcases h with ⟨h, _⟩ | ⟨_, j, hj, e1, e2, e3⟩ | ⟨_, e1, e2⟩
          · omega
          · have : i = j := by
              rcases Nat.lt_trichotomy i j with q | q | q
              · have := i3 j (by omega) q
                rw [(key j (by omega) hj).1 e2] at this
                cases this
              · exact q
              · exact absurd a1 (e3 i (by omega) q)
            subst this
            exact ⟨_, e1, ⟨[_, _], rfl, _, _, rfl, rfl, _, _, rfl, rfl, rfl⟩, hb⟩
          · exact absurd a1 (e2 i (by omega))
        · rename_i hi
          injection hv with hv; subst hv
          have no := lastAt_some.lastAt_none hi
          rcases h with ⟨h, _⟩ | ⟨_, j, hj, e1, e2, e3⟩ | ⟨_, e1, e2⟩
          · omega
          · have := no _ (List.getElem_mem (show j < l.length by omega))
            rw [(key j (by omega) hj).1 e2] at this
            cases this
          · exact ⟨_, e1, ⟨[_, _], rfl, _, _, rfl, rfl, _, _, rfl, rfl, rfl⟩, hb⟩
    · cases hv

/-- Narrows, told by the places that they are of. -/
def narsOf : List V → Option (List Int)
  | [] => some []
  | .int .i64 v :: p :: .int .i64 _ :: r => if (slen p).isSome then (narsOf r).map fun l => v :: l else none
  | _ => none
theorem narsOf_at : ∀ {cs : List V} {l : List Int}, narsOf cs = some l → cs.length = 3 * l.length ∧ ∀ i (h : i < l.length), cs[3 * i]? = some (.int .i64 l[i]) ∧ (∃ p k, cs[3 * i + 1]? = some p ∧ slen p = some k) ∧ ∃ t, cs[3 * i + 2]? = some (.int .i64 t)
  | [], l, h => by injection h with h; subst h; exact ⟨rfl, fun i h => by simp at h⟩
  | .int .i64 v :: p :: .int .i64 t :: r, l, h => by
    simp only [narsOf] at h
    split at h
    · rename_i hp
      cases hr : narsOf r with
      | none => rw [hr] at h; cases h
      | some m =>
        rw [hr] at h
        injection h with h; subst h
        obtain ⟨h1, h2⟩ := narsOf_at hr
        obtain ⟨k, hk⟩ := Option.isSome_iff_exists.1 hp
        refine ⟨by simp [h1]; omega, fun i hi => ?_⟩
        cases i with
        | zero => exact ⟨rfl, ⟨p, k, rfl, hk⟩, t, rfl⟩
        | succ i =>
          obtain ⟨k1, ⟨q, m, k2, k3⟩, u, k4⟩ := h2 i (by simpa using hi)
          refine ⟨?_, ⟨q, m, ?_, k3⟩, u, ?_⟩
          · rw [show 3 * (i + 1) = 3 * i + 1 + 1 + 1 by omega]; simpa using k1
          · rw [show 3 * (i + 1) + 1 = 3 * i + 1 + 1 + 1 + 1 by omega]; simpa using k2
          · rw [show 3 * (i + 1) + 2 = 3 * i + 2 + 1 + 1 + 1 by omega]; simpa using k4
    · cases h

abbrev Nar := Int × (Option Addr × Nat × Nat) × Int
/-- Narrows lie so. -/
def NarsAt (w : World) (a : Option Addr) (ns : List Nar) : Prop :=
  ns = [] ∨ ∃ b off, a = some ⟨b, off, none⟩ ∧ b < w.heap.size ∧ ∀ j (h : j < ns.length), w.cell? ⟨b, off + 3 * j, none⟩ = some (.int .i64 ns[j].1) ∧ w.cell? ⟨b, off + 3 * j + 1, none⟩ = some (.slice ns[j].2.1.1 ns[j].2.1.2.1 ns[j].2.1.2.2) ∧ w.cell? ⟨b, off + 3 * j + 2, none⟩ = some (.int .i64 ns[j].2.2)

theorem nars_at {ρ : Nat → Value} {base : Bs} {γ : Locs} {c : Pt → Row} {st : St} {w : World} (hrel : Rel γ ρ base c w) (hf : Full γ c st) {vars : V} {x : Value} (hx : R γ ρ vars x) {k : Nat} (hk : slen vars = some k) {cs : List V} (hc : sliceCells st 3 k vars = some cs)
    {l : List Int} (hl : narsOf cs = some l) : l.length = k ∧ ∃ a cap ns, x = .slice a k cap ∧ ns.length = k ∧ NarsAt w a ns ∧ ∀ i (h : i < l.length) (h2 : i < ns.length), ns[i].1 = l[i] := by
  obtain ⟨p1, p2⟩ := narsOf_at hl
  have empty : k = 0 → ∀ a cap, x = .slice a k cap → cs.length = 3 * k → l.length = k ∧ ∃ a cap ns, x = .slice a k cap ∧ ns.length = k ∧ NarsAt w a ns ∧ ∀ i (h : i < l.length) (h2 : i < ns.length), ns[i].1 = l[i] := by
    intro h0 a cap hx hcs
    exact ⟨by omega, a, cap, [], hx, by simp [h0], .inl rfl, fun i h h2 => by simp at h2⟩
  have full : ∀ r o ad cap lo, γ r = some lo → x = .slice (some ad) k cap → k ≤ cap → (cap ≠ 0 → ad = ⟨lo.b, lo.o + o, none⟩) → loadN st (k * 3) (.ptr r o) = some cs → l.length = k ∧ ∃ a cap ns, x = .slice a k cap ∧ ns.length = k ∧ NarsAt w a ns ∧ ∀ i (h : i < l.length) (h2 : i < ns.length), ns[i].1 = l[i] := by
    intro r o ad cap lo h1 h2 h3 h4 h5
    obtain ⟨q1, q2⟩ := row_cells hrel hf h1 h5
    by_cases h0 : k = 0
    · exact empty h0 _ _ h2 (by omega)
    have hlk : l.length = k := by omega
    have had := h4 (by omega)
    refine ⟨hlk, some ad, cap, ?_⟩
    have each : ∀ i, ∃ z : Nar, ∀ h : i < l.length, w.cell? ⟨lo.b, lo.o + o + 3 * i, none⟩ = some (.int .i64 z.1) ∧ w.cell? ⟨lo.b, lo.o + o + 3 * i + 1, none⟩ = some (.slice z.2.1.1 z.2.1.2.1 z.2.1.2.2) ∧ w.cell? ⟨lo.b, lo.o + o + 3 * i + 2, none⟩ = some (.int .i64 z.2.2) ∧ z.1 = l[i] := fun i => by
      by_cases h : i < l.length
      · obtain ⟨r1, ⟨p, m, r2, r3⟩, t, r4⟩ := p2 i h
        obtain ⟨x1, a1, a2⟩ := q2 _ _ r1
        obtain ⟨x2, b1, b2⟩ := q2 _ _ r2
        obtain ⟨x3, c1, c2⟩ := q2 _ _ r4
        obtain ⟨pa, pc, rfl⟩ := slice_of_len b2 r3
        have a2 : x1 = .int .i64 l[i] := a2
        have c2 : x3 = .int .i64 t := c2
        exact ⟨(l[i], (pa, m, pc), t), fun _ => ⟨by rw [a1, a2], by rw [show lo.o + o + 3 * i + 1 = lo.o + o + (3 * i + 1) by omega, b1], by rw [show lo.o + o + 3 * i + 2 = lo.o + o + (3 * i + 2) by omega, c1, c2], rfl⟩⟩
      · exact ⟨default, fun k => absurd k h⟩
    refine ⟨(List.range k).map fun i => Classical.choose (each i), h2, by simp, .inr ⟨lo.b, lo.o + o, by rw [had], (hrel.loc r lo h1).2, fun j hj => ?_⟩, fun i hi hi2 => ?_⟩
    · have hj' : j < k := by simpa using hj
      have := Classical.choose_spec (each j) (by omega)
      simp only [List.getElem_map, List.getElem_range]
      exact ⟨this.1, this.2.1, this.2.2.1⟩
    · have := Classical.choose_spec (each i) hi
      simp only [List.getElem_map, List.getElem_range]
      exact this.2.2.2
  unfold slen at hk
  split at hk
  · injection hk with hk; subst hk
    have hcs : cs = [] := by simpa [sliceCells] using hc.symm
    exact empty rfl none 0 hx (by rw [hcs]; rfl)
  · rename_i r o m z
    injection hk with hk; subst hk
    unfold sliceCells at hc
    simp only [] at hc
    split at hc
    · obtain ⟨lo, ad, cp, k1, k2, k3, k4, _⟩ := hx
      exact full r o ad cp lo k1 k2 k3 k4 hc
    · cases hc
  · rename_i r o m z cp
    injection hk with hk; subst hk
    unfold sliceCells at hc
    simp only [] at hc
    split at hc
    · obtain ⟨lo, ad, k1, k2, k3, k4, _⟩ := hx
      exact full r o ad cp lo k1 k2 k3 k4 hc
    · cases hc
  · cases hk

/-- set: may a variable be set? -/
def setG : List V → St → Option V
  | [_, .agg [.int .i64 _, vars, nar], .str n v, .int .i64 id], st => match slen vars, slen nar with
    | some k, some m => if 100000 < k ∨ 100000 < m then none else match (sliceCells st 2 k vars).bind pairsOf, (sliceCells st 3 m nar).bind narsOf with
      | some l, some q => some (.int .i64 (match lastAt (fun p => p.1 == n && p.2.1 == v) l with
        | none => 15
        | some i => if (l.getD i default).2.2 = id ∧ q.contains (i : Int) = false then 0 else 17))
      | _, _ => none
    | _, _ => none
  | _, _ => none

/-- What the program's set has to do. -/
def SetDoes (P : Program) (f : Nat) : Prop := ∀ (w : World) (pw : Value) (d : Int) (a : Option Addr) (cap : Nat) (b : Option Addr) (cap2 : Nat) (s : ByteArray) (id : Int) (zs : List (ByteArray × Int)) (ns : List Nar), zs.length ≤ 100000 → ns.length ≤ 100000 → VarsAt w a zs → NarsAt w b ns →
  Calls P f #[pw, .agg #[.int .i64 d, .slice a zs.length cap, .slice b ns.length cap2], .string s, .int .i64 id] w fun e w' => Below w.heap.size w w' ∧
    ((∃ k : Nat, ∃ h : k < zs.length, zs[k].1 = s ∧ (∀ j (hj : j < zs.length), k < j → zs[j].1 ≠ s) ∧
        (((zs[k].2 ≠ id ∨ ∃ j, ∃ hj : j < ns.length, ns[j].1 = (k : Int)) ∧ e = .returned (.int .i64 17)) ∨ ((zs[k].2 = id ∧ ∀ j (hj : j < ns.length), ns[j].1 ≠ (k : Int)) ∧ e = .returned (.int .i64 0)))) ∨
     (e = .returned (.int .i64 15) ∧ ∀ j (hj : j < zs.length), zs[j].1 ≠ s))

theorem setE_B {P : Program} {ρ : Nat → Value} {base : Bs} {f : Nat} {fn : Func} (h1 : P.funcs[f]? = some fn) (h2 : fn.body.isSome = true) (h3 : fn.name ≠ "runtime.NumGoroutine") (hp : SetDoes P f) : BodyOK P ρ base f (hookSE setG).b :=
  hookS_ok h1 h2 h3 fun args st v hv γ c w xs hx hrel hf => by
    unfold setG at hv
    split at hv
    · rename_i st pw d vars nar n u id
      obtain ⟨y0, ys0, e0, hpw, y, ys, e1, ⟨fs, e2, d', fs1, e3, ed, sv, fs2, e4, hsv, nv, fs3, e5, hnv, e6⟩, y', ys', e7, ⟨s, e8, e9, e10⟩, y2, ys2, e12, eid, e11⟩ := hx
      simp only [RL] at e6 e11
      have ed : d' = .int .i64 d := ed
      have eid : y2 = .int .i64 id := eid
      subst e11; subst eid; subst e12; subst e8; subst e7; subst e6; subst e5; subst e4; subst ed; subst e3; subst e2; subst e1; subst e0
      split at hv
      · rename_i k m hk hm
        split at hv
        · cases hv
        rename_i hle
        split at hv
        · rename_i l q hl hq
          obtain ⟨cs, hcs, hl⟩ := Option.bind_eq_some_iff.1 hl
          obtain ⟨ds, hds, hq⟩ := Option.bind_eq_some_iff.1 hq
          obtain ⟨hlk, a, cap, zs, ea, hz, hva, hzs⟩ := vars_at hrel hf hsv hk hcs hl
          obtain ⟨hqm, b, cap2, ns, eb, hn, hna, hns⟩ := nars_at hrel hf hnv hm hds hq
          subst ea; subst eb
          subst hz; subst hn
          injection hv with hv; subst hv
          refine (hp w y0 d a cap b cap2 s id zs ns (by omega) (by omega) hva hna).mono fun e w' ⟨hb, h⟩ => ?_
          have key : ∀ i (h : i < l.length) (h2 : i < zs.length), (zs[i].1 = s ↔ (l[i].1 == n && l[i].2.1 == u) = true) := fun i h h2 => by
            obtain ⟨q1, q2, _⟩ := hzs i h h2
            simp only [Bool.and_eq_true, beq_iff_eq]
            constructor
            · intro e; rw [← q1, ← q2, e]; exact ⟨e9, e10⟩
            · rintro ⟨a1, a2⟩; exact ba_eq (by rw [q1, a1, e9]) (by rw [q2, a2, e10])
          have kn : ∀ i : Int, q.contains i = true ↔ ∃ j, ∃ hj : j < ns.length, ns[j].1 = i := fun i => by
            rw [List.contains_iff_mem, List.mem_iff_getElem]
            constructor
            · rintro ⟨j, hj, e⟩; exact ⟨j, by omega, by rw [hns j hj (by omega), e]⟩
            · rintro ⟨j, hj, e⟩; exact ⟨j, by omega, by rw [← hns j (by omega) hj, e]⟩
          split
          · rename_i hi
            have no := lastAt_some.lastAt_none hi
            rcases h with ⟨k, hk, e1, _⟩ | ⟨e1, _⟩
            · have := no _ (List.getElem_mem (show k < l.length by omega))
              rw [(key k (by omega) hk).1 e1] at this
              cases this
            · exact ⟨_, e1, rfl, hb⟩
          · rename_i i hi
            obtain ⟨i1, i2, i3⟩ := lastAt_some hi
            have a1 := (key i i1 (by omega)).2 i2
            rcases h with ⟨k, hk, e1, e2, h⟩ | ⟨_, h⟩
            · have : i = k := by
                rcases Nat.lt_trichotomy i k with q | q | q
                · have := i3 k (by omega) q
                  rw [(key k (by omega) hk).1 e1] at this
                  cases this
                · exact q
                · exact absurd a1 (e2 i (by omega) q)
              subst this
              have ht : (l.getD i default).2.2 = zs[i].2 := by
                rw [List.getD_eq_getElem?_getD, List.getElem?_eq_getElem i1]
                exact (hzs i i1 hk).2.2.symm
              rw [ht]
              rcases h with ⟨h, e3⟩ | ⟨⟨h, h'⟩, e3⟩
              · rw [if_neg]
                · exact ⟨_, e3, rfl, hb⟩
                · rintro ⟨g1, g2⟩
                  rcases h with h | h
                  · exact h g1
                  · rw [(kn _).2 h] at g2; cases g2
              · rw [if_pos]
                · exact ⟨_, e3, rfl, hb⟩
                · refine ⟨h, ?_⟩
                  cases g : q.contains (i : Int) with
                  | false => rfl
                  | true =>
                    obtain ⟨j, hj, e⟩ := (kn _).1 g
                    exact absurd e (h' j hj)
            · exact absurd a1 (h i (by omega))
        · cases hv
      · cases hv
    · cases hv
end Eva
