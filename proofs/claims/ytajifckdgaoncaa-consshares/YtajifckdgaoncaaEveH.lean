/- What a law is handed: raw trees, opened; rows that are there ahead of all. -/
import Derived.Test.YtajifckdgaoncaaEvdZ
import Derived.Test.YtajifckdgaoncaaEvd9
import Derived.ChangeArms
namespace Eva
open Go Go.RowKit Go.ChangeShapes
set_option linter.unusedVariables false
abbrev Rws := List (List V × Loc)
def rosA (A : Rws) : St := rosR (A.map Prod.fst).reverse
def locA (A : Rws) (i : Nat) : Loc := (A.getD i ([], ⟨0, 0, 0⟩)).2
def gA (A : Rws) : Locs := rosG (A.map Prod.fst).reverse.length (locA A)
def RowsOK (ρ : Nat → Value) (w : World) (A : Rws) : Prop := ∀ A', A <+: A' → ∀ i (h : i < A.length), RowOK (gA A') ρ A[i].2 (.ro A[i].1) w ∧ A[i].2.b < w.heap.size
theorem pre_at {A A' : Rws} (h : A <+: A') {i : Nat} (hi : i < A.length) : ∃ h' : i < A'.length, A'[i] = A[i] := by
  obtain ⟨C, rfl⟩ := h
  exact ⟨by simp; omega, List.getElem_append_left hi⟩
theorem rosA_len (A : Rws) : (A.map Prod.fst).reverse.length = A.length := by simp
theorem rosA_at {A A' : Rws} (h : A <+: A') {i : Nat} (hi : i < A.length) : (rosA A').row (Pt.nth i) = .ro A[i].1 := by
  obtain ⟨h', e⟩ := pre_at h hi
  unfold rosA
  rw [rosR_row, Pt.num_nth, rosA_len, if_pos h']
  congr 1
  rw [List.getD_eq_getElem?_getD, List.getElem?_reverse (by simp; omega)]
  have : (A'.map Prod.fst).length - 1 - (A'.length - 1 - i) = i := by simp; omega
  rw [this, List.getElem?_map, List.getElem?_eq_getElem h', e]
  rfl
theorem gA_at {A A' : Rws} (h : A <+: A') {i : Nat} (hi : i < A.length) : gA A' (Pt.nth i) = some A[i].2 := by
  obtain ⟨h', e⟩ := pre_at h hi
  unfold gA rosG locA
  rw [rosA_len, Pt.num_nth, if_pos h', List.getD_eq_getElem?_getD, List.getElem?_eq_getElem h', e]
  rfl
theorem RowsOK.nil (ρ : Nat → Value) (w : World) : RowsOK ρ w [] := fun _ _ i h => absurd h (by simp)
theorem RowsOK.snoc {ρ : Nat → Value} {w : World} {A : Rws} (h : RowsOK ρ w A) {l : List V} {lo : Loc} (hb : lo.b < w.heap.size) (k : ∀ A', A ++ [(l, lo)] <+: A' → RowOK (gA A') ρ lo (.ro l) w) : RowsOK ρ w (A ++ [(l, lo)]) := by
  intro A' hp i hi
  rcases Nat.lt_or_ge i A.length with c | c
  · rw [List.getElem_append_left c]
    exact h A' ((List.prefix_append _ _).trans hp) i c
  · have e : i = A.length := by simp at hi; omega
    subst e
    simp only [List.getElem_concat_length]
    exact ⟨k A' hp, hb⟩
theorem does_callsA {P : Program} {ρ : Nat → Value} {w : World} {t : BT} (hB : t.all fun i e => BodyOK P ρ ⟨w.heap.size, w⟩ i e.b) {A : Rws} (hA : RowsOK ρ w A)
    {f : Nat} {args : List V} (h : Does (tabT t) f args (rosA A) fun v _ => v = .bool true) {xs : List Value} (hx : RL (gA A) ρ args xs) :
    Calls P f xs.toArray w fun e w' => e = .returned (.bool true) ∧ Below w.heap.size w w' := by
  refine does_calls hB (L := (A.map Prod.fst).reverse) (locs := locA A) (fun i hi => ?_) h hx
  have hi' : i < A.length := by simpa using hi
  have e1 : locA A i = A[i].2 := by unfold locA; rw [List.getD_eq_getElem?_getD, List.getElem?_eq_getElem hi']; rfl
  have e2 : (A.map Prod.fst).reverse.getD ((A.map Prod.fst).reverse.length - 1 - i) [] = A[i].1 := by
    rw [List.getD_eq_getElem?_getD, List.getElem?_reverse (by simp; omega)]
    have : (A.map Prod.fst).length - 1 - ((A.map Prod.fst).reverse.length - 1 - i) = i := by simp; omega
    rw [this, List.getElem?_map, List.getElem?_eq_getElem hi']
    rfl
  rw [e1, e2]
  exact hA A (List.prefix_refl _) i hi'
def OpnC (ρ : Nat → Value) (w : World) (cs : List Value) (K : St → List V → Prop) : Prop := ∀ A, RowsOK ρ w A → ∃ B e, RowsOK ρ w (A ++ B) ∧ ∀ A', A ++ B <+: A' → RL (gA A') ρ e cs ∧ K (rosA A') e
def OpnV (ρ : Nat → Value) (w : World) (v : Value) (K : St → V → Prop) : Prop := ∀ A, RowsOK ρ w A → ∃ B u, RowsOK ρ w (A ++ B) ∧ ∀ A', A ++ B <+: A' → R (gA A') ρ u v ∧ K (rosA A') u
section
variable {ρ : Nat → Value} {w : World}
theorem OpnC.mono {cs : List Value} {K K' : St → List V → Prop} (h : OpnC ρ w cs K) (k : ∀ st e, K st e → K' st e) : OpnC ρ w cs K' := fun A hA => by
  obtain ⟨B, e, h1, h2⟩ := h A hA
  exact ⟨B, e, h1, fun A' hp => ⟨(h2 A' hp).1, k _ _ (h2 A' hp).2⟩⟩
theorem OpnV.mono {v : Value} {K K' : St → V → Prop} (h : OpnV ρ w v K) (k : ∀ st e, K st e → K' st e) : OpnV ρ w v K' := fun A hA => by
  obtain ⟨B, e, h1, h2⟩ := h A hA
  exact ⟨B, e, h1, fun A' hp => ⟨(h2 A' hp).1, k _ _ (h2 A' hp).2⟩⟩
theorem OpnC.nil : OpnC ρ w [] fun _ e => e = [] := fun A hA => ⟨[], [], by simpa using hA, fun A' _ => ⟨rfl, rfl⟩⟩
theorem OpnC.append {cs cs' : List Value} {K K' : St → List V → Prop} (h : OpnC ρ w cs K) (h' : OpnC ρ w cs' K') : OpnC ρ w (cs ++ cs') fun st e => ∃ a b, e = a ++ b ∧ K st a ∧ K' st b := fun A hA => by
  obtain ⟨B, e, h1, h2⟩ := h A hA
  obtain ⟨B', e', h3, h4⟩ := h' _ h1
  refine ⟨B ++ B', e ++ e', by rw [← List.append_assoc]; exact h3, fun A' hp => ?_⟩
  rw [← List.append_assoc] at hp
  obtain ⟨k1, k2⟩ := h2 A' ((List.prefix_append _ _).trans hp)
  obtain ⟨k3, k4⟩ := h4 A' hp
  exact ⟨k1.append k3, _, _, rfl, k2, k4⟩
theorem OpnC.const {cs : List Value} {e : List V} (h : ∀ γ, RL γ ρ e cs) : OpnC ρ w cs fun _ e' => e' = e := fun A hA => ⟨[], e, by simpa using hA, fun A' _ => ⟨h _, rfl⟩⟩
theorem OpnC.one {v : Value} {K : St → List V → Prop} (h : OpnC ρ w [v] K) : OpnV ρ w v fun st u => K st [u] := fun A hA => by
  obtain ⟨B, e, h1, h2⟩ := h A hA
  have l : e.length = 1 := by
    have := (h2 _ (List.prefix_refl _)).1.length
    simpa using this.symm
  match e, l with
  | [u], _ =>
    refine ⟨B, u, h1, fun A' hp => ?_⟩
    obtain ⟨⟨y, ys, e, k1, _⟩, k2⟩ := h2 A' hp
    injection e with e _
    exact ⟨e ▸ k1, k2⟩
theorem OpnV.cell {v : Value} {K : St → V → Prop} (h : OpnV ρ w v K) : OpnC ρ w [v] fun st e => ∃ u, e = [u] ∧ K st u := fun A hA => by
  obtain ⟨B, u, h1, h2⟩ := h A hA
  exact ⟨B, [u], h1, fun A' hp => ⟨⟨_, _, rfl, (h2 A' hp).1, rfl⟩, _, rfl, (h2 A' hp).2⟩⟩
theorem OpnC.agg {cs : List Value} {K : St → List V → Prop} (h : OpnC ρ w cs K) : OpnV ρ w (.agg cs.toArray) fun st u => ∃ e, u = .agg e ∧ K st e := fun A hA => by
  obtain ⟨B, e, h1, h2⟩ := h A hA
  exact ⟨B, .agg e, h1, fun A' hp => ⟨⟨_, rfl, (h2 A' hp).1⟩, _, rfl, (h2 A' hp).2⟩⟩
theorem OpnV.ints {v : Value} {zs : List Int} (h : IntsIn w v zs) (h0 : 0 < w.heap.size) : OpnV ρ w v fun st u => IntsAt st u zs := fun A hA => by
  obtain ⟨lo, hb, hr, hu⟩ := ints_row h h0
  obtain ⟨u, u1, u2⟩ := hu (Pt.nth A.length)
  refine ⟨[(zs.map (V.int .i64), lo)], u, hA.snoc hb fun A' _ => hr _ _, fun A' hp => ?_⟩
  have hl : A.length < (A ++ [(zs.map (V.int .i64), lo)]).length := by simp
  have g1 := gA_at hp hl
  have r1 := rosA_at hp hl
  simp only [List.getElem_concat_length] at g1 r1
  refine ⟨u2 _ _ g1, ?_⟩
  rcases u1 with u1 | u1
  · exact .inl u1
  · exact .inr ⟨_, u1, r1⟩
theorem flat_get {α : Type} {z : Nat} : ∀ {xs : List (List α)}, (∀ x ∈ xs, x.length = z) → ∀ k, k < xs.length * z → ∃ (h : k / z < xs.length), xs.flatten[k]? = (xs[k / z])[k % z]?
  | [], _, k, hk => by simp at hk
  | x :: r, hz, k, hk => by
    have hx := hz x (by simp)
    have z0 : 0 < z := by
      rcases Nat.eq_zero_or_pos z with h | h
      · rw [h] at hk; simp at hk
      · exact h
    rw [List.flatten_cons]
    by_cases c : k < z
    · rw [List.getElem?_append_left (by omega)]
      have e1 : k / z = 0 := Nat.div_eq_of_lt c
      have e2 : k % z = k := Nat.mod_eq_of_lt c
      exact ⟨by rw [e1]; simp, by simp only [e1, e2, List.getElem_cons_zero]⟩
    · have hk' : k - z < r.length * z := by
        rw [List.length_cons, Nat.succ_mul] at hk; omega
      obtain ⟨h1, h2⟩ := flat_get (xs := r) (fun y hy => hz y (List.mem_cons_of_mem _ hy)) (k - z) hk'
      rw [List.getElem?_append_right (by omega), hx, h2]
      have e1 : k / z = (k - z) / z + 1 := by
        have := Nat.add_div_right (k - z) z0
        rw [Nat.sub_add_cancel (by omega)] at this
        exact this
      have e2 : k % z = (k - z) % z := by
        have := Nat.add_mod_right (k - z) z
        rw [Nat.sub_add_cancel (by omega)] at this
        exact this
      exact ⟨by rw [e1]; simpa using h1, by simp only [e1, e2, List.getElem_cons_succ]⟩
theorem OpnC.many {K : List V → St → Rw → Prop} : ∀ {xs : List (List Value)}, (∀ cs ∈ xs, ∃ r, OpnC ρ w cs fun st e => e.length = 4 ∧ K e st r) → ∃ rs : List Rw, rs.length = xs.length ∧ OpnC ρ w xs.flatten fun st e => ∃ es : List (List V), e = es.flatten ∧ (∀ x ∈ es, x.length = 4) ∧ es.length = rs.length ∧ ∀ i (h : i < es.length) (h' : i < rs.length), K es[i] st rs[i]
  | [], _ => ⟨[], rfl, OpnC.nil.mono fun st e h => ⟨[], h, by simp, rfl, fun i h => absurd h (by simp)⟩⟩
  | cs :: xs, hx => by
    obtain ⟨r, hr⟩ := hx cs (by simp)
    obtain ⟨rs, hl, h⟩ := OpnC.many (xs := xs) fun c hc => hx c (List.mem_cons_of_mem _ hc)
    refine ⟨r :: rs, by simp [hl], ?_⟩
    rw [List.flatten_cons]
    refine (hr.append h).mono fun st e ⟨a, b, h1, ⟨h2, h3⟩, es, h4, h5, h6, h7⟩ => ⟨a :: es, by rw [h1, h4]; rfl, ?_, by simp [h6], ?_⟩
    · intro x hx
      rcases List.mem_cons.1 hx with rfl | hx
      · exact h2
      · exact h5 x hx
    · intro i hi hi'
      cases i with
      | zero => exact h3
      | succ i => exact h7 i (by simpa using hi) (by simpa using hi')
end
theorem OpnV.rows {ρ : Nat → Value} {w : World} (h0 : 0 < w.heap.size) {a : Addr} {len cap : Nat} (hl : len ≤ cap) {xs : List (List Value)} (hx : xs.length = len) (hz : ∀ x ∈ xs, x.length = 4) (hc : ∀ k, k < len * 4 → w.cell? (a.add k) = xs.flatten[k]?) (hcap : 0 < cap → ∃ v, w.cell? a = some v) {K : List V → St → Rw → Prop} (hK : ∀ cs ∈ xs, ∃ r, OpnC ρ w cs fun st e => e.length = 4 ∧ K e st r) :
    ∃ rs : List Rw, rs.length = len ∧ OpnV ρ w (.slice (some a) len cap) fun st u => ∃ es, SlAt (fun _ => True) st u 4 es ∧ es.length = rs.length ∧ ∀ i (h : i < es.length) (h' : i < rs.length), K es[i] st rs[i] := by
  obtain ⟨rs, hrl, hop⟩ := OpnC.many hK
  refine ⟨rs, by omega, fun A hA => ?_⟩
  obtain ⟨B, e, h1, h2⟩ := hop A hA
  have hel : e.length = len * 4 := by
    have := (h2 _ (List.prefix_refl _)).1.length
    rw [← this, ← hx]
    clear this h2 hop hK hc hx hrl
    induction xs with
    | nil => rfl
    | cons x r ih =>
      rw [List.flatten_cons, List.length_append, hz x (by simp), ih fun y hy => hz y (List.mem_cons_of_mem _ hy), List.length_cons]
      omega
  obtain ⟨lo, hlo⟩ : ∃ lo : Loc, lo = if cap = 0 then ⟨0, 0, 0⟩ else ⟨a.block, a.off, cap * 4⟩ := ⟨_, rfl⟩
  have hsp : 0 < cap → a = ⟨a.block, a.off, none⟩ := fun hc0 => by
    obtain ⟨v, hv⟩ := hcap hc0
    have := World.cell?_spot hv
    obtain ⟨b, o, s⟩ := a
    simp only at this
    subst this
    rfl
  have hb : lo.b < w.heap.size := by
    rw [hlo]
    split
    · exact h0
    · rename_i hc0
      obtain ⟨v, hv⟩ := hcap (by omega)
      rw [hsp (by omega)] at hv
      obtain ⟨arr, elem, fz, e1, _⟩ := heap_of_cell hv
      exact (Array.getElem?_eq_some_iff.1 e1).1
  refine ⟨B ++ [(e, lo)], .sl (Pt.nth (A ++ B).length) 0 len 4, ?_, fun A' hp => ?_⟩
  · rw [← List.append_assoc]
    refine h1.snoc hb fun A' hp i v hi => ?_
    obtain ⟨x, hx1, hx2⟩ := (h2 A' ((List.prefix_append _ _).trans hp)).1.get hi
    have hil : i < len * 4 := by
      have := (List.getElem?_eq_some_iff.1 hi).1
      omega
    have hc0 : cap ≠ 0 := by omega
    have hcell := hc i hil
    rw [hx1, hsp (by omega)] at hcell
    have hadd : (⟨a.block, a.off, none⟩ : Addr).add i = ⟨a.block, a.off + i, none⟩ := by
      unfold Addr.add
      split
      · rename_i e; subst e; rfl
      · rfl
    rw [hadd] at hcell
    obtain ⟨arr, elem, fz, e1, e2⟩ := heap_of_cell hcell
    refine ⟨arr, elem, fz, x, ?_, ?_, hx2⟩
    · rw [hlo, if_neg hc0]; exact e1
    · rw [hlo, if_neg hc0]; exact e2
  · rw [← List.append_assoc] at hp
    have hl' : (A ++ B).length < ((A ++ B) ++ [(e, lo)]).length := by simp
    have g1 := gA_at hp hl'
    have r1 := rosA_at hp hl'
    simp only [List.getElem_concat_length] at g1 r1
    obtain ⟨_, es, k1, k2, k3, k4⟩ := h2 A' ((List.prefix_append _ _).trans hp)
    have el : es.length = len := by omega
    refine ⟨⟨lo, a, cap, g1, rfl, hl, fun hc0 => ?_, ?_⟩, es, ⟨k2, .inr ⟨_, 0, trivial, .inl (by rw [el]), e, .inr r1, by rw [hel, el]; omega, ?_⟩⟩, k3, k4⟩
    · rw [hlo, if_neg hc0]; exact hsp (by omega)
    · rw [hlo]; split <;> simp <;> omega
    · rw [k1, List.drop_zero, List.take_of_length_le (by rw [← k1, hel, el]; omega)]
theorem cellsI_flat : ∀ zs : List Int, (cellsI zs).flatten = zs.map (V.int .i64)
  | [] => rfl
  | z :: zs => by
    have := cellsI_flat zs
    unfold cellsI at this ⊢
    rw [List.map_cons, List.flatten_cons, this]
    rfl
def RwsAt (P : Pt → Prop) (st : St) (u : V) (rs : List Rw) : Prop := ∃ es, SlAt P st u 4 es ∧ es.length = rs.length ∧ rs.length < 2 ^ 63 ∧ ∀ i (h : i < es.length) (h' : i < rs.length), RwC P st es[i] rs[i]
section
variable {H : Type} {enc : TypeId × Value → H} {P : Program} {W : World} {ρ : Nat → Value}
theorem ints_cs {t e : TypeId} {fuel : Nat} {cs : List Value} {x : DataW H × List MemPlace} (ht : P.underlying t = some (.slice e)) (he : P.underlying e = some (.int .i64)) (hc : P.cellsOf e = 1)
    (hf : DataW.trod enc P W 0 (fun _ => true) true fuel t cs = some x) :
    ∃ (v : Value) (zs : List Int), cs = [v] ∧ IntsIn W v zs ∧ (∀ z ∈ zs, In64 z) ∧ zs.length ≤ maxLen := by
  rcases open_ints ht he hc hf with ⟨h1, _⟩ | ⟨a', len', cap', zs, h1, _, h2, h3, h4, _, h5, h6⟩
  · exact ⟨_, [], h1, .inl ⟨rfl, rfl⟩, by simp, Nat.zero_le _⟩
  · have h4 : zs.length = cap' := by simpa using h4
    refine ⟨_, zs.take len', h1, ?_, fun z hz => ?_, by rw [List.length_take]; omega⟩
    · have hl : (zs.take len').length = len' := by rw [List.length_take]; omega
      by_cases h0 : cap' = 0
      · have : len' = 0 := by omega
        subst this; subst h0
        exact .inr (.inl ⟨a', rfl, by simp⟩)
      · right; right
        have c0 := h5 0 (by omega)
        have hsp : (a'.add 0).spot = none := World.cell?_spot c0
        obtain ⟨b, off, spot⟩ := a'
        have hsp : spot = none := by simpa [Addr.add] using hsp
        subst hsp
        have hadd : ∀ i, (⟨b, off, none⟩ : Addr).add i = ⟨b, off + i, none⟩ := fun i => by
          unfold Addr.add
          split
          · rename_i e; subst e; rfl
          · rfl
        refine ⟨b, off, cap', by rw [hl], by omega, ?_, fun i hi => ?_⟩
        · obtain ⟨arr, elem, fz, e1, _⟩ := heap_of_cell (by rw [hadd] at c0; exact c0)
          exact (Array.getElem?_eq_some_iff.1 e1).1
        · have := h5 i (by omega)
          rw [hadd] at this
          rw [this, List.getElem_take, List.getD_eq_getElem?_getD, List.getElem?_eq_getElem (by omega)]
          rfl
    · have := h6 z (List.mem_of_mem_take hz)
      have : -9223372036854775808 ≤ z ∧ z ≤ 9223372036854775807 := by simpa [Lit.wf, IntKind.min, IntKind.max, IntKind.bits, IntKind.signed] using this
      exact ⟨this.1, by omega⟩
theorem maxLen_lt {n : Nat} (h : n ≤ maxLen) : n < 2 ^ 63 := by
  have : maxLen = 2 ^ 63 - 1 := rfl
  omega
theorem addr_plus (a : Addr) (i j : Nat) : (a.add i).add j = a.add (i + j) := by
  unfold Addr.add
  by_cases hi : i = 0 <;> by_cases hj : j = 0 <;> simp [hi, hj, Nat.add_assoc]
structure RawTy (P : Program) (t ti ts tk : TypeId) : Prop where
  raw : ∃ f0 f1 f2 f3 : Field, P.underlying t = some (.struct #[f0, f1, f2, f3]) ∧ (f0.type = ti ∧ f0.offset = 0) ∧ (f1.type = ti ∧ f1.offset = 1) ∧ (f2.type = ts ∧ f2.offset = 2) ∧ (f3.type = tk ∧ f3.offset = 3)
  int : P.underlying ti = some (.int .i64)
  ints : P.underlying ts = some (.slice ti)
  kids : P.underlying tk = some (.slice t)
  ct : P.cellsOf t = 4
  ci : P.cellsOf ti = 1
  cs : P.cellsOf ts = 1
  ck : P.cellsOf tk = 1
theorem opn_raw {t ti ts tk : TypeId} (hT : RawTy P t ti ts tk) (h0 : 0 < W.heap.size) : ∀ (fuel : Nat),
    (∀ {cs : List Value} {x : DataW H × List MemPlace}, DataW.trod enc P W 0 (fun _ => true) true fuel t cs = some x → cs.length = 4 ∧ ∃ r, OpnC ρ W cs fun st e => RwC (fun _ => True) st e r) ∧
    (∀ {cs : List Value} {x : DataW H × List MemPlace}, DataW.trod enc P W 0 (fun _ => true) true fuel tk cs = some x → ∃ v rs, cs = [v] ∧ OpnV ρ W v fun st u => RwsAt (fun _ => True) st u rs) := by
  intro fuel
  induction fuel with
  | zero => exact ⟨fun h => by simp [DataW.trod] at h, fun h => by simp [DataW.trod] at h⟩
  | succ fuel ih =>
    refine ⟨fun {cs x} h => ?_, fun {cs x} h => ?_⟩
    · obtain ⟨g0, g1, g2, g3, hraw, ⟨t0, o0⟩, ⟨t1, o1⟩, ⟨t2, o2⟩, ⟨t3, o3'⟩⟩ := hT.raw
      obtain ⟨xs, n, hn, _, hl, hxl, hf⟩ := DataW.trod_struct hraw h
      injection hn with hn
      subst hn
      rw [hT.ct] at hl
      refine ⟨hl, ?_⟩
      match cs, hl with
      | [c0, c1, c2, c3], _ =>
        have hx4 : xs.length = 4 := hxl
        match xs, hx4 with
        | [x0, x1, x2, x3], _ =>
          have f0 := hf 0 g0 rfl
          have f1 := hf 1 g1 rfl
          have f2 := hf 2 g2 rfl
          have f3 := hf 3 g3 rfl
          rw [t0, o0, hT.ci] at f0
          rw [t1, o1, hT.ci] at f1
          rw [t2, o2, hT.cs] at f2
          rw [t3, o3', hT.ck] at f3
          obtain ⟨k, e0, _, w0⟩ := DataW.trod_int hT.int f0
          obtain ⟨m, e1, _, w1⟩ := DataW.trod_int hT.int f1
          obtain ⟨v2, zs, e2, i2, b2, l2⟩ := ints_cs hT.ints hT.int hT.ci f2
          obtain ⟨v3, rs, e3, o3⟩ := ih.2 f3
          injection e0 with e0
          injection e1 with e1
          injection e2 with e2
          injection e3 with e3
          subst e0; subst e1; subst e2; subst e3
          have bnd : ∀ {z : Int}, (Lit.int .i64 z).wf = true → In64 z := fun {z} h => by
            have : -9223372036854775808 ≤ z ∧ z ≤ 9223372036854775807 := by simpa [Lit.wf, IntKind.min, IntKind.max, IntKind.bits, IntKind.signed] using h
            exact ⟨this.1, by omega⟩
          refine ⟨.mk k m zs rs, ?_⟩
          have oc : OpnC ρ W [.int .i64 k, .int .i64 m] fun _ e => e = [.int .i64 k, .int .i64 m] := OpnC.const fun γ => ⟨_, _, rfl, rfl, _, _, rfl, rfl, rfl⟩
          refine ((oc.append (OpnV.ints i2 h0).cell).append o3.cell).mono fun st e ⟨a, b, h1, ⟨a1, a2, h2, h3, u2, h4, h5⟩, u3, h6, es, h7, h8, h9, h10⟩ => ?_
          rw [h1, h2, h3, h4, h6]
          refine .mk (bnd w0) (bnd w1) b2 ?_ h7 h8 ⟨maxLen_lt l2, h9⟩ h10
          rcases h5 with ⟨rfl, rfl⟩ | ⟨r, rfl, hr⟩
          · exact SlAt.nil _ _ _
          · refine ⟨fun e he => ?_, .inr ⟨r, 0, trivial, .inl (by rw [cellsI_len]), _, .inr hr, by rw [cellsI_len]; simp, ?_⟩⟩
            · obtain ⟨z, _, rfl⟩ := List.mem_map.1 he
              rfl
            · rw [cellsI_len, List.drop_zero, List.take_of_length_le (by simp), cellsI_flat]
    · rcases DataW.trod_slice hT.kids h with ⟨h1, _⟩ | ⟨a, len, cap, elems, rest, n, hn, h1, _, hb, hl, hm, hlen, hel, hsp, _⟩
      · refine ⟨_, [], h1, fun A hA => ⟨[], .snil, by simpa using hA, fun A' _ => ⟨rfl, [], SlAt.nil _ _ _, rfl, by simp, fun i h => absurd h (by simp)⟩⟩⟩
      · injection hn with hn
        subst hn
        obtain ⟨hrl, hr⟩ := hsp rfl
        rw [hT.ct] at hel hr
        have each : ∀ i, i < len → ∃ cs', W.cells? 0 (a.add (i * 4)) 4 = some cs' ∧ ∃ y, DataW.trod enc P W 0 (fun _ => true) true fuel t cs' = some y := fun i hi => by
          have := hel i hi
          rw [List.getElem?_eq_getElem (by omega), Option.bind_eq_some_iff] at this
          obtain ⟨cs', k1, k2⟩ := this
          exact ⟨cs', k1, _, k2⟩
        have ex : ∀ i, ∃ cs' : List Value, i < len → W.cells? 0 (a.add (i * 4)) 4 = some cs' ∧ ∃ y, DataW.trod enc P W 0 (fun _ => true) true fuel t cs' = some y := fun i => by
          by_cases hi : i < len
          · obtain ⟨cs', h⟩ := each i hi
            exact ⟨cs', fun _ => h⟩
          · exact ⟨[], fun h => absurd h hi⟩
        obtain ⟨F, hF⟩ := Classical.axiomOfChoice ex
        have hxs : ∀ cs ∈ (List.range len).map F, cs.length = 4 ∧ ∃ r, OpnC ρ W cs fun st e => e.length = 4 ∧ RwC (fun _ => True) st e r := fun cs hcs => by
          obtain ⟨i, hi, rfl⟩ := List.mem_map.1 hcs
          obtain ⟨k1, y, k2⟩ := hF i (List.mem_range.1 hi)
          obtain ⟨k3, r, k4⟩ := ih.1 k2
          exact ⟨k3, r, k4.mono fun st e h => ⟨h.len, h⟩⟩
        have key := OpnV.rows (ρ := ρ) (K := fun e st r => RwC (fun _ => True) st e r) h0 hl (a := a) (xs := (List.range len).map F) (by simp) (fun x hx => (hxs x hx).1) ?hcell ?hcap fun cs hcs => (hxs cs hcs).2
        · obtain ⟨rs, hrs, ho⟩ := key
          refine ⟨_, rs, h1, ho.mono fun st u ⟨es, k1, k2, k3⟩ => ⟨es, k1, k2, maxLen_lt (by omega), k3⟩⟩
        · intro k hk
          obtain ⟨hq, e⟩ := flat_get (xs := (List.range len).map F) (fun x hx => (hxs x hx).1) k (by simpa using hk)
          rw [e]
          have hq' : k / 4 < len := by simpa using hq
          have := (hF (k / 4) hq').1
          obtain ⟨_, _, k3⟩ := World.cells?_some this
          have := k3 (k % 4) (Nat.mod_lt _ (by decide))
          rw [addr_plus, show k / 4 * 4 + k % 4 = k by omega] at this
          rw [this]
          simp
        · intro hc
          by_cases c : 0 < len
          · obtain ⟨k1, _⟩ := hF 0 c
            obtain ⟨_, k2, k3⟩ := World.cells?_some k1
            have := k3 0 (by decide)
            rw [addr_plus] at this
            simp only [Nat.zero_mul, Nat.add_zero] at this
            have e0 : a.add 0 = a := by unfold Addr.add; simp
            rw [e0] at this
            exact ⟨_, by rw [this, List.getElem?_eq_getElem (by omega)]⟩
          · have := hr 0 (by omega)
            rw [List.getElem?_eq_getElem (by omega), Option.bind_eq_some_iff] at this
            obtain ⟨cs', k1, _⟩ := this
            obtain ⟨_, k2, k3⟩ := World.cells?_some k1
            have := k3 0 (by decide)
            rw [addr_plus, show (len + 0) * 4 + 0 = 0 by omega] at this
            have e0 : a.add 0 = a := by unfold Addr.add; simp
            rw [e0] at this
            exact ⟨_, by rw [this, List.getElem?_eq_getElem (by omega)]⟩
theorem raw_of {t ti ts tk : TypeId} (hT : RawTy P t ti ts tk) (h0 : 0 < W.heap.size) {r : Reach} {b0 : Nat} {v : Value} {d : DataW H} {p : List MemPlace} (hval : Value.okWide P W r b0 t v) (h : DataW.Trod enc P W 0 (fun _ => true) true t v d p) :
    ∃ q : Rw, OpnV ρ W v fun st u => ∃ e, u = .agg e ∧ RwC (fun _ => True) st e q := by
  obtain ⟨_, _, _, _, hraw, _⟩ := hT.raw
  obtain ⟨arr, rfl, _⟩ := WideShapes.okWide_struct hraw hval
  obtain ⟨fuel, hf⟩ := h
  obtain ⟨_, q, h1⟩ := (opn_raw (ρ := ρ) hT h0 fuel).1 hf
  refine ⟨q, ?_⟩
  have := h1.agg
  simpa [Value.cells] using this
end
end Eva
