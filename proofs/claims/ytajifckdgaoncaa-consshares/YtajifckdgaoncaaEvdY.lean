/- Two unions under way, in memory. -/
import Derived.Test.YtajifckdgaoncaaEvdW
namespace Eva
open Go Go.RowKit
set_option linter.unusedVariables false
set_option linter.unusedSimpArgs false
theorem wW_appN {S0 st : St} {v : V} {z : Nat} {es : List (List V)} {P : Pt → Prop} {vx : V} {xs : List (List V)} (hg : Gr S0 st) (h : SlF S0 st v z es) (hx : SlAt P st vx z xs) (hok : okC xs) (h0 : xs ≠ []) (hn : xs.length < 2 ^ 20) (hn2 : es.length + xs.length ≤ 2 ^ 24) {R : V → St → Prop}
    (k : ∀ S' v', Gr S0 S' → SlF S0 S' v' z (es ++ xs) → rowOf v' = some st.nx → (∀ p, st.row p ≠ .none → rowOf v ≠ some p → S'.row p = st.row p) → R v' S') : wW (appV st z v vx) st R := by
  have h0 : ¬ xs.length = 0 := fun e => h0 (List.length_eq_zero_iff.1 e)
  have happ : appV st z v vx = appendSl st z xs.length xs.flatten v := by
    unfold appV
    rw [hx.slen]
    simp only [hx.all]
    rw [if_pos ⟨hn, hok.flat⟩]
  have hz : ∀ e ∈ es ++ xs, e.length = z := fun e he => by
    rcases List.mem_append.1 he with he | he
    · exact h.1 e he
    · exact hx.1 e he
  rw [happ]
  have w := hg.wf
  rcases h.2 with ⟨rfl, hes⟩ | ⟨r, t, h2, h3, h4⟩
  · have e1 : appendSl st z xs.length xs.flatten .snil = some (.sl st.nx 0 xs.length z, .new fun t => .cells t xs.flatten) := by
      unfold appendSl
      rw [if_neg h0]
    rw [e1]
    subst hes
    refine k (st.new fun t => .cells t xs.flatten) _ (hg.nn (good_cells _)) ⟨hz, .inr ⟨st.nx, st.t, hg.fresh, by rw [row_new_nx]; simp, .inl (by simp)⟩⟩ rfl fun p hp _ => row_new_old w _ hp
  · have hfl := flatten_len h.1
    have hle : 0 + es.length * z ≤ es.flatten.length := by omega
    have htk : (es.flatten.drop 0).take (es.length * z) = es.flatten := by rw [List.drop_zero, ← hfl, List.take_length]
    rcases h4 with rfl | rfl
    · have e1 : appendSl st z xs.length xs.flatten (.sl r 0 es.length z) = some (.sl st.nx 0 (es.length + xs.length) z, .dn r t fun u => .cells u (es.flatten ++ xs.flatten)) := by
        unfold appendSl
        rw [if_neg h0]
        simp only [h3]
        rw [if_neg (by simp; omega), if_pos hle, htk]
      rw [e1]
      refine k ((st.wr r t .dead).new fun u => .cells u (es.flatten ++ xs.flatten)) _ (hg.dn h2 (by rw [h3]; exact fun e => by cases e) (by rw [h3]; rfl) (good_cells _)) ⟨hz, .inr ⟨st.nx, st.t + 1, hg.fresh, ?_, .inl (by simp)⟩⟩ rfl fun p hp hne => ?_
      · rw [List.flatten_append]; exact row_new_nx (st.wr r t .dead) _
      · have hpr : p ≠ r := fun e => hne (by rw [e]; rfl)
        have hw2 : WF (st.wr r t .dead) := (mono_wr w (by rw [h3]; exact fun e => by cases e) (by rw [h3]; rfl) fun u => ⟨rfl, fun e => by cases e⟩).wf
        rw [row_new_old hw2 _ (by rw [row_wr_ne _ _ _ hpr]; exact hp), row_wr_ne _ _ _ hpr]
    · have e1 : appendSl st z xs.length xs.flatten (.slx r 0 es.length z es.length) = some (.sl st.nx 0 (es.length + xs.length) z, .new fun u => .cells u (es.flatten ++ xs.flatten)) := by
        unfold appendSl
        rw [if_neg h0]
        simp only [h3]
        rw [if_neg (by simp; omega), if_pos hle, if_neg (by omega), htk]
      rw [e1]
      refine k (st.new fun u => .cells u (es.flatten ++ xs.flatten)) _ (hg.nn (good_cells _)) ⟨hz, .inr ⟨st.nx, st.t, hg.fresh, ?_, .inl (by simp)⟩⟩ rfl fun p hp _ => row_new_old w _ hp
      rw [List.flatten_append]; exact row_new_nx st _
def OwnF (S : St) (f : Nat → V) : Prop := (∀ i r, rowOf (f i) = some r → S.row r ≠ .none) ∧ ∀ i j r, i ≠ j → rowOf (f i) = some r → rowOf (f j) ≠ some r
def setF (f : Nat → V) (k : Nat) (v : V) : Nat → V := fun i => if i = k then v else f i
theorem setF_at (f : Nat → V) (k : Nat) (v : V) : setF f k v k = v := if_pos rfl
theorem setF_ne (f : Nat → V) {k i : Nat} (v : V) (h : i ≠ k) : setF f k v i = f i := if_neg h
def intW : List V := [.int .i64 2, ofL [], .snil, .snil]
def kidW (wd : Bool) (f : Nat → V) (i : Nat) : List V := if wd = true then [.int .i64 6, ofL [], .snil, f (8 + i)] else intW
structure UI (S1 : St) (wd : Bool) (o x y : Pt) (S : St) (f : Nat → V) (xs : List Str) (n : Nat) (ys : List Str) (m : Nat) (cx cy : List V) : Prop where
  gr : Gr S1 S
  own : OwnF S f
  eo : f 4 = .ptr o 0
  ex : f 5 = .ptr x 0
  ey : f 6 = .ptr y 0
  fo : S1.row x = .none ∧ S1.row y = .none
  ro : ∃ t, S.row o = .cells t intW
  rx : ∃ t, S.row x = .cells t cx
  ry : ∃ t, S.row y = .cells t cy
  nx : SlF S1 S (f 0) 1 (strs xs)
  kx : SlF S1 S (f 1) 4 (List.replicate n intW)
  ny : SlF S1 S (f 2) 1 (strs ys)
  ky : SlF S1 S (f 3) 4 ((List.range m).map (kidW wd f))
  kids : wd = true → ∀ i, i < m → SlF S1 S (f (8 + i)) 4 [intW]
section
variable {S1 S S' : St} {wd : Bool} {o x y : Pt} {f : Nat → V} {xs ys : List Str} {n m : Nat} {cx cy : List V}
theorem SlF.some {S0 st : St} {v : V} {z : Nat} {es : List (List V)} (h : SlF S0 st v z es) {r : Pt} (hr : rowOf v = some r) : st.row r ≠ .none := by
  obtain ⟨_, t, e⟩ := h.row hr
  exact ne_cells e
theorem UI.same (h : UI S1 wd o x y S f xs n ys m cx cy) (g : Gr S1 S') (k : ∀ p, S.row p ≠ .none → S'.row p = S.row p) : UI S1 wd o x y S' f xs n ys m cx cy := by
  have ks : ∀ {v : V} {z : Nat} {es : List (List V)}, SlF S1 S v z es → SlF S1 S' v z es := fun hs => hs.keep fun r hr => k r (hs.some hr)
  have kr : ∀ {p : Pt} {c : List V}, (∃ t, S.row p = .cells t c) → ∃ t, S'.row p = .cells t c := fun ⟨t, e⟩ => ⟨t, by rw [k _ (ne_cells e), e]⟩
  exact { h with gr := g, own := ⟨fun i r hr => by rw [k r (h.own.1 i r hr)]; exact h.own.1 i r hr, h.own.2⟩, ro := kr h.ro, rx := kr h.rx, ry := kr h.ry, nx := ks h.nx, kx := ks h.kx, ny := ks h.ny, ky := ks h.ky, kids := fun a i b => ks (h.kids a i b) }
theorem OwnF.set {k : Nat} {v' : V} (h : OwnF S f) (hf : ∀ r, rowOf v' = some r → S.row r = .none ∧ S'.row r ≠ .none) (keep : ∀ p, S.row p ≠ .none → rowOf (f k) ≠ some p → S'.row p = S.row p) : OwnF S' (setF f k v') := by
  refine ⟨fun i r hr => ?_, fun i j r hij hi hj => ?_⟩
  · by_cases e : i = k
    · subst e; rw [setF_at] at hr; exact (hf r hr).2
    · rw [setF_ne _ _ e] at hr
      rw [keep r (h.1 i r hr) (h.2 i k r e hr)]
      exact h.1 i r hr
  · by_cases e : i = k
    · subst e; rw [setF_at] at hi
      rw [setF_ne _ _ (fun e => hij e.symm)] at hj
      exact h.1 j r hj (hf r hi).1
    · rw [setF_ne _ _ e] at hi
      by_cases e2 : j = k
      · subst e2; rw [setF_at] at hj; exact h.1 i r hi (hf r hj).1
      · rw [setF_ne _ _ e2] at hj; exact h.2 i j r hij hi hj
section
variable {v' : V} (h : UI S1 wd o x y S f xs n ys m cx cy) (g : Gr S1 S') (hf : ∀ r, rowOf v' = some r → S.row r = .none ∧ S'.row r ≠ .none)
include h g hf
end
theorem UI.ne {i j : Nat} {p q : Pt} (h : UI S1 wd o x y S f xs n ys m cx cy) (hij : i ≠ j) (hi : f i = .ptr p 0) (hj : f j = .ptr q 0) : p ≠ q := fun e => h.own.2 i j p hij (by rw [hi]; rfl) (by rw [hj, e]; rfl)
theorem UI.wx (h : UI S1 wd o x y S f xs n ys m cx cy) {t : Nat} (ht : S.row x = .cells t cx) (c : List V) : UI S1 wd o x y (S.wr x t fun u => .cells u c) f xs n ys m c cy := by
  have old : ∀ p, p ≠ x → (S.wr x t fun u => .cells u c).row p = S.row p := fun p hp => row_wr_ne _ _ _ hp
  have hx : ∀ {i r}, i ≠ 5 → rowOf (f i) = some r → r ≠ x := fun {i r} hi hr e => h.own.2 i 5 r hi hr (by rw [h.ex, e]; rfl)
  have ks : ∀ {i : Nat} {z : Nat} {es : List (List V)}, i ≠ 5 → SlF S1 S (f i) z es → SlF S1 (S.wr x t fun u => .cells u c) (f i) z es := fun hi hs => hs.keep fun r hr => old r (hx hi hr)
  have kr : ∀ {i : Nat} {p : Pt} {c' : List V}, i ≠ 5 → f i = .ptr p 0 → (∃ t, S.row p = .cells t c') → ∃ t', (S.wr x t fun u => .cells u c).row p = .cells t' c' := fun hi hp ⟨t', e⟩ => ⟨t', by rw [old _ (hx hi (by rw [hp]; rfl)), e]⟩
  exact { h with gr := h.gr.wr h.fo.1 (ne_cells ht) (by rw [ht]; rfl) (good_cells _), own := ⟨fun i r hr => by
    by_cases e : r = x
    · rw [e, row_wr_same]; exact fun e => by cases e
    · rw [old r e]; exact h.own.1 i r hr, h.own.2⟩, ro := kr (by decide) h.eo h.ro, rx := ⟨_, row_wr_same _ _ _ _⟩, ry := kr (by decide) h.ey h.ry, nx := ks (by decide) h.nx, kx := ks (by decide) h.kx, ny := ks (by decide) h.ny, ky := ks (by decide) h.ky, kids := fun w i hi => ks (by omega) (h.kids w i hi) }
theorem UI.wy (h : UI S1 wd o x y S f xs n ys m cx cy) {t : Nat} (ht : S.row y = .cells t cy) (c : List V) : UI S1 wd o x y (S.wr y t fun u => .cells u c) f xs n ys m cx c := by
  have old : ∀ p, p ≠ y → (S.wr y t fun u => .cells u c).row p = S.row p := fun p hp => row_wr_ne _ _ _ hp
  have hx : ∀ {i r}, i ≠ 6 → rowOf (f i) = some r → r ≠ y := fun {i r} hi hr e => h.own.2 i 6 r hi hr (by rw [h.ey, e]; rfl)
  have ks : ∀ {i : Nat} {z : Nat} {es : List (List V)}, i ≠ 6 → SlF S1 S (f i) z es → SlF S1 (S.wr y t fun u => .cells u c) (f i) z es := fun hi hs => hs.keep fun r hr => old r (hx hi hr)
  have kr : ∀ {i : Nat} {p : Pt} {c' : List V}, i ≠ 6 → f i = .ptr p 0 → (∃ t, S.row p = .cells t c') → ∃ t', (S.wr y t fun u => .cells u c).row p = .cells t' c' := fun hi hp ⟨t', e⟩ => ⟨t', by rw [old _ (hx hi (by rw [hp]; rfl)), e]⟩
  exact { h with gr := h.gr.wr h.fo.2 (ne_cells ht) (by rw [ht]; rfl) (good_cells _), own := ⟨fun i r hr => by
    by_cases e : r = y
    · rw [e, row_wr_same]; exact fun e => by cases e
    · rw [old r e]; exact h.own.1 i r hr, h.own.2⟩, ro := kr (by decide) h.eo h.ro, rx := kr (by decide) h.ex h.rx, ry := ⟨_, row_wr_same _ _ _ _⟩, nx := ks (by decide) h.nx, kx := ks (by decide) h.kx, ny := ks (by decide) h.ny, ky := ks (by decide) h.ky, kids := fun w i hi => ks (by omega) (h.kids w i hi) }
end
section
variable {S1 S S' : St} {wd : Bool} {o x y : Pt} {f : Nat → V} {xs ys : List Str} {n m : Nat} {cx cy : List V}
end
theorem UI.apart {S1 S : St} {wd : Bool} {o x y : Pt} {f : Nat → V} {xs ys : List Str} {n m : Nat} {cx cy : List V} (h : UI S1 wd o x y S f xs n ys m cx cy) (i j : Nat) (hij : i ≠ j) {p : Pt} {k : Nat} (hj : f j = .ptr p k) : rowOf (f i) ≠ some p := fun e => h.own.2 i j p hij e (by rw [hj]; rfl)
end Eva
