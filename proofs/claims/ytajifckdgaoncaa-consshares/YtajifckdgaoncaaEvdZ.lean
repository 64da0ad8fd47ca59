/- What types are made of: raw trees, plainly and in memory. -/
import Derived.Test.YtajifckdgaoncaaEvdY
namespace Eva
open Go Go.RowKit
set_option linter.unusedVariables false
inductive Rw where
  | mk (kind n : Int) (names : List Int) (kids : List Rw)
  deriving Inhabited
def Rw.kind : Rw → Int | .mk k _ _ _ => k
def Rw.n : Rw → Int | .mk _ n _ _ => n
def Rw.names : Rw → List Int | .mk _ _ l _ => l
def Rw.kids : Rw → List Rw | .mk _ _ _ l => l
def In64 (z : Int) : Prop := -9223372036854775808 ≤ z ∧ z < 9223372036854775808
def cellsI (l : List Int) : List (List V) := l.map fun z => [V.int .i64 z]
theorem cellsI_len (l : List Int) : (cellsI l).length = l.length := List.length_map _
inductive RwC (P : Pt → Prop) (st : St) : List V → Rw → Prop
  | mk {k n : Int} {zs : List Int} {ks : List Rw} {nv kv : V} {es : List (List V)} (hk : In64 k) (hn : In64 n) (hz : ∀ z ∈ zs, In64 z) (h1 : SlAt P st nv 1 (cellsI zs)) (h2 : SlAt P st kv 4 es) (h3 : es.length = ks.length) (hl : zs.length < 2 ^ 63 ∧ ks.length < 2 ^ 63) (h4 : ∀ i (h : i < es.length) (h' : i < ks.length), RwC P st es[i] ks[i]) :
    RwC P st [.int .i64 k, .int .i64 n, nv, kv] (.mk k n zs ks)
section
variable {P Q : Pt → Prop} {st st' : St} {e : List V} {r : Rw}
theorem RwC.imp (h : RwC P st e r) (k : ∀ r, P r → st.row r ≠ .none → Q r ∧ st'.row r = st.row r) : RwC Q st' e r := by
  induction h with
  | mk hk hn hz h1 h2 h3 hl h4 ih => exact .mk hk hn hz (h1.imp k) (h2.imp k) h3 hl ih
theorem RwC.gr (h : RwC P st e r) (g : Gr st st') : RwC P st' e r := h.imp fun r p e => ⟨p, g.same r e⟩
theorem RwC.inv (h : RwC P st e r) : ∃ nv kv es, e = [.int .i64 r.kind, .int .i64 r.n, nv, kv] ∧ In64 r.kind ∧ In64 r.n ∧ (∀ z ∈ r.names, In64 z) ∧ SlAt P st nv 1 (cellsI r.names) ∧ SlAt P st kv 4 es ∧ es.length = r.kids.length ∧ (r.names.length < 2 ^ 63 ∧ r.kids.length < 2 ^ 63) ∧ ∀ i (h : i < es.length) (h' : i < r.kids.length), RwC P st es[i] r.kids[i] := by
  cases h with
  | mk hk hn hz h1 h2 h3 hl h4 => exact ⟨_, _, _, rfl, hk, hn, hz, h1, h2, h3, hl, h4⟩
theorem RwC.len (h : RwC P st e r) : e.length = 4 := by cases h; rfl
end
def kidS (r : Rw) (i : Nat) : Rw := if r.kids.length = 0 then .mk (IntKind.i64.wrap (r.n + i)) r.kind [] [] else r.kids.getD (i % r.kids.length) default
def nms7 : List Str := [[97], [98], [99], [110, 97, 109, 101], [110], [73, 110, 116], [116, 121, 112, 101]]
def nameS (z : Int) : Str := nms7.getD (z % 7).toNat []
def placeS (n : Str) : List Str → Nat
  | [] => 0
  | a :: r => if Op.bytesLess a n = true then placeS n r + 1 else 0
theorem placeS_le (n : Str) : ∀ l, placeS n l ≤ l.length
  | [] => Nat.le_refl _
  | a :: r => by
    rw [placeS]
    have := placeS_le n r
    split
    · simp; omega
    · omega
theorem placeS_lt (n : Str) : ∀ (l : List Str) (i : Nat) (h : i < l.length), i < placeS n l → Op.bytesLess l[i] n = true
  | a :: r, i, h, hi => by
    rw [placeS] at hi
    split at hi
    · cases i with
      | zero => assumption
      | succ i => exact placeS_lt n r i (by simpa using h) (by omega)
    · omega
theorem placeS_at (n : Str) : ∀ (l : List Str) (h : placeS n l < l.length), Op.bytesLess l[placeS n l] n = false
  | [], h => absurd h (by simp)
  | a :: r, h => by
    by_cases c : Op.bytesLess a n = true
    · have e : placeS n (a :: r) = placeS n r + 1 := by rw [placeS, if_pos c]
      have := placeS_at n r (by rw [e] at h; simpa using h)
      simp only [e, List.getElem_cons_succ]
      exact this
    · have e : placeS n (a :: r) = 0 := by rw [placeS, if_neg c]
      simp only [e, List.getElem_cons_zero]
      simpa using c
def putS (t : Ty) (n : Str) (x : Ty) : Ty :=
  if t.names[placeS n t.names]? = some n then t else .mk t.kind t.name (t.names.take (placeS n t.names) ++ n :: t.names.drop (placeS n t.names)) (t.kids.take (placeS n t.names) ++ x :: t.kids.drop (placeS n t.names))
def nameAt (r : Rw) (i : Nat) : Str := match r.names[i]? with
  | some z => nameS z
  | none => [117]
def kindR (nms : List Str) (deep : Nat) (r : Rw) : Int := if (1 + r.kind % 9 = 9 ∧ nms = []) ∨ (deep ≤ 1 ∧ 4 ≤ 1 + r.kind % 9 ∧ 1 + r.kind % 9 ≤ 8) then 2 else 1 + r.kind % 9
def countR (k : Int) (r : Rw) : Nat := max (min r.names.length 4) (if k = 8 then 1 else 0)
def treeS (nms : List Str) : Nat → Rw → Ty
  | 0, r => .mk (kindR nms 0 r) [] [] []
  | d + 1, r =>
    let k := kindR nms (d + 1) r
    if k = 9 then .mk 9 (nms.getD (r.n % nms.length).toNat []) [] []
    else if k = 4 ∨ k = 5 ∨ k = 6 then (if k = 6 ∧ (treeS nms d (kidS r 0)).kind = 6 then treeS nms d (kidS r 0) else .mk k [] [] [treeS nms d (kidS r 0)])
    else if k = 7 ∨ k = 8 then (List.range (countR k r)).foldl (fun t i => putS t (nameAt r i) (treeS nms d (kidS r i))) (.mk k [] [] [])
    else .mk k [] [] []
theorem wW_appG {S0 st : St} {v : V} {z : Nat} {es : List (List V)} {P : Pt → Prop} {vx : V} {xs : List (List V)} (hg : Gr S0 st) (h : SlF S0 st v z es) (hx : SlAt P st vx z xs) (hok : okC xs) (hn : xs.length < 2 ^ 20) (hn2 : es.length + xs.length ≤ 2 ^ 24) {R : V → St → Prop}
    (k : ∀ S' v', Gr S0 S' → SlF S0 S' v' z (es ++ xs) → (rowOf v' = rowOf v ∨ rowOf v' = some st.nx) → (∀ p, st.row p ≠ .none → rowOf v ≠ some p → S'.row p = st.row p) → R v' S') : wW (appV st z v vx) st R := by
  by_cases h0 : xs = []
  · subst h0
    have happ : appV st z v vx = appendSl st z 0 [] v := by
      unfold appV
      rw [hx.slen]
      simp only [hx.all]
      rw [if_pos ⟨hn, hok.flat⟩]
      rfl
    have e1 : appendSl st z 0 [] v = some (v, .no) := by
      have hs : (slen v).isSome = true := by rw [h.at.slen]; rfl
      unfold appendSl
      rw [if_pos rfl, if_pos hs]
    rw [happ, e1]
    exact k st v hg (by rw [List.append_nil]; exact h) (.inl rfl) fun _ _ _ => rfl
  · exact wW_appN hg h hx hok h0 hn hn2 fun S' v' a b c d => k S' v' a b (.inr c) d
theorem slF_apart {S0 st : St} {v : V} {z : Nat} {es : List (List V)} (h : SlF S0 st v z es) {b : Pt} (hb : S0.row b ≠ .none) : rowOf v ≠ some b := fun e => hb (h.row e).1
theorem tmodC (a : Int) {n : Int} (h0 : 0 < n) : (¬ a.tmod n < 0 ∧ a.tmod n = a % n) ∨ (a.tmod n < 0 ∧ a.tmod n + n = a % n) := by
  have e1 := Int.emod_nonneg a (show n ≠ 0 by omega)
  have e2 := Int.emod_lt_of_pos a h0
  have e3 := Int.tmod_eq_emod (a := a) (b := n)
  have e4 : (n.natAbs : Int) = n := by omega
  by_cases c : 0 ≤ a ∨ n ∣ a
  · rw [if_pos c] at e3
    left; omega
  · rw [if_neg c] at e3
    right
    have : a % n ≠ 0 := fun h => c (.inr (Int.dvd_of_emod_eq_zero h))
    omega
end Eva
