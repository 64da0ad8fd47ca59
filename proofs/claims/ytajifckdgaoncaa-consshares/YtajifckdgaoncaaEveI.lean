/- What stays beside a table that grows; what wraps a type. -/
import Derived.Test.YtajifckdgaoncaaEveG
namespace Eva
open Go Go.RowKit
set_option linter.unusedVariables false
def TabX (S : St) (W : Pt → Prop) (rt : Pt) (tb : Tb) : Prop := WF S ∧ ∃ F, Tab W F S rt tb
def Kept (S : St) (W : Pt → Prop) (S' : St) (W' : Pt → Prop) : Prop := ∀ r, S.row r ≠ .none → ¬ W r → S'.row r = S.row r ∧ ¬ W' r
section
variable {S S' S'' : St} {W W' W'' : Pt → Prop} {rt : Pt} {tb : Tb}
theorem Kept.refl (S : St) (W : Pt → Prop) : Kept S W S W := fun r _ h => ⟨rfl, h⟩
theorem Kept.trans (h : Kept S W S' W') (k : Kept S' W' S'' W'') : Kept S W S'' W'' := fun r e n => by
  obtain ⟨h1, h2⟩ := h r e n
  obtain ⟨k1, k2⟩ := k r (by rw [h1]; exact e) h2
  exact ⟨by rw [k1, h1], k2⟩
theorem Kept.gr (g : Gr S S') (W : Pt → Prop) : Kept S W S' W := fun r e n => ⟨g.same r e, n⟩
theorem Kept.ch (c : Ch W S S') (h : ∀ r, W' r → W r ∨ S.row r = .none) : Kept S W S' W' := fun r e n => ⟨c.same r e n, fun w => by rcases h r w with w | w; exact n w; exact e w⟩
theorem Kept.row (h : Kept S W S' W') {p : Pt} {t : Nat} {l : List V} (e : S.row p = .cells t l) (n : ¬ W p) : S'.row p = .cells t l := by rw [(h p (by rw [e]; exact fun k => by cases k) n).1, e]
theorem Kept.out (h : Kept S W S' W') {p : Pt} (e : S.row p ≠ .none) (n : ¬ W p) : ¬ W' p := (h p e n).2
theorem Kept.ty (h : Kept S W S' W') {e : List V} {t : Ty} (k : TyC (fun r => ¬ W r) S e t) : TyC (fun r => ¬ W' r) S' e t := k.imp fun r n e => ⟨(h r e n).2, (h r e n).1⟩
theorem Kept.sl (h : Kept S W S' W') {v : V} {z : Nat} {es : List (List V)} (k : SlAt (fun r => ¬ W r) S v z es) : SlAt (fun r => ¬ W' r) S' v z es := k.imp fun r n e => ⟨(h r e n).2, (h r e n).1⟩
theorem TabX.gr (h : TabX S W rt tb) (g : Gr S S') : TabX S' W rt tb := by
  obtain ⟨_, F, h⟩ := h
  exact ⟨g.wf, F, h.gr g⟩
theorem TabX.own (h : TabX S W rt tb) {r : Pt} (e : S.row r = .none) : ¬ W r := by
  obtain ⟨_, F, _, _, _, _, _, _, h⟩ := h
  exact fun w => h.own r w e
theorem TyC.new (h : TabX S W rt tb) {P : Pt → Prop} (hP : ∀ r, P r → ¬ W r) {e : List V} {t : Ty} (k : TyC P S e t) : TyC (fun r => ¬ W r) S e t := k.imp fun r p _ => ⟨hP r p, rfl⟩
end
theorem neV_pn (r : Pt) (o : Nat) : eqV (.one .p) true (.ptr r o) .pnil = some (.bool true, .no) := of_eq_true (eq_self _)
theorem base_at (P : Pt → Prop) (st : St) (k : Int) : TyC P st [.int .i64 k, ofL [], .snil, .snil] (.mk k [] [] []) := .mk (es := []) (SlAt.nil _ _ _) (SlAt.nil _ _ _) rfl fun i h => absurd h (by simp)
theorem look_node {nodes : List Nd} {t : Ty} {i : Nat} (h : lookT nodes t = some i) : ∃ ids, nodes[i]? = some ⟨t.kind, t.name, t.names, ids⟩ ∧ looksT nodes t.kids = some ids := by
  obtain ⟨k, n, ns, ks⟩ := t
  rw [lookT] at h
  cases c : looksT nodes ks with
  | none => rw [c] at h; cases h
  | some ids =>
    rw [c] at h
    have := (idx_get h).2
    rw [Nat.sub_zero] at this
    exact ⟨ids, this, c⟩
theorem look_wrap {nodes : List Nd} {k : Int} {X : Ty} {p i : Nat} (h : lookT nodes (.mk k [] [] [X]) = some p) (hx : lookT nodes X = some i) : nodes[p]? = some ⟨k, [], [], [i]⟩ := by
  obtain ⟨ids, h1, h2⟩ := look_node h
  rw [show (Ty.mk k [] [] [X]).kids = [X] from rfl, looksT, hx, looksT] at h2
  injection h2 with h2
  rw [h1, ← h2]
  rfl
theorem addT_grow (t : Ty) (left : Int) (tb : Tb) : ∃ r, (addT t left tb).1 = { tb with nodes := tb.nodes ++ r } := addT_pre t left tb
where
  addT_pre : ∀ (t : Ty) (left : Int) (tb : Tb), ∃ r, (addT t left tb).1 = { tb with nodes := tb.nodes ++ r }
    | .mk k n ns ks, left, tb => by
      rw [addT_mk]
      split
      · exact ⟨[], by simp⟩
      · obtain ⟨r, hr⟩ := addTs_pre ks (left - 1) tb
        generalize addTs ks (left - 1) tb = x at hr ⊢
        obtain ⟨tb1, ids, e, l1⟩ := x
        simp only at hr ⊢
        by_cases he : e = 0
        · rw [if_neg (fun k => k he)]
          simp only
          unfold layS
          split
          · exact ⟨r, hr⟩
          · split
            · exact ⟨r, hr⟩
            · exact ⟨r ++ [⟨k, n, ns, ids⟩], by rw [hr]; simp⟩
        · rw [if_pos he]; exact ⟨r, hr⟩
  addTs_pre : ∀ (ts : List Ty) (left : Int) (tb : Tb), ∃ r, (addTs ts left tb).1 = { tb with nodes := tb.nodes ++ r }
    | [], left, tb => ⟨[], by rw [addTs_nil]; simp⟩
    | t :: ts, left, tb => by
      rw [addTs_cons]
      obtain ⟨r, hr⟩ := addT_pre t left tb
      generalize addT t left tb = x at hr ⊢
      obtain ⟨tb1, i, e, l1⟩ := x
      simp only at hr ⊢
      by_cases he : e = 0
      · rw [if_neg (fun k => k he)]
        obtain ⟨r2, hr2⟩ := addTs_pre ts l1 tb1
        generalize addTs ts l1 tb1 = y at hr2 ⊢
        obtain ⟨tb2, is, e2, l2⟩ := y
        simp only at hr2 ⊢
        exact ⟨r ++ r2, by rw [hr2, hr]; simp⟩
      · rw [if_pos he]; exact ⟨r, hr⟩
structure Holds (tb : Tb) (X Y : Ty) (i j : Nat) (is : Bool) : Prop where
  acy : Acy tb
  x : lookT tb.nodes X = some i
  y : lookT tb.nodes Y = some j
  fits : ∃ f W, fitsS tb f [] i j = some (is, W)
theorem Holds.lt {tb : Tb} {X Y : Ty} {i j : Nat} {is : Bool} (h : Holds tb X Y i j is) : i < tb.nodes.length ∧ j < tb.nodes.length := by
  obtain ⟨_, h1, _⟩ := look_node h.x
  obtain ⟨_, h2, _⟩ := look_node h.y
  exact ⟨(List.getElem?_eq_some_iff.1 h1).1, (List.getElem?_eq_some_iff.1 h2).1⟩
theorem Holds.ext {tb tb' : Tb} {X Y : Ty} {i j : Nat} {is : Bool} (h : Holds tb X Y i j is) (ha : Acy tb') (hr : ∃ r, tb'.nodes = tb.nodes ++ r) : Holds tb' X Y i j is := by
  obtain ⟨r, hr⟩ := hr
  obtain ⟨l1, l2⟩ := h.lt
  obtain ⟨f, W, hf⟩ := h.fits
  refine ⟨ha, by rw [hr]; exact look_app X h.x, by rw [hr]; exact look_app Y h.y, f, W, ?_⟩
  rw [fits_ext h.acy ha (fun i n e => by rw [hr, List.getElem?_append_left (List.getElem?_eq_some_iff.1 e).1]; exact e) f [] i j l1 l2]
  exact hf
theorem Holds.add {tb : Tb} {X Y Z : Ty} {i j : Nat} {is : Bool} (h : Holds tb X Y i j is) (hz : noName Z = true) (left : Int) : Holds (addT Z left tb).1 X Y i j is := by
  obtain ⟨r, hr⟩ := addT_grow Z left tb
  exact h.ext (addT_acy Z hz h.acy).1 ⟨r, by rw [hr]⟩
theorem Holds.wrap {tb : Tb} {X Y : Ty} {i j : Nat} {is : Bool} (h : Holds tb X Y i j is) (nX : noName X = true) (nY : noName Y = true) {k : Int} (hk : k = 4 ∨ k = 5) (hg : (addT (.mk k [] [] [X]) 400 tb).2.2.1 = 0) (hh : (addT (.mk k [] [] [Y]) 400 (addT (.mk k [] [] [X]) 400 tb).1).2.2.1 = 0) :
    ∃ f W, fitsS (addT (.mk k [] [] [Y]) 400 (addT (.mk k [] [] [X]) 400 tb).1).1 f [] (addT (.mk k [] [] [X]) 400 tb).2.1 (addT (.mk k [] [] [Y]) 400 (addT (.mk k [] [] [X]) 400 tb).1).2.1 = some (is, W) := by
  have n1 : noName (.mk k [] [] [X]) = true := by rw [noName, noNames, noNames, nX]; rcases hk with rfl | rfl <;> rfl
  have n2 : noName (.mk k [] [] [Y]) = true := by rw [noName, noNames, noNames, nY]; rcases hk with rfl | rfl <;> rfl
  have h2 := (h.add n1 400).add n2 400
  obtain ⟨r1, a1, a2, _⟩ := addT_ok _ hg
  obtain ⟨r2, b1, b2, _⟩ := addT_ok _ hh
  generalize addT (.mk k [] [] [X]) 400 tb = A at *
  generalize addT (.mk k [] [] [Y]) 400 A.1 = B at *
  have e1 := look_wrap (by rw [b1]; exact look_app _ a2) h2.x
  have e2 := look_wrap b2 h2.y
  obtain ⟨f, W, hf⟩ := h2.fits
  obtain ⟨V, hV⟩ := fits_wrap h2.acy hk e1 e2 hf
  exact ⟨_, V, hV⟩
theorem layS_grow (tb : Tb) (n : Nd) : ∃ r, (layS tb n).1 = { tb with nodes := tb.nodes ++ r } := by
  unfold layS
  split
  · exact ⟨[], by simp⟩
  · split
    · exact ⟨[], by simp⟩
    · exact ⟨[n], rfl⟩
theorem Holds.lay {tb : Tb} {X Y : Ty} {i j : Nat} {is : Bool} (h : Holds tb X Y i j is) : Holds (layS tb ⟨6, [], [], [j]⟩).1 X Y i j is := by
  obtain ⟨r, hr⟩ := layS_grow tb ⟨6, [], [], [j]⟩
  exact h.ext (acy_lay h.acy (show (6 : Int) ≠ 9 by decide) fun k hk => by rw [List.mem_singleton.1 hk]; exact h.lt.2) ⟨r, by rw [hr]⟩
theorem new_none {x : Ty} {e : Int} (h : newS ⟨x, [], []⟩ = (none, e)) : e ≠ 0 := by
  rw [newS0 rfl rfl] at h
  by_cases c : checkS ⟨x, [], []⟩ ≠ 0
  · rw [if_pos c] at h; injection h with _ h; rw [← h]; exact c
  rw [if_neg c] at h
  by_cases c2 : (addT x 400 emptyTb).2.2.1 ≠ 0
  · rw [if_pos c2] at h; injection h with _ h; rw [← h]; exact c2
  rw [if_neg c2] at h
  injection h with h _
  cases h
end Eva
