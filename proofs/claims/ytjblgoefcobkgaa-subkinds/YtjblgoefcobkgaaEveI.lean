/- What stays beside a table that grows; what wraps a type. -/
import Derived.Test.YtjblgoefcobkgaaEveG
namespace Eva
open Go Go.RowKit
set_option linter.unusedVariables false
def TabX (S : St) (W : Pt → Prop) (rt : Pt) (tb : Tb) : Prop := WF S ∧ ∃ F, Tab W F S rt tb
def Kept (S : St) (W : Pt → Prop) (S' : St) (W' : Pt → Prop) : Prop := ∀ r, S.row r ≠ .none → ¬ W r → S'.row r = S.row r ∧ ¬ W' r
section
variable {S S' S'' : St} {W W' W'' : Pt → Prop} {rt : Pt} {tb : Tb}
theorem Kept.refl (S : St) (W : Pt → Prop) : Kept S W S W := fun r _ h => ⟨rfl, h⟩
theorem Kept.trans (h : Kept S W S' W') (k : Kept S' W' S'' W'') : Kept S W S'' W'' := fun r e n => by
  obtain ⟨h1, h2⟩ := h r e n
  obtain ⟨k1, k2⟩ := k r (by rw [h1]; exact e) h2
  exact ⟨by rw [k1, h1], k2⟩
theorem Kept.gr (g : Gr S S') (W : Pt → Prop) : Kept S W S' W := fun r e n => ⟨g.same r e, n⟩
theorem Kept.ch (c : Ch W S S') (h : ∀ r, W' r → W r ∨ S.row r = .none) : Kept S W S' W' := fun r e n => ⟨c.same r e n, fun w => by rcases h r w with w | w; exact n w; exact e w⟩
theorem Kept.row (h : Kept S W S' W') {p : Pt} {t : Nat} {l : List V} (e : S.row p = .cells t l) (n : ¬ W p) : S'.row p = .cells t l := by rw [(h p (by rw [e]; exact fun k => by cases k) n).1, e]
theorem Kept.out (h : Kept S W S' W') {p : Pt} (e : S.row p ≠ .none) (n : ¬ W p) : ¬ W' p := (h p e n).2
theorem Kept.ty (h : Kept S W S' W') {e : List V} {t : Ty} (k : TyC (fun r => ¬ W r) S e t) : TyC (fun r => ¬ W' r) S' e t := k.imp fun r n e => ⟨(h r e n).2, (h r e n).1⟩
theorem Kept.sl (h : Kept S W S' W') {v : V} {z : Nat} {es : List (List V)} (k : SlAt (fun r => ¬ W r) S v z es) : SlAt (fun r => ¬ W' r) S' v z es := k.imp fun r n e => ⟨(h r e n).2, (h r e n).1⟩
theorem TabX.gr (h : TabX S W rt tb) (g : Gr S S') : TabX S' W rt tb := by
  obtain ⟨_, F, h⟩ := h
  exact ⟨g.wf, F, h.gr g⟩
theorem TabX.own (h : TabX S W rt tb) {r : Pt} (e : S.row r = .none) : ¬ W r := by
  obtain ⟨_, F, _, _, _, _, _, _, h⟩ := h
  exact fun w => h.own r w e
theorem TyC.new (h : TabX S W rt tb) {P : Pt → Prop} (hP : ∀ r, P r → ¬ W r) {e : List V} {t : Ty} (k : TyC P S e t) : TyC (fun r => ¬ W r) S e t := k.imp fun r p _ => ⟨hP r p, rfl⟩
end
theorem eqV_pn (r : Pt) (o : Nat) : eqV (.one .p) false (.ptr r o) .pnil = some (.bool false, .no) := of_eq_true (eq_self _)
theorem ne_keep {S S' : St} {W : Pt → Prop} {r : Pt} (c : Ch W S S') (e : S.row r ≠ .none) (n : ¬ W r) : S'.row r ≠ .none := by rw [c.same r e n]; exact e
theorem ty_wrap {S : St} {W : Pt → Prop} {rt : Pt} {tb : Tb} (hT : TabX S W rt tb) {n : Pt} (hn : S.nx = up 0 n) {e : List V} {t : Ty} (k : TyC (fun r => ¬ W r) S e t) {kd : Int} :
    TyC (fun r => ¬ W r) (S.new fun t => .cells t e) [.int .i64 kd, ofL [], .snil, .slx (up 0 n) 0 1 4 1] (.mk kd [] [] [t]) := by
  have g : Gr S (S.new fun t => .cells t e) := Gr.new hT.1 (good_cells _)
  refine .mk (es := [e]) (SlAt.nil _ _ _) ?_ rfl fun i h h' => ?_
  · have := one_at (st := S) (z := 4) k.four
    rw [hn] at this
    exact this.imp fun r p _ => ⟨fun w => hT.own (by rw [p, ← hn]; exact nx_none hT.1) w, rfl⟩
  · have : i = 0 := by simpa using h
    subst this
    exact k.gr g
theorem base_at (P : Pt → Prop) (st : St) (k : Int) : TyC P st [.int .i64 k, ofL [], .snil, .snil] (.mk k [] [] []) := .mk (es := []) (SlAt.nil _ _ _) (SlAt.nil _ _ _) rfl fun i h => absurd h (by simp)
theorem addT_zero : ∀ (t : Ty) {left : Int} {tb : Tb}, (addT t left tb).2.2.1 ≠ 0 → (addT t left tb).2.1 = 0
  | .mk k n ns ks, left, tb, h => by
    rw [addT_mk] at h ⊢
    split
    · rfl
    · rename_i c
      rw [if_neg c] at h
      generalize addTs ks (left - 1) tb = x at h ⊢
      obtain ⟨tb1, ids, e, l1⟩ := x
      simp only at h ⊢
      by_cases he : e = 0
      · rw [if_neg (fun k => k he)] at h ⊢
        simp only at h ⊢
        unfold layS at h ⊢
        split
        · rename_i c2; rw [c2] at h; exact absurd rfl h
        · rename_i c2
          rw [c2] at h
          by_cases c3 : 120 ≤ tb1.nodes.length
          · rw [if_pos c3]
          · simp only [if_neg c3] at h; exact absurd rfl h
      · rw [if_pos he]
theorem look_node {nodes : List Nd} {t : Ty} {i : Nat} (h : lookT nodes t = some i) : ∃ ids, nodes[i]? = some ⟨t.kind, t.name, t.names, ids⟩ ∧ looksT nodes t.kids = some ids := by
  obtain ⟨k, n, ns, ks⟩ := t
  rw [lookT] at h
  cases c : looksT nodes ks with
  | none => rw [c] at h; cases h
  | some ids =>
    rw [c] at h
    have := (idx_get h).2
    rw [Nat.sub_zero] at this
    exact ⟨ids, this, c⟩
theorem look_wrap {nodes : List Nd} {k : Int} {X : Ty} {p i : Nat} (h : lookT nodes (.mk k [] [] [X]) = some p) (hx : lookT nodes X = some i) : nodes[p]? = some ⟨k, [], [], [i]⟩ := by
  obtain ⟨ids, h1, h2⟩ := look_node h
  rw [show (Ty.mk k [] [] [X]).kids = [X] from rfl, looksT, hx, looksT] at h2
  injection h2 with h2
  rw [h1, ← h2]
  rfl
theorem addT_grow (t : Ty) (left : Int) (tb : Tb) : ∃ r, (addT t left tb).1 = { tb with nodes := tb.nodes ++ r } := addT_pre t left tb
where
  addT_pre : ∀ (t : Ty) (left : Int) (tb : Tb), ∃ r, (addT t left tb).1 = { tb with nodes := tb.nodes ++ r }
    | .mk k n ns ks, left, tb => by
      rw [addT_mk]
      split
      · exact ⟨[], by simp⟩
      · obtain ⟨r, hr⟩ := addTs_pre ks (left - 1) tb
        generalize addTs ks (left - 1) tb = x at hr ⊢
        obtain ⟨tb1, ids, e, l1⟩ := x
        simp only at hr ⊢
        by_cases he : e = 0
        · rw [if_neg (fun k => k he)]
          simp only
          unfold layS
          split
          · exact ⟨r, hr⟩
          · split
            · exact ⟨r, hr⟩
            · exact ⟨r ++ [⟨k, n, ns, ids⟩], by rw [hr]; simp⟩
        · rw [if_pos he]; exact ⟨r, hr⟩
  addTs_pre : ∀ (ts : List Ty) (left : Int) (tb : Tb), ∃ r, (addTs ts left tb).1 = { tb with nodes := tb.nodes ++ r }
    | [], left, tb => ⟨[], by rw [addTs_nil]; simp⟩
    | t :: ts, left, tb => by
      rw [addTs_cons]
      obtain ⟨r, hr⟩ := addT_pre t left tb
      generalize addT t left tb = x at hr ⊢
      obtain ⟨tb1, i, e, l1⟩ := x
      simp only at hr ⊢
      by_cases he : e = 0
      · rw [if_neg (fun k => k he)]
        obtain ⟨r2, hr2⟩ := addTs_pre ts l1 tb1
        generalize addTs ts l1 tb1 = y at hr2 ⊢
        obtain ⟨tb2, is, e2, l2⟩ := y
        simp only at hr2 ⊢
        exact ⟨r ++ r2, by rw [hr2, hr]; simp⟩
      · rw [if_pos he]; exact ⟨r, hr⟩
structure Holds (tb : Tb) (X Y : Ty) (i j : Nat) (is : Bool) : Prop where
  acy : Acy tb
  x : lookT tb.nodes X = some i
  y : lookT tb.nodes Y = some j
  fits : ∃ f W, fitsS tb f [] i j = some (is, W)
theorem Holds.lt {tb : Tb} {X Y : Ty} {i j : Nat} {is : Bool} (h : Holds tb X Y i j is) : i < tb.nodes.length ∧ j < tb.nodes.length := by
  obtain ⟨_, h1, _⟩ := look_node h.x
  obtain ⟨_, h2, _⟩ := look_node h.y
  exact ⟨(List.getElem?_eq_some_iff.1 h1).1, (List.getElem?_eq_some_iff.1 h2).1⟩
theorem Holds.ext {tb tb' : Tb} {X Y : Ty} {i j : Nat} {is : Bool} (h : Holds tb X Y i j is) (ha : Acy tb') (hr : ∃ r, tb'.nodes = tb.nodes ++ r) : Holds tb' X Y i j is := by
  obtain ⟨r, hr⟩ := hr
  obtain ⟨l1, l2⟩ := h.lt
  obtain ⟨f, W, hf⟩ := h.fits
  refine ⟨ha, by rw [hr]; exact look_app X h.x, by rw [hr]; exact look_app Y h.y, f, W, ?_⟩
  rw [fits_ext h.acy ha (fun i n e => by rw [hr, List.getElem?_append_left (List.getElem?_eq_some_iff.1 e).1]; exact e) f [] i j l1 l2]
  exact hf
theorem Holds.add {tb : Tb} {X Y Z : Ty} {i j : Nat} {is : Bool} (h : Holds tb X Y i j is) (hz : noName Z = true) (left : Int) : Holds (addT Z left tb).1 X Y i j is := by
  obtain ⟨r, hr⟩ := addT_grow Z left tb
  exact h.ext (addT_acy Z hz h.acy).1 ⟨r, by rw [hr]⟩
theorem addT_lt {Z : Ty} {left : Int} {tb : Tb} (hz : noName Z = true) (ha : Acy tb) (h0 : 0 < tb.nodes.length) : (addT Z left tb).2.1 < (addT Z left tb).1.nodes.length := by
  by_cases c : (addT Z left tb).2.2.1 = 0
  · exact (addT_acy Z hz ha).2 c
  · rw [addT_zero Z c]
    obtain ⟨r, hr⟩ := addT_grow Z left tb
    rw [hr]
    simp only [List.length_append]
    omega
theorem Holds.wrap {tb : Tb} {X Y : Ty} {i j : Nat} {is : Bool} (h : Holds tb X Y i j is) (nX : noName X = true) (nY : noName Y = true) {k : Int} (hk : k = 4 ∨ k = 5) (hg : (addT (.mk k [] [] [X]) 400 tb).2.2.1 = 0) (hh : (addT (.mk k [] [] [Y]) 400 (addT (.mk k [] [] [X]) 400 tb).1).2.2.1 = 0) :
    ∃ f W, fitsS (addT (.mk k [] [] [Y]) 400 (addT (.mk k [] [] [X]) 400 tb).1).1 f [] (addT (.mk k [] [] [X]) 400 tb).2.1 (addT (.mk k [] [] [Y]) 400 (addT (.mk k [] [] [X]) 400 tb).1).2.1 = some (is, W) := by
  have n1 : noName (.mk k [] [] [X]) = true := by rw [noName, noNames, noNames, nX]; rcases hk with rfl | rfl <;> rfl
  have n2 : noName (.mk k [] [] [Y]) = true := by rw [noName, noNames, noNames, nY]; rcases hk with rfl | rfl <;> rfl
  have h2 := (h.add n1 400).add n2 400
  obtain ⟨r1, a1, a2, _⟩ := addT_ok _ hg
  obtain ⟨r2, b1, b2, _⟩ := addT_ok _ hh
  generalize addT (.mk k [] [] [X]) 400 tb = A at *
  generalize addT (.mk k [] [] [Y]) 400 A.1 = B at *
  have e1 := look_wrap (by rw [b1]; exact look_app _ a2) h2.x
  have e2 := look_wrap b2 h2.y
  obtain ⟨f, W, hf⟩ := h2.fits
  obtain ⟨V, hV⟩ := fits_wrap h2.acy hk e1 e2 hf
  exact ⟨_, V, hV⟩
theorem layS_grow (tb : Tb) (n : Nd) : ∃ r, (layS tb n).1 = { tb with nodes := tb.nodes ++ r } := by
  unfold layS
  split
  · exact ⟨[], by simp⟩
  · split
    · exact ⟨[], by simp⟩
    · exact ⟨[n], rfl⟩
theorem Holds.lay {tb : Tb} {X Y : Ty} {i j : Nat} {is : Bool} (h : Holds tb X Y i j is) : Holds (layS tb ⟨6, [], [], [j]⟩).1 X Y i j is := by
  obtain ⟨r, hr⟩ := layS_grow tb ⟨6, [], [], [j]⟩
  exact h.ext (acy_lay h.acy (show (6 : Int) ≠ 9 by decide) fun k hk => by rw [List.mem_singleton.1 hk]; exact h.lt.2) ⟨r, by rw [hr]⟩
theorem Holds.opt {tb : Tb} {X Y : Ty} {i j : Nat} {is : Bool} (h : Holds tb X Y i j is) (hx : X.kind ≠ 6) (hg : (layS tb ⟨6, [], [], [j]⟩).2.2 = 0) :
    ∃ f W, fitsS (layS tb ⟨6, [], [], [j]⟩).1 f [] i (layS tb ⟨6, [], [], [j]⟩).2.1 = some (is, W) := by
  obtain ⟨f, W, hf⟩ := h.lay.fits
  obtain ⟨_, a1, _⟩ := look_node h.lay.x
  obtain ⟨_, _, b2, _⟩ := layS_ok hg
  have b3 := (idx_get b2).2
  rw [Nat.sub_zero] at b3
  obtain ⟨V, hV⟩ := fits_opt_in h.lay.acy a1 hx b3 hf
  exact ⟨_, V, hV⟩
theorem Holds.opts {tb : Tb} {X Y : Ty} {i j k : Nat} {is : Bool} (h : Holds tb X Y i j is) (hi : tb.nodes[i]? = some ⟨6, [], [], [k]⟩) (hg : (layS tb ⟨6, [], [], [j]⟩).2.2 = 0) :
    ∃ is', (∃ f W, fitsS (layS tb ⟨6, [], [], [j]⟩).1 f [] k j = some (is', W)) ∧ ∃ f W, fitsS (layS tb ⟨6, [], [], [j]⟩).1 f [] i (layS tb ⟨6, [], [], [j]⟩).2.1 = some (is', W) := by
  obtain ⟨r, b1, b2, _⟩ := layS_ok hg
  have b3 := (idx_get b2).2
  rw [Nat.sub_zero] at b3
  obtain ⟨x, hx⟩ : ∃ x, fitsS (layS tb ⟨6, [], [], [j]⟩).1 (j + 1) [] k j = some x := Option.isSome_iff_exists.1 (fits_some h.lay.acy _ _ _ _ (Nat.lt_succ_self _))
  have hi' : (layS tb ⟨6, [], [], [j]⟩).1.nodes[i]? = some ⟨6, [], [], [k]⟩ := by
    rw [b1]
    show (tb.nodes ++ r)[i]? = _
    rw [List.getElem?_append_left (List.getElem?_eq_some_iff.1 hi).1]; exact hi
  obtain ⟨V, hV⟩ := fits_opts h.lay.acy hi' b3 hx
  exact ⟨x.1, ⟨_, x.2, hx⟩, _, V, hV⟩
theorem kid_there {kd : Int} {c : Ty} {tb tb' : Tb} {k : Nat} (h : (addT (.mk kd [] [] [c]) 400 tb').2.2.1 = 0) (hk : lookT tb.nodes c = some k) : addT c 400 tb = (tb, k, 0, (400 : Int) - (sizeT c : Nat)) := by
  have h1 := (addT_left (.mk kd [] [] [c]) 400 tb' (by decide)).2.2 h
  obtain ⟨_, _, _, h2⟩ := addT_ok _ h
  rw [h2, sizeT, sizesT, sizesT] at h1
  have h3 : (addT c (400 - 1) tb').2.2.1 = 0 := by
    rw [addT_mk] at h
    by_cases c1 : (400 : Int) - 1 < 0 ∨ 8 < [c].length ∨ 8 < ([] : List Str).length
    · rw [if_pos c1] at h; cases h
    rw [if_neg c1, addTs_cons] at h
    generalize addT c (400 - 1) tb' = x at h ⊢
    obtain ⟨tb1, i, e, l1⟩ := x
    simp only at h ⊢
    by_cases he : e = 0
    · exact he
    · rw [if_pos he] at h
      simp only at h
      rw [if_pos he] at h
      exact absurd h he
  exact addT_there c h3 hk (by push_cast at h1; omega)
theorem put_kind (t : Ty) (n : Str) (x : Ty) : (putS t n x).kind = t.kind := by
  unfold putS
  split <;> rfl
theorem fold_kind (f : Nat → Str) (g : Nat → Ty) : ∀ (l : List Nat) (t : Ty), (l.foldl (fun t i => putS t (f i) (g i)) t).kind = t.kind
  | [], t => rfl
  | i :: l, t => by rw [List.foldl_cons, fold_kind f g l, put_kind]
theorem opt_tree (nms : List Str) : ∀ (d : Nat) (r : Rw), (treeS nms d r).kind = 6 → ∃ c, treeS nms d r = .mk 6 [] [] [c]
  | 0, r, h => by
    rw [treeS] at h
    have h : kindR nms 0 r = 6 := h
    unfold kindR at h
    split at h
    · exact absurd h (by decide)
    · rename_i c
      exact absurd (.inr ⟨by omega, by omega, by omega⟩) c
  | d + 1, r, h => by
    rw [treeS] at h ⊢
    by_cases c9 : kindR nms (d + 1) r = 9
    · simp only [c9, if_true] at h
      exact absurd h (show ¬ (9 : Int) = 6 by decide)
    simp only [if_neg c9] at h ⊢
    by_cases c4 : kindR nms (d + 1) r = 4 ∨ kindR nms (d + 1) r = 5 ∨ kindR nms (d + 1) r = 6
    · simp only [if_pos c4] at h ⊢
      by_cases c6 : kindR nms (d + 1) r = 6 ∧ (treeS nms d (kidS r 0)).kind = 6
      · simp only [if_pos c6] at h ⊢
        exact opt_tree nms d _ c6.2
      · simp only [if_neg c6] at h ⊢
        have h : kindR nms (d + 1) r = 6 := h
        rw [h]
        exact ⟨_, rfl⟩
    simp only [if_neg c4] at h ⊢
    by_cases c7 : kindR nms (d + 1) r = 7 ∨ kindR nms (d + 1) r = 8
    · simp only [if_pos c7] at h
      rw [fold_kind (nameAt r) (fun i => treeS nms d (kidS r i))] at h
      have h : kindR nms (d + 1) r = 6 := h
      omega
    · simp only [if_neg c7] at h
      have h : kindR nms (d + 1) r = 6 := h
      omega
end Eva
