/- A schema that raw trees make, and whether the document takes it. A number's type as a tree. A function's numbers, told. Types that are the same, told. 'ConsSigs': what it answers. No condition. -/
import Derived.Test.YtbjfmnjnonnmeaaQ4
set_option linter.unusedVariables false
set_option linter.unusedSimpArgs false
set_option maxRecDepth 100000
namespace Go.Proofs.Ytbjfmnjnonnmeaa
open Eva Go.RowKit
set_option maxHeartbeats 4000000 in
theorem goodC {P : Pt → Prop} {st : St} {e1 : List V} {q1 : Rw} {v2 v3 : V} {ts ss : List Rw} (hw : WF st) (h1 : RwC P st e1 q1) (h2 : RwsAt P st v2 ts) (h3 : RwsAt P st v3 ss) :
  Does (tabT tabD) n_spruelaw4_Good [.agg e1, v2, v3] st fun v S => Gr st S ∧ ∃ e, v = .tup [.agg e, .bool (decide (refS (schemaS q1 ts ss) = 0))] ∧ SchC (fun r => st.row r = .none) S e (schemaS q1 ts ss) := by
 refine does_fn at_spruelaw4_Good rfl ?_
 obtain ⟨n0, hn0⟩ : ∃ n, st.nx = up 0 n := ⟨_, up0 _⟩
 have g1 := h1
 obtain ⟨nv1, kv1, es1, rfl, _, _, _, a1, a2, _, _, _⟩ := h1.inv
 have c1 := a1.cells
 have s1 := a1.sc
 have c2 := a2.cells
 have s2 := a2.sc
 obtain ⟨l2, s3, c3, m2⟩ := h2.len
 obtain ⟨l3, s4, c4, m3⟩ := h3.len
 obtain ⟨b3, hb3⟩ : ∃ b, b = up 0 n0 := ⟨_, rfl⟩
 obtain ⟨b6, hb6⟩ : ∃ b, b = up 1 n0 := ⟨_, rfl⟩
 have n6 : st.row b6 = .none := by rw [hb6]; exact nx0 hw hn0 1
 simp only [cf_spruelaw4_Good, XY, simprocAttr]
 rw [wC_seq]; simp only [XY, simprocAttr, hn0, c1, s1, c2, s2]
 rw [← hb3, ← hb6]
 obtain ⟨S0, hS0⟩ : ∃ S0, S0 = ((st.new fun t => .cells t [.int .i64 q1.kind, .int .i64 q1.n, nv1, kv1]).new fun t => .cells t [.int .i64 0, ofL [], .snil, .snil, .snil, .snil]) := ⟨_, rfl⟩
 have g0 : Gr st S0 := by rw [hS0]; exact (Gr.new hw (good_cells _)).nn (good_cells _)
 obtain ⟨t3, r3⟩ : ∃ t, S0.row b3 = .cells t [.int .i64 q1.kind, .int .i64 q1.n, nv1, kv1] := ⟨_, by rw [hS0, hb3]; simp only [XZ, simprocAttr, hn0]; rfl⟩
 obtain ⟨t6, r6⟩ : ∃ t, S0.row b6 = .cells t [.int .i64 0, ofL [], .snil, .snil, .snil, .snil] := ⟨_, by rw [hS0, hb6]; simp only [XZ, simprocAttr, hn0]; rfl⟩
 rw [← hS0]
 clear hS0
 rw [wC_seq]; simp only [XY, simprocAttr, r3]
 refine wCall_plain (schemaC g0.wf (g1.gr g0) (h2.gr g0) (h3.gr g0)) ?_
 rintro _ S1 ⟨gs, e, rfl, hs⟩
 obtain ⟨sc, hsc⟩ : ∃ s, s = schemaS q1 ts ss := ⟨_, rfl⟩
 rw [← hsc] at hs ⊢
 have hs0 := hs
 obtain ⟨c, tv, sv, rfl, k1, k2, k3⟩ := hs
 obtain ⟨M, hM⟩ : ∃ M, M = sc.main := ⟨_, rfl⟩
 rw [← hM] at k1
 obtain ⟨mn, mk, xe, rfl, u1, u2, u3, u4⟩ := k1.inv
 have d1 := u1.cells
 have d2 := u1.sc
 have d3 := u2.cells
 have d4 := u2.sc
 have d5 := k2.sc
 have d6 := k3.sc
 have w1 := gs.wf
 obtain ⟨n1, hn1⟩ : ∃ n, S1.nx = up 0 n := ⟨_, up0 _⟩
 simp only [List.cons_append, List.nil_append] at hs0 ⊢
 simp only [XY, simprocAttr, hn1, d1, d2, d3, d4, d5.1, d5.2, d6.1, d6.2]
 obtain ⟨b8, hb8⟩ : ∃ b, b = up 0 n1 := ⟨_, rfl⟩
 obtain ⟨S2, hS2⟩ : ∃ S2, S2 = ((S1.new fun t => .cells t [.int .i64 0, ofL [], .snil, .snil, .snil, .snil]).wr (up 0 n1) S1.t fun u => .cells u [.int .i64 M.kind, ofL M.name, mn, mk, tv, sv]) := ⟨_, rfl⟩
 have g2 : Gr S1 S2 := by rw [hS2]; exact (Gr.refl w1).nw hn1 (good_cells _) (good_cells _)
 obtain ⟨t8, r8⟩ : ∃ t, S2.row b8 = .cells t [.int .i64 M.kind, ofL M.name, mn, mk, tv, sv] := ⟨_, by rw [hS2, hb8]; simp only [XZ, simprocAttr, hn1]; rfl⟩
 rw [← hS2, ← hb8]
 clear hS2
 have hs2 := hs0.imp fun r p e => ⟨p, g2.same r e⟩
 rw [wC_seq]; simp only [XY, simprocAttr, r8]
 refine wCall_marked (rcheckC (wf_low g2.wf S2.t) (hs2.low S2.t)) ?_
 rintro _ S3 g3 rfl
 have gg := (g0.trans gs).trans (g2.trans g3)
 have r60' := r6
 have r6 := ((gs.trans g2).trans g3).cells r6
 obtain ⟨R, hR⟩ : ∃ R, R = refS sc := ⟨_, rfl⟩
 rw [← hR]
 have fin : Gr st (S3.wr b6 t6 fun u => .cells u [.int .i64 M.kind, ofL M.name, mn, mk, tv, sv]) ∧ SchC (fun r => st.row r = .none) (S3.wr b6 t6 fun u => .cells u [.int .i64 M.kind, ofL M.name, mn, mk, tv, sv]) [.int .i64 M.kind, ofL M.name, mn, mk, tv, sv] sc := by
  refine ⟨gg.wr n6 (ne_cells r6) (by rw [r6]; rfl) (good_cells _), ?_⟩
  have r60 : S0.row b6 ≠ .none := fun e => by
   have := (gs.trans g2).trans g3
   exact (ne_cells r60') e
  exact hs0.imp fun r p e => ⟨Ch.fresh (Ch.of (fun _ => False) g0) p, by rw [row_wr_ne _ _ _ fun k => r60 (by rw [← k]; exact p), g3.same r (by rw [g2.same r e]; exact e), g2.same r e]⟩
 by_cases h0 : R = 0
 ·simp only [XZ, simprocAttr, h0, r6, d1, d2, d3, d4, d5.1, d5.2, d6.1, d6.2, apartAll_nil]
  exact ⟨fin.1, _, rfl, fin.2⟩
 ·simp only [XZ, simprocAttr, h0, r6, d1, d2, d3, d4, d5.1, d5.2, d6.1, d6.2, apartAll_nil]
  exact ⟨fin.1, _, rfl, fin.2⟩
theorem looks_get {nodes : List Nd} : ∀ {ts : List Ty} {ids : List Nat}, looksT nodes ts = some ids → ids.length = ts.length ∧ ∀ i (h : i < ts.length) (h' : i < ids.length), lookT nodes ts[i] = some ids[i]
 | [], ids, h => by
   rw [looksT] at h
   injection h with h
   subst h
   exact ⟨rfl, fun i h => absurd h (by simp)⟩
 | t :: r, ids, h => by
   rw [looksT] at h
   cases c : lookT nodes t with
   | none => rw [c] at h; cases h
   | some a =>
     cases c2 : looksT nodes r with
     | none => rw [c, c2] at h; cases h
     | some l =>
       rw [c, c2] at h
       injection h with h
       subst h
       obtain ⟨i1, i2⟩ := looks_get c2
       refine ⟨by simp [i1], fun i h1 h2 => ?_⟩
       cases i with
       | zero => exact c
       | succ i => exact i2 i (by simpa using h1) (by simpa using h2)
set_option maxHeartbeats 4000000 in
theorem typeC (m : Nat) : ∀ (X : Ty), tsz X < m → ∀ {st : St} {W : Pt → Prop} {rt : Pt} {tb : Tb} {id : Nat}, TabX st W rt tb → lookT tb.nodes X = some id →
  Does (tabT tabD) n_cons_Table_Type [.ptr rt 0, .int .i64 id] st fun v S => Gr st S ∧ ∃ e, v = .agg e ∧ TyC (fun r => st.row r = .none) S e X := by
 induction m with
 | zero => intro X h; exact absurd h (Nat.not_lt_zero _)
 | succ m ih =>
 intro X hX st W rt tb id hT hl
 obtain ⟨k, n, ns, ks⟩ := X
 obtain ⟨ids, hnd, hks⟩ := look_node hl
 have hnd : tb.nodes[id]? = some ⟨k, n, ns, ids⟩ := hnd
 have hks : looksT tb.nodes ks = some ids := hks
 obtain ⟨hlen, hkid⟩ := looks_get hks
 have hi := (List.getElem?_eq_some_iff.1 hnd).1
 have hne : tb.nodes[id] = ⟨k, n, ns, ids⟩ := (List.getElem?_eq_some_iff.1 hnd).2
 have hTX := hT
 obtain ⟨hw, F, hT⟩ := hT
 have hfit : ids.length ≤ 8 := by
  obtain ⟨lv, ra, rn, rs, es, sv, h⟩ := hT
  have := (h.fit _ (List.getElem_mem hi)).2
  rw [hne] at this
  exact this
 refine does_fn at_cons_Table_Type rfl ?_
 obtain ⟨n0, hn0⟩ : ∃ n, st.nx = up 0 n := ⟨_, up0 _⟩
 obtain ⟨b4, hb4⟩ : ∃ b, b = up 0 n0 := ⟨_, rfl⟩
 have e4 : st.row b4 = .none := by rw [hb4]; exact nx0 hw hn0 0
 simp only [cf_cons_Table_Type, XY, simprocAttr]
 rw [wC_seq]; simp only [XY, simprocAttr, hn0]
 rw [← hb4]
 obtain ⟨S0, hS0⟩ : ∃ S0, S0 = (st.new fun t => .cells t [.int .i64 0, ofL [], .snil, .snil]) := ⟨_, rfl⟩
 have g0 : Gr st S0 := by rw [hS0]; exact Gr.new hw (good_cells _)
 obtain ⟨t4, r4⟩ : ∃ t, S0.row b4 = .cells t [.int .i64 0, ofL [], .snil, .snil] := ⟨_, by rw [hS0, hb4]; simp only [XZ, simprocAttr, hn0]; rfl⟩
 rw [← hS0]
 clear hS0
 rw [wC_seq]; simp only [XY, simprocAttr]
 refine wCall_plain (nodeC (Q := fun r => S0.row r = .none) g0.wf (hT.gr g0) hi fun _ h => h) ?_
 rintro _ S1 ⟨g1, e, rfl, nv, kv, rfl, h1, h2⟩
 rw [hne] at h1 h2 ⊢
 have c1 := h1.cells
 have s1 := h1.sc
 have c2 := h2.cells
 have s2 := h2.sc
 have w1 := g1.wf
 obtain ⟨n1, hn1⟩ : ∃ n, S1.nx = up 0 n := ⟨_, up0 _⟩
 simp only [XY, simprocAttr, hn1, c1, c2, s1, s2]
 obtain ⟨S2, hS2⟩ : ∃ S2, S2 = ((S1.new fun t => .cells t [.int .i64 0, ofL [], .snil, .snil]).wr (up 0 n1) S1.t fun u => .cells u [.int .i64 k, ofL n, nv, kv]) := ⟨_, rfl⟩
 have g2 : Gr S1 S2 := by rw [hS2]; exact (Gr.refl w1).nw hn1 (good_cells _) (good_cells _)
 obtain ⟨t5, r5⟩ : ∃ t, S2.row (up 0 n1) = .cells t [.int .i64 k, ofL n, nv, kv] := ⟨_, by rw [hS2]; simp only [XZ, simprocAttr, hn1]; rfl⟩
 rw [← hS2]
 clear hS2
 rw [wC_seqj, wC_seq]; simp only [XY, simprocAttr]
 have w2 := g2.wf
 obtain ⟨n2, hn2⟩ : ∃ n, S2.nx = up 0 n := ⟨_, up0 _⟩
 have o5 := fun k => nes (ne_up w2 hn2 (ne_cells r5) k)
 rw [wC_seq]; simp only [XY, simprocAttr, r5, hn2, c1, c2, s1, s2, o5]
 obtain ⟨b7, hb7⟩ : ∃ b, b = up 0 n2 := ⟨_, rfl⟩
 obtain ⟨S3, hS3⟩ : ∃ S3, S3 = ((S2.new fun t => .cells t [.int .i64 0, ofL [], .snil, .snil]).wr (up 0 n2) S2.t fun u => .cells u [.int .i64 k, ofL n, nv, .snil]) := ⟨_, rfl⟩
 have g3 : Gr S2 S3 := by rw [hS3]; exact (Gr.refl w2).nw hn2 (good_cells _) (good_cells _)
 obtain ⟨t7, r7⟩ : ∃ t, S3.row b7 = .cells t [.int .i64 k, ofL n, nv, .snil] := ⟨_, by rw [hS3, hb7]; simp only [XZ, simprocAttr, hn2]; rfl⟩
 have e72 : S2.row b7 = .none := by rw [hb7]; exact nx0 w2 hn2 0
 rw [← hS3, ← hb7]
 clear hS3
 have g03 := (g1.trans g2).trans g3
 have gs3 := g0.trans g03
 have e7 : st.row b7 = .none := Ch.fresh (Ch.of (fun _ => False) ((g0.trans g1).trans g2)) e72
 have r5 := g3.cells r5
 have r43 := g03.cells r4
 have ne47 : b4 ≠ b7 := fun e => by
  have := (g1.trans g2).cells r4
  rw [e, e72] at this; cases this
 obtain ⟨B, hB⟩ : ∃ B : Pt → Prop, ∀ r, B r ↔ (st.row r ≠ .none ∨ r = b4 ∨ r = b7) := ⟨_, fun _ => Iff.rfl⟩
 have B4 : B b4 := (hB _).2 (.inr (.inl rfl))
 have B7 : B b7 := (hB _).2 (.inr (.inr rfl))
 have B3 : ∀ r, B r → S3.row r ≠ .none := fun r h => by
  rcases (hB _).1 h with h | h | h
  ·rw [gs3.same r h]; exact h
  ·rw [h]; exact ne_cells r43
  ·rw [h]; exact ne_cells r7
 have fresh : ∀ r, S0.row r = .none → S1.row r ≠ .none → ¬ B r := fun r h a b => by
  rcases (hB _).1 b with b | b | b
  ·exact b (Ch.fresh (Ch.of (fun _ => False) g0) h)
  ·rw [b] at h; rw [r4] at h; cases h
  ·rw [b] at a; exact a (Ch.fresh (Ch.of (fun _ => False) g2) e72)
 have keepS : ∀ {S : St}, (∀ r, S3.row r ≠ .none → ¬ B r → S.row r = S3.row r) → ∀ r, S0.row r = .none → S1.row r ≠ .none → (st.row r = .none) ∧ S.row r = S1.row r := fun kk r h a => by
  have x := (g2.trans g3).same r a
  exact ⟨Ch.fresh (Ch.of (fun _ => False) g0) h, by rw [kk r (by rw [x]; exact a) (fresh r h a), x]⟩
 obtain ⟨J, hJ⟩ : ∃ J : Fr → St → Prop, ∀ fr S, J fr S ↔ (∃ kv' t, fr 4 = .ptr b4 0 ∧ fr 7 = .ptr b7 0 ∧ LsF TyC st S3 B 4 S kv' ks ∧ S.row b7 = .cells t [.int .i64 k, ofL n, nv, kv'] ∧ S.row b4 = .cells t4 [.int .i64 0, ofL [], .snil, .snil]) := ⟨_, fun _ _ => Iff.rfl⟩
 have len2 := h2.len
 rw [ints_len] at len2
 refine wC_cut J ?_ ?_
 ·rw [wC_seq]; simp only [XY, simprocAttr, r5, len2]
  obtain ⟨L, hL⟩ : ∃ L : Nat → Fr → St → Prop, ∀ j fr S, L j fr S ↔ ∃ (i : Nat) (kv' : V) (t : Nat), j + i = ks.length ∧ fr 0 = .ptr rt 0 ∧ fr 4 = .ptr b4 0 ∧ fr 7 = .ptr b7 0 ∧ fr 27 = kv ∧ fr 28 = .int .i64 ids.length ∧ fr 29 = .int .i64 i ∧ LsF TyC st S3 B 4 S kv' (ks.take i) ∧ S.row b7 = .cells t [.int .i64 k, ofL n, nv, kv'] ∧ S.row b4 = .cells t4 [.int .i64 0, ofL [], .snil, .snil] := ⟨_, fun _ _ _ => Iff.rfl⟩
  refine wC_loop L ks.length (by omega) ((hL _ _ _).2 ⟨0, .snil, t7, by omega, by simp only [XZ, simprocAttr], by simp only [XZ, simprocAttr], by simp only [XZ, simprocAttr], by simp only [XZ, simprocAttr], by simp only [XZ, simprocAttr], by simp only [XZ, simprocAttr] <;> rfl, LsF.nil gs3, r7, r43⟩) ?_
  intro j fr S hLj
  obtain ⟨i, kv', t, hj, f0, f4, f7, f27, f28, f29, hF, r7, r4⟩ := (hL _ _ _).1 hLj
  by_cases hi : i < ks.length
  ·have hi' : (i : Int) < ids.length := by omega
   have hii : i < ids.length := by omega
   have hadd1 : IntKind.i64.wrap ((i : Int) + 1) = ((i + 1 : Nat) : Int) := by rw [i64_in (by omega) (by omega)]; rfl
   have h2S : SlAt (fun r => st.row r = .none) S kv 1 (ints ids) := h2.imp (keepS hF.keep)
   obtain ⟨ra, oa, o1, o2, o3, o4⟩ : ∃ r o, iaddrSV 1 kv (.int .i64 i) = some (.ptr r o, .no) ∧ True ∧ True ∧ ld1 (S.row r) o = some (.int .i64 (ids[i] : Nat), .no) := by
    obtain ⟨q, o, a1, a2, a3, a4, a5⟩ := h2S.elem (i := i) (by rw [ints_len]; omega)
    have e : (ints ids)[i]'(by rw [ints_len]; omega) = [.int .i64 (ids[i] : Nat)] := by simp [ints]
    have := a5 0 (by rw [e]; simp)
    simp only [e] at this
    exact ⟨q, o, a1, trivial, trivial, this⟩
   have hlk := hkid i hi hii
   rw [wC_seq]; simp only [XY, simprocAttr, f28, f29, hi']
   rw [wC_seqj]; simp only [XY, simprocAttr]
   rw [wC_seqj]; simp only [XY, simprocAttr]
   rw [wC_seq]; simp only [XY, simprocAttr, f27, f29, o1, o4]
   simp only [XY, simprocAttr, f0, f7, r7]
   refine wCall_marked (ih ks[i] (by have := tsz_kid (k := k) (n := n) (ns := ns) hi; omega) (st := { S with low := S.t }) (W := W) ⟨wf_low hF.g.wf _, F, (hT.gr hF.g).keep fun r _ _ => rfl⟩ hlk) ?_
   rintro _ Se ge ⟨y, rfl, hy⟩
   obtain ⟨Y, hY⟩ : ∃ Y, Y = ks[i] := ⟨_, rfl⟩
   rw [← hY] at hy
   have hy0 := hy
   obtain ⟨yn, yk, ye, rfl, z1, z2, z3, z4⟩ := hy.inv
   have q1 := z1.cells
   have q2 := z1.sc
   have q3 := z2.cells
   have q4 := z2.sc
   have we := ge.wf
   obtain ⟨ne, hne'⟩ : ∃ n, Se.nx = up 0 n := ⟨_, up0 _⟩
   have Fe := hF.gr (C := TyC) TyC.imp ge
   have re := ge.cells r7
   have re4 := ge.cells r4
   simp only [XY, simprocAttr, hne', q1, q2, q3, q4]
   have gn : Gr Se (Se.new fun t => .cells t [.int .i64 Y.kind, ofL Y.name, yn, yk]) := Gr.new we (good_cells _)
   have Fg := Fe.gr (C := TyC) TyC.imp gn
   have hone := one_at (st := Se) (z := 4) (e := [.int .i64 Y.kind, ofL Y.name, yn, yk]) rfl
   rw [hne'] at hone
   refine wW_appL (C := TyC) TyC.imp Fg hone (by simp only [allSc, List.all_cons, List.all_nil, q2, q4]; rfl) (hy0.imp fun r p e => ⟨⟨fun b => hF.live r (B3 r b) p, fun e => hF.alive e p⟩, gn.same r e⟩) B3 (by rw [List.length_take]; omega) fun Sf vf Ff kp => ?_
   rw [hY, ← List.take_succ_eq_append_getElem hi] at Ff
   have d5 := Ff.sc
   have rg := gn.cells re
   have rg4 := gn.cells re4
   have rf := (kp b7 (ne_cells rg) fun e => B3 b7 B7 (hF.own _ e)).trans rg
   have rf4 := (kp b4 (ne_cells rg4) fun e => B3 b4 B4 (hF.own _ e)).trans rg4
   simp only [XZ, simprocAttr, f7, f29, rf, hadd1, apartAll_nil, d5.1, d5.2]
   exact ⟨j - 1, by omega, (hL _ _ _).2 ⟨i + 1, vf, _, by omega, by simp only [XZ, simprocAttr, f0], by simp only [XZ, simprocAttr, f4], by simp only [XZ, simprocAttr, f7], by simp only [XZ, simprocAttr, f27], by simp only [XZ, simprocAttr, f28], by simp only [XZ, simprocAttr], Ff.wr (C := TyC) TyC.imp B7 e7 (B3 _ B7) rf, row_wr_same _ _ _ _, (row_wr_ne _ _ _ ne47).trans rf4⟩⟩
  ·have hi' : ¬ (i : Int) < ids.length := by omega
   simp only [XZ, simprocAttr, f28, f29, hi']
   rw [List.take_of_length_le (by omega)] at hF
   exact (hJ _ _).2 ⟨kv', t, by simp only [XZ, simprocAttr, f4], by simp only [XZ, simprocAttr, f7], hF, r7, r4⟩
 intro fr S hJf
 obtain ⟨kv', t, f4, f7, hF, r7, r4⟩ := (hJ _ _).1 hJf
 have d5 := hF.sc
 simp only [XZ, simprocAttr, f4, f7, r7, r4, c1, s1, d5.1, d5.2]
 have FE := hF.wr (C := TyC) TyC.imp (c' := [.int .i64 k, ofL n, nv, kv']) B4 e4 (B3 _ B4) r4
 have hst : ∀ r, ¬ B r → st.row r = .none := fun r n => Classical.byContradiction fun e => n ((hB _).2 (.inl e))
 obtain ⟨es, x1, x2, x3⟩ := FE.lst (C := TyC) TyC.imp B3
 exact ⟨FE.g, _, rfl, .mk (h1.imp (keepS FE.keep)) (x1.imp fun r p e => ⟨hst r p, rfl⟩) x2 fun i a b => (x3 i a b).imp fun r p e => ⟨hst r p, rfl⟩⟩
theorem find_par {R : V → List Nat → Prop} (n : Str) : ∀ {sv : List (Str × V)} {sg : List (Str × List Nat)}, sv.length = sg.length → (∀ i (h : i < sv.length) (h' : i < sg.length), sv[i].1 = sg[i].1 ∧ R sv[i].2 sg[i].2) →
  (∀ ids, (sg.find? fun p => n = p.1).map (·.2) = some ids → ∃ v, at_ n sv = some v ∧ R v ids) ∧ ((sg.find? fun p => n = p.1).map (·.2) = none → at_ n sv = none)
 | [], [], _, _ => ⟨fun ids h => (by cases h), fun _ => rfl⟩
 | (a, v) :: r, (b, w) :: q, hl, h => by
   obtain ⟨i1, i2⟩ := find_par n (sv := r) (sg := q) (by simpa using hl) fun i h1 h2 => h (i + 1) (by simpa using h1) (by simpa using h2)
   have h0 := h 0 (by simp) (by simp)
   simp only [List.getElem_cons_zero] at h0
   rw [at_]
   by_cases c : n = a
   ·have c' : n = b := by rw [c]; exact h0.1
    rw [if_pos c]
    simp only [List.find?, c', decide_true, Option.map_some]
    exact ⟨fun ids e => ⟨v, rfl, by injection e with e; rw [← e]; exact h0.2⟩, fun e => by cases e⟩
   ·have c' : ¬ n = b := fun e => c (by rw [e]; exact h0.1.symm)
    rw [if_neg c]
    simp only [List.find?, c', decide_false]
    exact ⟨i1, i2⟩
theorem sigX {W : Pt → Prop} {st : St} {rt : Pt} {tb : Tb} (nm : Str) {ids : List Nat} {m : Nat} (hT : TabX st W rt tb) (hs : sigI tb nm = some ids) (hm : ids.length = m + 1) (hm8 : m ≤ 100) :
  Does (tabT tabD) n_cons_Table_Sig [.ptr rt 0, ofL nm] st fun v S => Gr st S ∧ ∃ v', v = .tup [v', .int .i64 (ids[m] : Nat), .bool true] ∧ SlAt (fun r => st.row r = .none) S v' 1 (ints (ids.take m)) := by
 obtain ⟨hw, F, lv, ra, rn, rs, es, sv, hT⟩ := hT
 refine does_fnG tabM at_cons_Table_Sig rfl hw fun K fin => ?_
 obtain ⟨t, c⟩ := hT.cell
 have hlk := lookup_at (e := .one .s) hT.sigs .snil true nm (str_heq _ _) rfl
 obtain ⟨v, hv, hsl⟩ := (find_par (R := fun v ids => SlAt F st v 1 (ints ids)) nm hT.slen hT.sig).1 ids hs
 rw [hv] at hlk
 simp only [ansL, if_true] at hlk
 have hlen : ints ids = ints ids := rfl
 have len := hsl.len
 rw [ints_len, hm] at len
 have hsub : IntKind.i64.wrap (((m + 1 : Nat) : Int) - 1) = (m : Int) := by rw [i64_in (by omega) (by omega)]; omega
 obtain ⟨v1, hc, hs1, _⟩ := cut_hi hsl (k := m) (by rw [ints_len]; omega)
 rw [show (ints ids).take m = ints (ids.take m) by simp [ints, List.map_take]] at hs1
 have hc' : ∀ S', cutLV S' 1 v none (some (.int .i64 (m : Int))) none = some (v1, .no) := fun _ => hc
 simp only [cf_cons_Table_Sig, XZ, simprocAttr, c, hlk, len, hsub, hc']
 refine wCall_marked (clone_int (Q := fun r => st.row r = .none) (wf_low hw _) (hs1.low _) (ints_ok _) (by rw [ints_len, List.length_take]; omega) fun r h => h) ?_
 rintro v' S2 g2 c2
 have c2 := c2.unlow
 obtain ⟨r, q, a1, a2, a3, a4⟩ := SlAt.one (xs := ids.map fun n : Nat => V.int .i64 (n : Int)) (i := m) (hsl.gr g2) (by simp [hm])
 simp only [List.getElem_map] at a4
 simp only [XZ, simprocAttr, len, hsub, a1, a4, apartAll_nil]
 exact fin _ _ (fun r e => g2.same r e) fun g => ⟨_, rfl, c2⟩
theorem sigN {W : Pt → Prop} {st : St} {rt : Pt} {tb : Tb} (nm : Str) (hT : TabX st W rt tb) (hs : sigI tb nm = none) :
  Does (tabT tabD) n_cons_Table_Sig [.ptr rt 0, ofL nm] st fun v S => v = .tup [.snil, .int .i64 0, .bool false] ∧ st = S := by
 obtain ⟨hw, F, lv, ra, rn, rs, es, sv, hT⟩ := hT
 refine does_fn at_cons_Table_Sig rfl ?_
 obtain ⟨t, c⟩ := hT.cell
 have hlk := lookup_at (e := .one .s) hT.sigs .snil true nm (str_heq _ _) rfl
 rw [(find_par (R := fun v ids => SlAt F st v 1 (ints ids)) nm hT.slen hT.sig).2 hs] at hlk
 simp only [ansL, if_true] at hlk
 simp only [cf_cons_Table_Sig, XZ, simprocAttr, c, hlk]
set_option maxHeartbeats 2000000 in
theorem sameC (m : Nat) : ∀ (X : Ty), tsz X < m → fitT X = true → ∀ {P Q : Pt → Prop} {st : St} {e1 e2 : List V}, WF st → TyC P st e1 X → TyC Q st e2 X →
  Does (tabT tabD) n_sprueref3_Same [.agg e1, .agg e2] st fun v S => Gr st S ∧ v = .bool true := by
 induction m with
 | zero => intro X h; exact absurd h (Nat.not_lt_zero _)
 | succ m ih =>
 intro X hX hf P Q st e1 e2 hw h1 h2
 obtain ⟨k, n, ns, ks⟩ := X
 obtain ⟨f1, f2, f3⟩ := fitT_mk hf
 refine does_fn at_sprueref3_Same rfl ?_
 obtain ⟨n0, hn0⟩ : ∃ n, st.nx = up 0 n := ⟨_, up0 _⟩
 obtain ⟨nv, kv, es, rfl, x1, x2, x3, x4⟩ := h1.inv'
 obtain ⟨mv, lv, fs, rfl, y1, y2, y3, y4⟩ := h2.inv'
 have c1 := x1.cells
 have c2 := x1.sc
 have c3 := x2.cells
 have c4 := x2.sc
 have d1 := y1.cells
 have d2 := y1.sc
 have d3 := y2.cells
 have d4 := y2.sc
 have xl1 := x1.len
 have xl2 := x2.len
 have yl1 := y1.len
 have yl2 := y2.len
 rw [strs_len] at xl1 yl1
 rw [x3] at xl2
 rw [y3] at yl2
 obtain ⟨p2, hp2⟩ : ∃ b, b = up 0 n0 := ⟨_, rfl⟩
 obtain ⟨p3, hp3⟩ : ∃ b, b = up 1 n0 := ⟨_, rfl⟩
 simp only [cf_sprueref3_Same, XY, simprocAttr]
 rw [wC_seq]; simp only [XY, simprocAttr, hn0, c1, c2, c3, c4, d1, d2, d3, d4]
 rw [← hp2, ← hp3]
 obtain ⟨S0, hS0⟩ : ∃ S0, S0 = ((st.new fun t => .cells t [.int .i64 k, ofL n, nv, kv]).new fun t => .cells t [.int .i64 k, ofL n, mv, lv]) := ⟨_, rfl⟩
 have G0 : Gr st S0 := by rw [hS0]; exact (Gr.new hw (good_cells _)).nn (good_cells _)
 obtain ⟨t2, r2⟩ : ∃ t, S0.row p2 = .cells t [.int .i64 k, ofL n, nv, kv] := ⟨_, by rw [hS0, hp2]; simp only [XZ, simprocAttr, hn0]; rfl⟩
 obtain ⟨t3, r3⟩ : ∃ t, S0.row p3 = .cells t [.int .i64 k, ofL n, mv, lv] := ⟨_, by rw [hS0, hp3]; simp only [XZ, simprocAttr, hn0]; rfl⟩
 rw [← hS0]
 clear hS0
 rw [wC_seqj, wC_seq]; simp only [XY, simprocAttr, r2, r3, xl1, xl2, yl1, yl2]
 have x10 := x1.gr G0
 have y10 := y1.gr G0
 refine wC_cut (fun fr S => S = S0 ∧ fr 2 = .ptr p2 0 ∧ fr 3 = .ptr p3 0) ?_ ?_
 ·rw [wC_seq]; simp only [XY, simprocAttr]
  obtain ⟨L, hL⟩ : ∃ L : Nat → Fr → St → Prop, ∀ j fr S, L j fr S ↔ ∃ (i : Nat), j + i = ns.length ∧ fr 2 = .ptr p2 0 ∧ fr 3 = .ptr p3 0 ∧ fr 5 = .int .i64 i ∧ S = S0 := ⟨_, fun _ _ _ => Iff.rfl⟩
  refine wC_loop L ns.length (by omega) ((hL _ _ _).2 ⟨0, by omega, by simp only [XZ, simprocAttr], by simp only [XZ, simprocAttr], by simp only [XZ, simprocAttr] <;> rfl, rfl⟩) ?_
  intro j fr S hLj
  obtain ⟨i, hj, f2, f3, f5, rfl⟩ := (hL _ _ _).1 hLj
  by_cases hi : i < ns.length
  ·have hi' : (i : Int) < ns.length := by omega
   have hadd1 : IntKind.i64.wrap ((i : Int) + 1) = ((i + 1 : Nat) : Int) := by rw [i64_in (by omega) (by omega)]; rfl
   obtain ⟨r, q, a1, a2, a3, a4⟩ := nms_elem x10 hi
   obtain ⟨r', q', b1, b2, b3, b4⟩ := nms_elem y10 hi
   simp only [XZ, simprocAttr, f2, f3, f5, r2, r3, xl1, hi', a1, a4, b1, b4, hadd1, apartAll_nil]
   exact ⟨j - 1, by omega, (hL _ _ _).2 ⟨i + 1, by omega, by simp only [XZ, simprocAttr, f2], by simp only [XZ, simprocAttr, f3], by simp only [XZ, simprocAttr], rfl⟩⟩
  ·have hi' : ¬ (i : Int) < ns.length := by omega
   simp only [XZ, simprocAttr, f2, f3, f5, r2, r3, xl1, hi']
 rintro fr S ⟨rfl, f2, f3⟩
 refine wC_cut (fun fr S' => Gr S S') ?_ fun fr S' h => by simp only [XZ, simprocAttr]; exact G0.trans h
 rw [wC_seq]; simp only [XY, simprocAttr]
 obtain ⟨L, hL⟩ : ∃ L : Nat → Fr → St → Prop, ∀ j fr S', L j fr S' ↔ ∃ (i : Nat), j + i = ks.length ∧ fr 2 = .ptr p2 0 ∧ fr 3 = .ptr p3 0 ∧ fr 6 = .int .i64 i ∧ Gr S S' := ⟨_, fun _ _ _ => Iff.rfl⟩
 refine wC_loop L ks.length (by omega) ((hL _ _ _).2 ⟨0, by omega, by simp only [XZ, simprocAttr, f2], by simp only [XZ, simprocAttr, f3], by simp only [XZ, simprocAttr] <;> rfl, Gr.refl G0.wf⟩) ?_
 intro j fr S' hLj
 obtain ⟨i, hj, f2, f3, f6, g⟩ := (hL _ _ _).1 hLj
 have r2 := g.cells r2
 have r3 := g.cells r3
 by_cases hi : i < ks.length
 ·have hi' : (i : Int) < ks.length := by omega
  have hadd1 : IntKind.i64.wrap ((i : Int) + 1) = ((i + 1 : Nat) : Int) := by rw [i64_in (by omega) (by omega)]; rfl
  have hie : i < es.length := by omega
  have hif : i < fs.length := by omega
  obtain ⟨r, q, a1, a2, a3, a4, a5⟩ := ((x2.gr G0).gr g).elem hie
  obtain ⟨r', q', b1, b2, b3, b4, b5⟩ := ((y2.gr G0).gr g).elem hif
  rw [wC_seqj, wC_seq]; simp only [XY, simprocAttr, f2, f6, r2, xl2, hi']
  rw [wC_seqj]; simp only [XY, simprocAttr]
  rw [wC_seq]; simp only [XY, simprocAttr, f2, f3, f6, r2, r3, a1, a4, b1, b4]
  refine wCall_marked (ih ks[i] (by have := tsz_kid (k := k) (n := n) (ns := ns) hi; omega) (fitTs_get (by assumption) i hi) (wf_low g.wf _) (((x4 i hie hi).gr (G0.trans g)).low _) (((y4 i hif hi).gr (G0.trans g)).low _)) ?_
  rintro _ Se ge rfl
  simp only [XZ, simprocAttr, f6, hadd1, apartAll_nil]
  exact ⟨j - 1, by omega, (hL _ _ _).2 ⟨i + 1, by omega, by simp only [XZ, simprocAttr, f2], by simp only [XZ, simprocAttr, f3], by simp only [XZ, simprocAttr], g.trans ge⟩⟩
 ·have hi' : ¬ (i : Int) < ks.length := by omega
  simp only [XZ, simprocAttr, f2, f6, r2, xl2, hi']
  exact g
theorem TabX_low {W : Pt → Prop} {st : St} {rt : Pt} {tb : Tb} (h : TabX st W rt tb) (k : Nat) (hk : k ≤ st.t) : TabX { st with low := st.t } W rt tb := by
 obtain ⟨hw, F, h⟩ := h
 exact ⟨wf_low hw _, F, h.keep fun r _ _ => rfl⟩
set_option maxHeartbeats 4000000 in
theorem sigsL (st : St) (hw : WF st) (e1 : List V) (q1 : Rw) (h1 : RwC (fun _ => True) st e1 q1) (v2 : V) (ts : List Rw) (h2 : RwsAt (fun _ => True) st v2 ts) (v3 : V) (ss : List Rw) (h3 : RwsAt (fun _ => True) st v3 ss) (nm : List UInt8) (hl : nm.length ≤ maxLen) :
  Does (tabT tabD) n_spruelaw5_ConsSigs [.agg e1, v2, v3, ofL nm] st fun v' _ => v' = .bool true := by
 refine does_fn at_spruelaw5_ConsSigs rfl ?_
 obtain ⟨n0, hn0⟩ : ∃ n, st.nx = up 0 n := ⟨_, up0 _⟩
 have g1 := h1
 obtain ⟨nv1, kv1, es1, rfl, _, _, _, a1, a2, _, _, _⟩ := h1.inv
 have c1 := a1.cells
 have s1 := a1.sc
 have c2 := a2.cells
 have s2 := a2.sc
 obtain ⟨l2, s3, c3, m2⟩ := h2.len
 obtain ⟨l3, s4, c4, m3⟩ := h3.len
 obtain ⟨p3, hp3⟩ : ∃ b, b = up 0 n0 := ⟨_, rfl⟩
 simp only [cf_spruelaw5_ConsSigs, XY, simprocAttr]
 rw [wC_seq]; simp only [XY, simprocAttr, hn0, c1, s1, c2, s2]
 rw [← hp3]
 obtain ⟨S0, hS0⟩ : ∃ S0, S0 = (st.new fun t => .cells t [.int .i64 q1.kind, .int .i64 q1.n, nv1, kv1]) := ⟨_, rfl⟩
 have G0 : Gr st S0 := by rw [hS0]; exact Gr.new hw (good_cells _)
 obtain ⟨t0, r0⟩ : ∃ t, S0.row p3 = .cells t [.int .i64 q1.kind, .int .i64 q1.n, nv1, kv1] := ⟨_, by rw [hS0, hp3]; simp only [XZ, simprocAttr, hn0]; rfl⟩
 rw [← hS0]
 clear hS0
 rw [wC_seqj, wC_seq]; simp only [XY, simprocAttr]
 refine wCall_plain (known5 S0 G0.wf) ?_
 rintro _ S1 ⟨gk, rfl⟩
 have r1 := gk.cells r0
 have G1 := G0.trans gk
 simp only [XY, simprocAttr]
 rw [wC_seqj, wC_seq]; simp only [XY, simprocAttr, r1]
 refine wCall_plain (fewAllC G1.wf (g1.gr G1) (h2.gr G1) (h3.gr G1)) ?_
 rintro _ S2 ⟨G2, fb, rfl⟩
 cases fb with
 | false => simp only [XZ, simprocAttr]
 | true =>
 by_cases c50 : (50 : Int) < nm.length
 ·simp only [XZ, simprocAttr, lenS_ofL, c50]
 have r2 := G2.cells r1
 have G2 := G1.trans G2
 simp only [XY, simprocAttr, lenS_ofL, c50]
 rw [wC_seq]; simp only [XY, simprocAttr, r2]
 refine wCall_plain (goodC G2.wf (g1.gr G2) (h2.gr G2) (h3.gr G2)) ?_
 rintro _ S3 ⟨G3, e, rfl, hs⟩
 obtain ⟨sc, hsc⟩ : ∃ s, s = schemaS q1 ts ss := ⟨_, rfl⟩
 rw [← hsc] at hs ⊢
 have hs0 := hs
 obtain ⟨c, tv, sv, rfl, k1, k2, k3⟩ := hs
 obtain ⟨M, hM⟩ : ∃ M, M = sc.main := ⟨_, rfl⟩
 rw [← hM] at k1
 obtain ⟨mn, mk, xe, rfl, u1, u2, u3, u4⟩ := k1.inv
 have d1 := u1.cells
 have d2 := u1.sc
 have d3 := u2.cells
 have d4 := u2.sc
 have d5 := k2.sc
 have d6 := k3.sc
 have w3 := G3.wf
 obtain ⟨n3, hn3⟩ : ∃ n, S3.nx = up 0 n := ⟨_, up0 _⟩
 simp only [List.cons_append, List.nil_append] at hs0 ⊢
 obtain ⟨okb, hok⟩ : ∃ b, b = decide (refS sc = 0) := ⟨_, rfl⟩
 rw [← hok]
 simp only [XY, simprocAttr, hn3, d1, d2, d3, d4, d5.1, d5.2, d6.1, d6.2]
 obtain ⟨ps, hps⟩ : ∃ b, b = up 0 n3 := ⟨_, rfl⟩
 obtain ⟨S4, hS4⟩ : ∃ S4, S4 = ((S3.new fun t => .cells t [.int .i64 0, ofL [], .snil, .snil, .snil, .snil]).wr (up 0 n3) S3.t fun u => .cells u [.int .i64 M.kind, ofL M.name, mn, mk, tv, sv]) := ⟨_, rfl⟩
 have G4 : Gr S3 S4 := by rw [hS4]; exact (Gr.refl w3).nw hn3 (good_cells _) (good_cells _)
 obtain ⟨t4, r4⟩ : ∃ t, S4.row ps = .cells t [.int .i64 M.kind, ofL M.name, mn, mk, tv, sv] := ⟨_, by rw [hS4, hps]; simp only [XZ, simprocAttr, hn3]; rfl⟩
 rw [← hS4, ← hps]
 clear hS4
 have hs4 := hs0.imp (Q := fun _ => True) fun r p e => ⟨trivial, G4.same r e⟩
 rw [wC_seq]; simp only [XY, simprocAttr, r4]
 refine wCall_plain (newC G4.wf hs4) ?_
 rintro v S5 ⟨G5, hp⟩
 cases hnw : newS sc with
 | mk o er =>
 rw [hnw] at hp
 cases o with
 | none =>
   have hp : v = .tup [.pnil, .int .i64 er] := hp
   have he := new_none' hnw
   rw [hp]
   cases okb with
   | false => simp only [XZ, simprocAttr]
   | true => simp only [XZ, simprocAttr, he]
 | some tb =>
 obtain ⟨rfl, hO⟩ := new_of hnw
 obtain ⟨rt, W, rfl, T5, K5⟩ := hp
 simp only [XY, simprocAttr]
 cases okb with
 | false => simp only [XZ, simprocAttr]
 | true =>
 rw [wC_seqj, wC_seq]; simp only [XY, simprocAttr]
 have r5 := K5.row r4 fun h => h
 have hs5 := hs4.imp (Q := fun r => ¬ W r) (st' := S5) fun r p e => ⟨(K5 r e fun h => h).2, (K5 r e fun h => h).1⟩
 have hfew : tb.nodes.length ≤ 120 := by
  obtain ⟨_, _, _, _, _, _, _, _, hT⟩ := T5
  exact hT.few
 obtain ⟨fs, hfs⟩ : ∃ l, l = sc.sigs := ⟨_, rfl⟩
 rw [← hfs] at k3
 obtain ⟨C1, C2, C3, C4, C5, C6⟩ := checkS_ok hO.chk
 have hlen12 : fs.length ≤ 12 := by rw [hfs]; exact C2
 have keep5 : ∀ r, S3.row r ≠ .none → ¬ W r ∧ S5.row r = S3.row r := fun r e => by
  have e4 : S4.row r ≠ .none := by rw [G4.same r e]; exact e
  obtain ⟨a, b⟩ := K5 r e4 fun h => h
  exact ⟨b, by rw [a, G4.same r e]⟩
 have k5 : LstAt (SgC (fun _ => True) S5) (fun _ => True) S5 sv 6 fs := k3.imp (fun e x h => h.imp fun r _ e => ⟨trivial, (keep5 r e).2⟩) fun r _ e => ⟨trivial, (keep5 r e).2⟩
 have llen := k3.len
 refine wC_cut (fun fr S => fr 3 = ofL nm ∧ fr 11 = .ptr rt 0 ∧ Gr S5 S ∧ nm ∉ sc.sigs.map Sg.name) ?_ ?_
 rotate_left
 ·rintro fr S ⟨f3, f11, G, hnm⟩
  rw [wC_seq]; simp only [XY, simprocAttr, f3, f11]
  refine wCall_plain (sigN nm (T5.gr G) (hO.nosig nm hnm)) ?_
  rintro _ _ ⟨rfl, rfl⟩
  have hl0 : lenLV .snil = some (.int .i64 0, .no) := rfl
  simp only [XZ, simprocAttr, hl0]
 rw [wC_seq]; simp only [XY, simprocAttr]
 obtain ⟨L, hL⟩ : ∃ L : Nat → Fr → St → Prop, ∀ j fr S, L j fr S ↔ ∃ (i : Nat), j + i = fs.length ∧ fr 3 = ofL nm ∧ fr 9 = .ptr ps 0 ∧ fr 11 = .ptr rt 0 ∧ fr 13 = .int .i64 i ∧ Gr S5 S ∧ ∀ k (h : k < fs.length), k < i → fs[k].name ≠ nm := ⟨_, fun _ _ _ => Iff.rfl⟩
 refine wC_loop L fs.length (by omega) ((hL _ _ _).2 ⟨0, by omega, by simp only [XZ, simprocAttr], by simp only [XZ, simprocAttr], by simp only [XZ, simprocAttr], by simp only [XZ, simprocAttr] <;> rfl, Gr.refl T5.1, fun k _ h => absurd h (by omega)⟩) ?_
 intro j fr S hLj
 obtain ⟨i, hj, f3, f9, f11, f13, G, hnot⟩ := (hL _ _ _).1 hLj
 have rS := G.cells r5
 by_cases hi : i < fs.length
 rotate_left
 ·have hi' : ¬ (i : Int) < fs.length := by omega
  simp only [XZ, simprocAttr, f9, f13, rS, llen, hi']
  refine ⟨f3, f11, G, fun hm => ?_⟩
  obtain ⟨f, hf, e⟩ := List.mem_map.1 hm
  rw [← hfs] at hf
  obtain ⟨k, hk, e2⟩ := List.getElem_of_mem hf
  exact hnot k hk (by omega) (by rw [e2]; exact e)
 have hi' : (i : Int) < fs.length := by omega
 have hadd1 : IntKind.i64.wrap ((i : Int) + 1) = ((i + 1 : Nat) : Int) := by rw [i64_in (by omega) (by omega)]; rfl
 have T := T5.gr G
 have kS : LstAt (SgC (fun _ => True) S) (fun _ => True) S sv 6 fs := k5.imp (fun e x h => h.imp fun r _ e => ⟨trivial, G.same r e⟩) fun r _ e => ⟨trivial, G.same r e⟩
 obtain ⟨r, q, e, a1, a2, a3, a4, ⟨pv, c, he, hp, hc⟩, a6, a7⟩ := kS.elem hi
 have hmem : fs[i] ∈ sc.sigs := by rw [← hfs]; exact List.getElem_mem hi
 obtain ⟨f, hf⟩ : ∃ f, f = fs[i] := ⟨_, rfl⟩
 rw [← hf] at he hp hc hmem
 obtain ⟨ids, hs1, hs2⟩ := hO.sigs f hmem
 obtain ⟨hil, hig⟩ := looks_get hs2
 rw [List.length_append] at hil
 have hp4 : f.params.length ≤ 4 := C6 f hmem
 have hil : ids.length = f.params.length + 1 := hil
 have hpl := (tys_lst.1 hp).len
 have hres : lookT tb.nodes f.result = some (ids[f.params.length]'(by omega)) := by
  have := hig f.params.length (by simp) (by omega)
  rw [List.getElem_append_right (Nat.le_refl _)] at this
  simpa using this
 have hpar : ∀ k (h : k < f.params.length), lookT tb.nodes f.params[k] = some (ids[k]'(by omega)) := fun k h => by
  have := hig k (by simp; omega) (by omega)
  rw [List.getElem_append_left h] at this
  exact this
 have hc0 := hc
 obtain ⟨ynv, ykv, yes, rfl, y1, y2, y3, y4⟩ := hc.inv
 subst he
 have b0 : ld1 (S.row r) q = some (ofL f.name, .no) := a7 0 (by simp)
 have b1 : ld1 (S.row r) (q + 1) = some (pv, .no) := a7 1 (by simp)
 have b2 : ldn (S.row r) (q + 2) 4 = some (.agg [.int .i64 f.result.kind, ofL f.result.name, ynv, ykv], .no) := ldn_drop (a := 2) (b := 4) a4
 rw [wC_seqj, wC_seq]; simp only [XY, simprocAttr, f9, f13, rS, llen, hi']
 rw [wC_seqj]; simp only [XY, simprocAttr]
 rw [wC_seq]; simp only [XY, simprocAttr, f9, f11, f13, rS, a1, b0]
 refine wCall_plain (sigX f.name T hs1 hil (by omega)) ?_
 rintro _ Sa ⟨ga, pp, rfl, hpp⟩
 have Ta := T.gr ga
 have rSa := ga.cells rS
 have plen := hpp.len
 rw [ints_len, List.length_take, Nat.min_eq_left (by omega)] at plen
 have b0a := b0
 have b1a := b1
 have b2a := b2
 rw [← ga.same r a3] at b0a b1a b2a
 simp only [XY, simprocAttr]
 rw [wC_seqj, wC_seq]; simp only [XY, simprocAttr, f9, f11, f13, rSa, plen, a1, b1a, hpl]
 refine wCall_marked (typeC _ f.result (Nat.lt_succ_self _) (TabX_low Ta 0 (Nat.zero_le _)) hres) ?_
 rintro _ Sb gb ⟨y, rfl, hy⟩
 have rSb := gb.cells rSa
 have gab := ga.trans gb
 have b0b := b0
 have b1b := b1
 have b2b := b2
 rw [← gab.same r a3] at b0b b1b b2b
 simp only [XY, simprocAttr, f9, f13, rSb, a1, b2b]
 refine wCall_marked (sameC _ f.result (Nat.lt_succ_self _) (hO.able_of hres).fit (wf_low gb.wf _) (hy.low _) ((hc0.gr gab).low _)) ?_
 rintro _ Sc gc rfl
 have gac := gab.trans gc
 simp only [XY, simprocAttr]
 refine wC_cut (fun fr S' => fr 3 = ofL nm ∧ fr 9 = .ptr ps 0 ∧ fr 11 = .ptr rt 0 ∧ fr 13 = .int .i64 i ∧ Gr Sc S') ?_ ?_
 rotate_left
 ·rintro fr Sd ⟨f3, f9, f11, f13, gd⟩
  have gad := gac.trans gd
  have rSd := gad.cells rS
  rw [← gad.same r a3] at b0
  by_cases hnm : f.name = nm
  ·simp only [XZ, simprocAttr, f3, f9, f13, rSd, a1, b0, hnm]
  ·simp only [XZ, simprocAttr, f3, f9, f13, rSd, a1, b0, hnm, hadd1]
   exact ⟨j - 1, by omega, (hL _ _ _).2 ⟨i + 1, by omega, by simp only [XZ, simprocAttr, f3], by simp only [XZ, simprocAttr, f9], by simp only [XZ, simprocAttr, f11], by simp only [XZ, simprocAttr], G.trans gad, fun k hk hlt => by
    by_cases e : k = i
    ·subst e; rw [← hf]; exact hnm
    ·exact hnot k hk (by omega)⟩⟩
 rw [wC_seq]; simp only [XY, simprocAttr]
 obtain ⟨L2, hL2⟩ : ∃ L : Nat → Fr → St → Prop, ∀ j fr S', L j fr S' ↔ ∃ (k : Nat), j + k = f.params.length ∧ fr 3 = ofL nm ∧ fr 9 = .ptr ps 0 ∧ fr 11 = .ptr rt 0 ∧ fr 13 = .int .i64 i ∧ fr 14 = pp ∧ fr 17 = .int .i64 k ∧ Gr Sc S' := ⟨_, fun _ _ _ => Iff.rfl⟩
 refine wC_loop L2 f.params.length (by omega) ((hL2 _ _ _).2 ⟨0, by omega, by simp only [XZ, simprocAttr, f3], by simp only [XZ, simprocAttr, f9], by simp only [XZ, simprocAttr, f11], by simp only [XZ, simprocAttr, f13], by simp only [XZ, simprocAttr], by simp only [XZ, simprocAttr] <;> rfl, Gr.refl gac.wf⟩) ?_
 intro j2 fr Sd hLj
 obtain ⟨k, hj2, f3, f9, f11, f13, f14, f17, gd⟩ := (hL2 _ _ _).1 hLj
 have gad := gac.trans gd
 have rSd := gad.cells rS
 by_cases hk : k < f.params.length
 rotate_left
 ·have hk' : ¬ (k : Int) < f.params.length := by omega
  simp only [XZ, simprocAttr, f14, f17, plen, hk']
  exact ⟨f3, f9, f11, f13, gd⟩
 have hk' : (k : Int) < f.params.length := by omega
 have hadd2 : IntKind.i64.wrap ((k : Int) + 1) = ((k + 1 : Nat) : Int) := by rw [i64_in (by omega) (by omega)]; rfl
 obtain ⟨r2, q2, o1, o2, o3, o4⟩ := SlAt.one (xs := (ids.take f.params.length).map fun n : Nat => V.int .i64 (n : Int)) (i := k) ((hpp.gr (gb.trans gc)).gr gd) (by simp; omega)
 simp only [List.getElem_map, List.getElem_take] at o4
 obtain ⟨es, z1, z2, z3⟩ := hp
 have b1d := b1
 rw [← gad.same r a3] at b1d
 rw [wC_seqj, wC_seq]; simp only [XY, simprocAttr, f14, f17, plen, hk']
 rw [wC_seqj]; simp only [XY, simprocAttr]
 rw [wC_seq]; simp only [XY, simprocAttr, f11, f14, f17, o1, o4]
 refine wCall_marked (typeC _ f.params[k] (Nat.lt_succ_self _) (TabX_low (T.gr gad) 0 (Nat.zero_le _)) (hpar k hk)) ?_
 rintro _ Se ge ⟨x, rfl, hx⟩
 have gae := gad.trans ge
 have rSe := gae.cells rS
 rw [← gae.same r a3] at b1
 obtain ⟨r3, q3, w1, w2, w3, w4, w5⟩ := (z1.gr gae).elem (i := k) (by omega)
 simp only [XY, simprocAttr, f9, f13, f17, rSe, a1, b1, w1, w4]
 refine wCall_marked (sameC _ f.params[k] (Nat.lt_succ_self _) (hO.able_of (hpar k hk)).fit (wf_low ge.wf _) (hx.low _) (((z3 k (by omega) hk).gr gae).low _)) ?_
 rintro _ Sf gf rfl
 simp only [XZ, simprocAttr, f17, hadd2, apartAll_nil]
 exact ⟨j2 - 1, by omega, (hL2 _ _ _).2 ⟨k + 1, by omega, by simp only [XZ, simprocAttr, f3], by simp only [XZ, simprocAttr, f9], by simp only [XZ, simprocAttr, f11], by simp only [XZ, simprocAttr, f13], by simp only [XZ, simprocAttr, f14], by simp only [XZ, simprocAttr], gd.trans (ge.trans gf)⟩⟩
end Go.Proofs.Ytbjfmnjnonnmeaa
