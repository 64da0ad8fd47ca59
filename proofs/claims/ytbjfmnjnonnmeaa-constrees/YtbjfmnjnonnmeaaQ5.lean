/- A schema that raw trees make, and whether the document takes it. A number's type as a tree. 'ConsTrees': what it answers. No condition. -/
import Derived.Test.YtbjfmnjnonnmeaaQ4
set_option linter.unusedVariables false
set_option linter.unusedSimpArgs false
namespace Go.Proofs.Ytbjfmnjnonnmeaa
open Eva Go.RowKit
set_option maxRecDepth 100000
set_option linter.unusedSimpArgs false
set_option linter.unusedVariables false
set_option maxHeartbeats 4000000 in
theorem goodC {P : Pt → Prop} {st : St} {e1 : List V} {q1 : Rw} {v2 v3 : V} {ts ss : List Rw} (hw : WF st) (h1 : RwC P st e1 q1) (h2 : RwsAt P st v2 ts) (h3 : RwsAt P st v3 ss) :
  Does (tabT tabD) n_spruelaw4_Good [.agg e1, v2, v3] st fun v S => Gr st S ∧ ∃ e, v = .tup [.agg e, .bool (decide (refS (schemaS q1 ts ss) = 0))] ∧ SchC (fun r => st.row r = .none) S e (schemaS q1 ts ss) := by
 refine does_fn at_spruelaw4_Good rfl ?_
 obtain ⟨n0, hn0⟩ : ∃ n, st.nx = up 0 n := ⟨_, up0 _⟩
 have g1 := h1
 obtain ⟨nv1, kv1, es1, rfl, _, _, _, a1, a2, _, _, _⟩ := h1.inv
 have c1 := a1.cells
 have s1 := a1.sc
 have c2 := a2.cells
 have s2 := a2.sc
 obtain ⟨l2, s3, c3, m2⟩ := h2.len
 obtain ⟨l3, s4, c4, m3⟩ := h3.len
 obtain ⟨b3, hb3⟩ : ∃ b, b = up 0 n0 := ⟨_, rfl⟩
 obtain ⟨b6, hb6⟩ : ∃ b, b = up 1 n0 := ⟨_, rfl⟩
 have n6 : st.row b6 = .none := by rw [hb6]; exact nx0 hw hn0 1
 simp only [cf_spruelaw4_Good, XY, simprocAttr]
 rw [wC_seq]; simp only [XY, simprocAttr, hn0, c1, s1, c2, s2]
 rw [← hb3, ← hb6]
 obtain ⟨S0, hS0⟩ : ∃ S0, S0 = ((st.new fun t => .cells t [.int .i64 q1.kind, .int .i64 q1.n, nv1, kv1]).new fun t => .cells t [.int .i64 0, ofL [], .snil, .snil, .snil, .snil]) := ⟨_, rfl⟩
 have g0 : Gr st S0 := by rw [hS0]; exact (Gr.new hw (good_cells _)).nn (good_cells _)
 obtain ⟨t3, r3⟩ : ∃ t, S0.row b3 = .cells t [.int .i64 q1.kind, .int .i64 q1.n, nv1, kv1] := ⟨_, by rw [hS0, hb3]; simp only [XZ, simprocAttr, hn0]; rfl⟩
 obtain ⟨t6, r6⟩ : ∃ t, S0.row b6 = .cells t [.int .i64 0, ofL [], .snil, .snil, .snil, .snil] := ⟨_, by rw [hS0, hb6]; simp only [XZ, simprocAttr, hn0]; rfl⟩
 rw [← hS0]
 clear hS0
 rw [wC_seq]; simp only [XY, simprocAttr, r3]
 refine wCall_plain (schemaC g0.wf (g1.gr g0) (h2.gr g0) (h3.gr g0)) ?_
 rintro _ S1 ⟨gs, e, rfl, hs⟩
 obtain ⟨sc, hsc⟩ : ∃ s, s = schemaS q1 ts ss := ⟨_, rfl⟩
 rw [← hsc] at hs ⊢
 have hs0 := hs
 obtain ⟨c, tv, sv, rfl, k1, k2, k3⟩ := hs
 obtain ⟨M, hM⟩ : ∃ M, M = sc.main := ⟨_, rfl⟩
 rw [← hM] at k1
 obtain ⟨mn, mk, xe, rfl, u1, u2, u3, u4⟩ := k1.inv
 have d1 := u1.cells
 have d2 := u1.sc
 have d3 := u2.cells
 have d4 := u2.sc
 have d5 := k2.sc
 have d6 := k3.sc
 have w1 := gs.wf
 obtain ⟨n1, hn1⟩ : ∃ n, S1.nx = up 0 n := ⟨_, up0 _⟩
 simp only [List.cons_append, List.nil_append] at hs0 ⊢
 simp only [XY, simprocAttr, hn1, d1, d2, d3, d4, d5.1, d5.2, d6.1, d6.2]
 obtain ⟨b8, hb8⟩ : ∃ b, b = up 0 n1 := ⟨_, rfl⟩
 obtain ⟨S2, hS2⟩ : ∃ S2, S2 = ((S1.new fun t => .cells t [.int .i64 0, ofL [], .snil, .snil, .snil, .snil]).wr (up 0 n1) S1.t fun u => .cells u [.int .i64 M.kind, ofL M.name, mn, mk, tv, sv]) := ⟨_, rfl⟩
 have g2 : Gr S1 S2 := by rw [hS2]; exact (Gr.refl w1).nw hn1 (good_cells _) (good_cells _)
 obtain ⟨t8, r8⟩ : ∃ t, S2.row b8 = .cells t [.int .i64 M.kind, ofL M.name, mn, mk, tv, sv] := ⟨_, by rw [hS2, hb8]; simp only [XZ, simprocAttr, hn1]; rfl⟩
 rw [← hS2, ← hb8]
 clear hS2
 have hs2 := hs0.imp fun r p e => ⟨p, g2.same r e⟩
 rw [wC_seq]; simp only [XY, simprocAttr, r8]
 refine wCall_marked (rcheckC (wf_low g2.wf S2.t) (hs2.low S2.t)) ?_
 rintro _ S3 g3 rfl
 have gg := (g0.trans gs).trans (g2.trans g3)
 have r60' := r6
 have r6 := ((gs.trans g2).trans g3).cells r6
 obtain ⟨R, hR⟩ : ∃ R, R = refS sc := ⟨_, rfl⟩
 rw [← hR]
 have fin : Gr st (S3.wr b6 t6 fun u => .cells u [.int .i64 M.kind, ofL M.name, mn, mk, tv, sv]) ∧ SchC (fun r => st.row r = .none) (S3.wr b6 t6 fun u => .cells u [.int .i64 M.kind, ofL M.name, mn, mk, tv, sv]) [.int .i64 M.kind, ofL M.name, mn, mk, tv, sv] sc := by
  refine ⟨gg.wr n6 (ne_cells r6) (by rw [r6]; rfl) (good_cells _), ?_⟩
  have r60 : S0.row b6 ≠ .none := fun e => by
   have := (gs.trans g2).trans g3
   exact (ne_cells r60') e
  exact hs0.imp fun r p e => ⟨Ch.fresh (Ch.of (fun _ => False) g0) p, by rw [row_wr_ne _ _ _ fun k => r60 (by rw [← k]; exact p), g3.same r (by rw [g2.same r e]; exact e), g2.same r e]⟩
 by_cases h0 : R = 0
 ·simp only [XZ, simprocAttr, h0, r6, d1, d2, d3, d4, d5.1, d5.2, d6.1, d6.2, apartAll_nil]
  exact ⟨fin.1, _, rfl, fin.2⟩
 ·simp only [XZ, simprocAttr, h0, r6, d1, d2, d3, d4, d5.1, d5.2, d6.1, d6.2, apartAll_nil]
  exact ⟨fin.1, _, rfl, fin.2⟩
end Go.Proofs.Ytbjfmnjnonnmeaa
namespace Go.Proofs.Ytbjfmnjnonnmeaa
open Eva Go.RowKit
set_option maxRecDepth 100000
set_option linter.unusedSimpArgs false
set_option linter.unusedVariables false
theorem looks_get {nodes : List Nd} : ∀ {ts : List Ty} {ids : List Nat}, looksT nodes ts = some ids → ids.length = ts.length ∧ ∀ i (h : i < ts.length) (h' : i < ids.length), lookT nodes ts[i] = some ids[i]
 | [], ids, h => by
   rw [looksT] at h
   injection h with h
   subst h
   exact ⟨rfl, fun i h => absurd h (by simp)⟩
 | t :: r, ids, h => by
   rw [looksT] at h
   cases c : lookT nodes t with
   | none => rw [c] at h; cases h
   | some a =>
     cases c2 : looksT nodes r with
     | none => rw [c, c2] at h; cases h
     | some l =>
       rw [c, c2] at h
       injection h with h
       subst h
       obtain ⟨i1, i2⟩ := looks_get c2
       refine ⟨by simp [i1], fun i h1 h2 => ?_⟩
       cases i with
       | zero => exact c
       | succ i => exact i2 i (by simpa using h1) (by simpa using h2)
set_option maxHeartbeats 4000000 in
theorem typeC (m : Nat) : ∀ (X : Ty), tsz X < m → ∀ {st : St} {W : Pt → Prop} {rt : Pt} {tb : Tb} {id : Nat}, TabX st W rt tb → lookT tb.nodes X = some id →
  Does (tabT tabD) n_cons_Table_Type [.ptr rt 0, .int .i64 id] st fun v S => Gr st S ∧ ∃ e, v = .agg e ∧ TyC (fun r => st.row r = .none) S e X := by
 induction m with
 | zero => intro X h; exact absurd h (Nat.not_lt_zero _)
 | succ m ih =>
 intro X hX st W rt tb id hT hl
 obtain ⟨k, n, ns, ks⟩ := X
 obtain ⟨ids, hnd, hks⟩ := look_node hl
 have hnd : tb.nodes[id]? = some ⟨k, n, ns, ids⟩ := hnd
 have hks : looksT tb.nodes ks = some ids := hks
 obtain ⟨hlen, hkid⟩ := looks_get hks
 have hi := (List.getElem?_eq_some_iff.1 hnd).1
 have hne : tb.nodes[id] = ⟨k, n, ns, ids⟩ := (List.getElem?_eq_some_iff.1 hnd).2
 have hTX := hT
 obtain ⟨hw, F, hT⟩ := hT
 have hfit : ids.length ≤ 8 := by
  obtain ⟨lv, ra, rn, rs, es, sv, h⟩ := hT
  have := (h.fit _ (List.getElem_mem hi)).2
  rw [hne] at this
  exact this
 refine does_fn at_cons_Table_Type rfl ?_
 obtain ⟨n0, hn0⟩ : ∃ n, st.nx = up 0 n := ⟨_, up0 _⟩
 obtain ⟨b4, hb4⟩ : ∃ b, b = up 0 n0 := ⟨_, rfl⟩
 have e4 : st.row b4 = .none := by rw [hb4]; exact nx0 hw hn0 0
 simp only [cf_cons_Table_Type, XY, simprocAttr]
 rw [wC_seq]; simp only [XY, simprocAttr, hn0]
 rw [← hb4]
 obtain ⟨S0, hS0⟩ : ∃ S0, S0 = (st.new fun t => .cells t [.int .i64 0, ofL [], .snil, .snil]) := ⟨_, rfl⟩
 have g0 : Gr st S0 := by rw [hS0]; exact Gr.new hw (good_cells _)
 obtain ⟨t4, r4⟩ : ∃ t, S0.row b4 = .cells t [.int .i64 0, ofL [], .snil, .snil] := ⟨_, by rw [hS0, hb4]; simp only [XZ, simprocAttr, hn0]; rfl⟩
 rw [← hS0]
 clear hS0
 rw [wC_seq]; simp only [XY, simprocAttr]
 refine wCall_plain (nodeC (Q := fun r => S0.row r = .none) g0.wf (hT.gr g0) hi fun _ h => h) ?_
 rintro _ S1 ⟨g1, e, rfl, nv, kv, rfl, h1, h2⟩
 rw [hne] at h1 h2 ⊢
 have c1 := h1.cells
 have s1 := h1.sc
 have c2 := h2.cells
 have s2 := h2.sc
 have w1 := g1.wf
 obtain ⟨n1, hn1⟩ : ∃ n, S1.nx = up 0 n := ⟨_, up0 _⟩
 simp only [XY, simprocAttr, hn1, c1, c2, s1, s2]
 obtain ⟨S2, hS2⟩ : ∃ S2, S2 = ((S1.new fun t => .cells t [.int .i64 0, ofL [], .snil, .snil]).wr (up 0 n1) S1.t fun u => .cells u [.int .i64 k, ofL n, nv, kv]) := ⟨_, rfl⟩
 have g2 : Gr S1 S2 := by rw [hS2]; exact (Gr.refl w1).nw hn1 (good_cells _) (good_cells _)
 obtain ⟨t5, r5⟩ : ∃ t, S2.row (up 0 n1) = .cells t [.int .i64 k, ofL n, nv, kv] := ⟨_, by rw [hS2]; simp only [XZ, simprocAttr, hn1]; rfl⟩
 rw [← hS2]
 clear hS2
 rw [wC_seqj, wC_seq]; simp only [XY, simprocAttr]
 have w2 := g2.wf
 obtain ⟨n2, hn2⟩ : ∃ n, S2.nx = up 0 n := ⟨_, up0 _⟩
 have o5 := fun k => nes (ne_up w2 hn2 (ne_cells r5) k)
 rw [wC_seq]; simp only [XY, simprocAttr, r5, hn2, c1, c2, s1, s2, o5]
 obtain ⟨b7, hb7⟩ : ∃ b, b = up 0 n2 := ⟨_, rfl⟩
 obtain ⟨S3, hS3⟩ : ∃ S3, S3 = ((S2.new fun t => .cells t [.int .i64 0, ofL [], .snil, .snil]).wr (up 0 n2) S2.t fun u => .cells u [.int .i64 k, ofL n, nv, .snil]) := ⟨_, rfl⟩
 have g3 : Gr S2 S3 := by rw [hS3]; exact (Gr.refl w2).nw hn2 (good_cells _) (good_cells _)
 obtain ⟨t7, r7⟩ : ∃ t, S3.row b7 = .cells t [.int .i64 k, ofL n, nv, .snil] := ⟨_, by rw [hS3, hb7]; simp only [XZ, simprocAttr, hn2]; rfl⟩
 have e72 : S2.row b7 = .none := by rw [hb7]; exact nx0 w2 hn2 0
 rw [← hS3, ← hb7]
 clear hS3
 have g03 := (g1.trans g2).trans g3
 have gs3 := g0.trans g03
 have e7 : st.row b7 = .none := Ch.fresh (Ch.of (fun _ => False) ((g0.trans g1).trans g2)) e72
 have r5 := g3.cells r5
 have r43 := g03.cells r4
 have ne47 : b4 ≠ b7 := fun e => by
  have := (g1.trans g2).cells r4
  rw [e, e72] at this; cases this
 obtain ⟨B, hB⟩ : ∃ B : Pt → Prop, ∀ r, B r ↔ (st.row r ≠ .none ∨ r = b4 ∨ r = b7) := ⟨_, fun _ => Iff.rfl⟩
 have B4 : B b4 := (hB _).2 (.inr (.inl rfl))
 have B7 : B b7 := (hB _).2 (.inr (.inr rfl))
 have B3 : ∀ r, B r → S3.row r ≠ .none := fun r h => by
  rcases (hB _).1 h with h | h | h
  ·rw [gs3.same r h]; exact h
  ·rw [h]; exact ne_cells r43
  ·rw [h]; exact ne_cells r7
 have fresh : ∀ r, S0.row r = .none → S1.row r ≠ .none → ¬ B r := fun r h a b => by
  rcases (hB _).1 b with b | b | b
  ·exact b (Ch.fresh (Ch.of (fun _ => False) g0) h)
  ·rw [b] at h; rw [r4] at h; cases h
  ·rw [b] at a; exact a (Ch.fresh (Ch.of (fun _ => False) g2) e72)
 have keepS : ∀ {S : St}, (∀ r, S3.row r ≠ .none → ¬ B r → S.row r = S3.row r) → ∀ r, S0.row r = .none → S1.row r ≠ .none → (st.row r = .none) ∧ S.row r = S1.row r := fun kk r h a => by
  have x := (g2.trans g3).same r a
  exact ⟨Ch.fresh (Ch.of (fun _ => False) g0) h, by rw [kk r (by rw [x]; exact a) (fresh r h a), x]⟩
 obtain ⟨J, hJ⟩ : ∃ J : Fr → St → Prop, ∀ fr S, J fr S ↔ (∃ kv' t, fr 4 = .ptr b4 0 ∧ fr 7 = .ptr b7 0 ∧ LsF TyC st S3 B 4 S kv' ks ∧ S.row b7 = .cells t [.int .i64 k, ofL n, nv, kv'] ∧ S.row b4 = .cells t4 [.int .i64 0, ofL [], .snil, .snil]) := ⟨_, fun _ _ => Iff.rfl⟩
 have len2 := h2.len
 rw [ints_len] at len2
 refine wC_cut J ?_ ?_
 ·rw [wC_seq]; simp only [XY, simprocAttr, r5, len2]
  obtain ⟨L, hL⟩ : ∃ L : Nat → Fr → St → Prop, ∀ j fr S, L j fr S ↔ ∃ (i : Nat) (kv' : V) (t : Nat), j + i = ks.length ∧ fr 0 = .ptr rt 0 ∧ fr 4 = .ptr b4 0 ∧ fr 7 = .ptr b7 0 ∧ fr 27 = kv ∧ fr 28 = .int .i64 ids.length ∧ fr 29 = .int .i64 i ∧ LsF TyC st S3 B 4 S kv' (ks.take i) ∧ S.row b7 = .cells t [.int .i64 k, ofL n, nv, kv'] ∧ S.row b4 = .cells t4 [.int .i64 0, ofL [], .snil, .snil] := ⟨_, fun _ _ _ => Iff.rfl⟩
  refine wC_loop L ks.length (by omega) ((hL _ _ _).2 ⟨0, .snil, t7, by omega, by simp only [XZ, simprocAttr], by simp only [XZ, simprocAttr], by simp only [XZ, simprocAttr], by simp only [XZ, simprocAttr], by simp only [XZ, simprocAttr], by simp only [XZ, simprocAttr] <;> rfl, LsF.nil gs3, r7, r43⟩) ?_
  intro j fr S hLj
  obtain ⟨i, kv', t, hj, f0, f4, f7, f27, f28, f29, hF, r7, r4⟩ := (hL _ _ _).1 hLj
  by_cases hi : i < ks.length
  ·have hi' : (i : Int) < ids.length := by omega
   have hii : i < ids.length := by omega
   have hadd1 : IntKind.i64.wrap ((i : Int) + 1) = ((i + 1 : Nat) : Int) := by rw [i64_in (by omega) (by omega)]; rfl
   have h2S : SlAt (fun r => st.row r = .none) S kv 1 (ints ids) := h2.imp (keepS hF.keep)
   obtain ⟨ra, oa, o1, o2, o3, o4⟩ : ∃ r o, iaddrSV 1 kv (.int .i64 i) = some (.ptr r o, .no) ∧ True ∧ True ∧ ld1 (S.row r) o = some (.int .i64 (ids[i] : Nat), .no) := by
    obtain ⟨q, o, a1, a2, a3, a4, a5⟩ := h2S.elem (i := i) (by rw [ints_len]; omega)
    have e : (ints ids)[i]'(by rw [ints_len]; omega) = [.int .i64 (ids[i] : Nat)] := by simp [ints]
    have := a5 0 (by rw [e]; simp)
    simp only [e] at this
    exact ⟨q, o, a1, trivial, trivial, this⟩
   have hlk := hkid i hi hii
   rw [wC_seq]; simp only [XY, simprocAttr, f28, f29, hi']
   rw [wC_seqj]; simp only [XY, simprocAttr]
   rw [wC_seqj]; simp only [XY, simprocAttr]
   rw [wC_seq]; simp only [XY, simprocAttr, f27, f29, o1, o4]
   simp only [XY, simprocAttr, f0, f7, r7]
   refine wCall_marked (ih ks[i] (by have := tsz_kid (k := k) (n := n) (ns := ns) hi; omega) (st := { S with low := S.t }) (W := W) ⟨wf_low hF.g.wf _, F, (hT.gr hF.g).keep fun r _ _ => rfl⟩ hlk) ?_
   rintro _ Se ge ⟨y, rfl, hy⟩
   obtain ⟨Y, hY⟩ : ∃ Y, Y = ks[i] := ⟨_, rfl⟩
   rw [← hY] at hy
   have hy0 := hy
   obtain ⟨yn, yk, ye, rfl, z1, z2, z3, z4⟩ := hy.inv
   have q1 := z1.cells
   have q2 := z1.sc
   have q3 := z2.cells
   have q4 := z2.sc
   have we := ge.wf
   obtain ⟨ne, hne'⟩ : ∃ n, Se.nx = up 0 n := ⟨_, up0 _⟩
   have Fe := hF.gr (C := TyC) TyC.imp ge
   have re := ge.cells r7
   have re4 := ge.cells r4
   simp only [XY, simprocAttr, hne', q1, q2, q3, q4]
   have gn : Gr Se (Se.new fun t => .cells t [.int .i64 Y.kind, ofL Y.name, yn, yk]) := Gr.new we (good_cells _)
   have Fg := Fe.gr (C := TyC) TyC.imp gn
   have hone := one_at (st := Se) (z := 4) (e := [.int .i64 Y.kind, ofL Y.name, yn, yk]) rfl
   rw [hne'] at hone
   refine wW_appL (C := TyC) TyC.imp Fg hone (by simp only [allSc, List.all_cons, List.all_nil, q2, q4]; rfl) (hy0.imp fun r p e => ⟨⟨fun b => hF.live r (B3 r b) p, fun e => hF.alive e p⟩, gn.same r e⟩) B3 (by rw [List.length_take]; omega) fun Sf vf Ff kp => ?_
   rw [hY, ← List.take_succ_eq_append_getElem hi] at Ff
   have d5 := Ff.sc
   have rg := gn.cells re
   have rg4 := gn.cells re4
   have rf := (kp b7 (ne_cells rg) fun e => B3 b7 B7 (hF.own _ e)).trans rg
   have rf4 := (kp b4 (ne_cells rg4) fun e => B3 b4 B4 (hF.own _ e)).trans rg4
   simp only [XZ, simprocAttr, f7, f29, rf, hadd1, apartAll_nil, d5.1, d5.2]
   exact ⟨j - 1, by omega, (hL _ _ _).2 ⟨i + 1, vf, _, by omega, by simp only [XZ, simprocAttr, f0], by simp only [XZ, simprocAttr, f4], by simp only [XZ, simprocAttr, f7], by simp only [XZ, simprocAttr, f27], by simp only [XZ, simprocAttr, f28], by simp only [XZ, simprocAttr], Ff.wr (C := TyC) TyC.imp B7 e7 (B3 _ B7) rf, row_wr_same _ _ _ _, (row_wr_ne _ _ _ ne47).trans rf4⟩⟩
  ·have hi' : ¬ (i : Int) < ids.length := by omega
   simp only [XZ, simprocAttr, f28, f29, hi']
   rw [List.take_of_length_le (by omega)] at hF
   exact (hJ _ _).2 ⟨kv', t, by simp only [XZ, simprocAttr, f4], by simp only [XZ, simprocAttr, f7], hF, r7, r4⟩
 intro fr S hJf
 obtain ⟨kv', t, f4, f7, hF, r7, r4⟩ := (hJ _ _).1 hJf
 have d5 := hF.sc
 simp only [XZ, simprocAttr, f4, f7, r7, r4, c1, s1, d5.1, d5.2]
 have FE := hF.wr (C := TyC) TyC.imp (c' := [.int .i64 k, ofL n, nv, kv']) B4 e4 (B3 _ B4) r4
 have hst : ∀ r, ¬ B r → st.row r = .none := fun r n => Classical.byContradiction fun e => n ((hB _).2 (.inl e))
 obtain ⟨es, x1, x2, x3⟩ := FE.lst (C := TyC) TyC.imp B3
 exact ⟨FE.g, _, rfl, .mk (h1.imp (keepS FE.keep)) (x1.imp fun r p e => ⟨hst r p, rfl⟩) x2 fun i a b => (x3 i a b).imp fun r p e => ⟨hst r p, rfl⟩⟩
end Go.Proofs.Ytbjfmnjnonnmeaa
namespace Go.Proofs.Ytbjfmnjnonnmeaa
open Eva Go.RowKit
set_option maxRecDepth 100000
set_option linter.unusedSimpArgs false
set_option linter.unusedVariables false
set_option maxHeartbeats 4000000 in
theorem treesL (st : St) (hw : WF st) (e1 : List V) (q1 : Rw) (h1 : RwC (fun _ => True) st e1 q1) (v2 : V) (ts : List Rw) (h2 : RwsAt (fun _ => True) st v2 ts) (v3 : V) (ss : List Rw) (h3 : RwsAt (fun _ => True) st v3 ss) :
  Does (tabT tabD) n_spruelaw5_ConsTrees [.agg e1, v2, v3] st fun v' _ => v' = .bool true := by
 refine does_fn at_spruelaw5_ConsTrees rfl ?_
 obtain ⟨n0, hn0⟩ : ∃ n, st.nx = up 0 n := ⟨_, up0 _⟩
 have g1 := h1
 obtain ⟨nv1, kv1, es1, rfl, _, _, _, a1, a2, _, _, _⟩ := h1.inv
 have c1 := a1.cells
 have s1 := a1.sc
 have c2 := a2.cells
 have s2 := a2.sc
 obtain ⟨l2, s3, c3, m2⟩ := h2.len
 obtain ⟨l3, s4, c4, m3⟩ := h3.len
 obtain ⟨p3, hp3⟩ : ∃ b, b = up 0 n0 := ⟨_, rfl⟩
 simp only [cf_spruelaw5_ConsTrees, XY, simprocAttr]
 rw [wC_seq]; simp only [XY, simprocAttr, hn0, c1, s1, c2, s2]
 rw [← hp3]
 obtain ⟨S0, hS0⟩ : ∃ S0, S0 = (st.new fun t => .cells t [.int .i64 q1.kind, .int .i64 q1.n, nv1, kv1]) := ⟨_, rfl⟩
 have G0 : Gr st S0 := by rw [hS0]; exact Gr.new hw (good_cells _)
 obtain ⟨t0, r0⟩ : ∃ t, S0.row p3 = .cells t [.int .i64 q1.kind, .int .i64 q1.n, nv1, kv1] := ⟨_, by rw [hS0, hp3]; simp only [XZ, simprocAttr, hn0]; rfl⟩
 rw [← hS0]
 clear hS0
 rw [wC_seqj, wC_seq]; simp only [XY, simprocAttr]
 refine wCall_plain (known5 S0 G0.wf) ?_
 rintro _ S1 ⟨gk, rfl⟩
 have r1 := gk.cells r0
 have G1 := G0.trans gk
 simp only [XY, simprocAttr]
 rw [wC_seqj, wC_seq]; simp only [XY, simprocAttr, r1]
 refine wCall_plain (fewAllC G1.wf (g1.gr G1) (h2.gr G1) (h3.gr G1)) ?_
 rintro _ S2 ⟨G2, fb, rfl⟩
 cases fb with
 | false => simp only [XZ, simprocAttr]
 | true =>
 have r2 := G2.cells r1
 have G2 := G1.trans G2
 simp only [XY, simprocAttr]
 rw [wC_seq]; simp only [XY, simprocAttr, r2]
 refine wCall_plain (goodC G2.wf (g1.gr G2) (h2.gr G2) (h3.gr G2)) ?_
 rintro _ S3 ⟨G3, e, rfl, hs⟩
 obtain ⟨sc, hsc⟩ : ∃ s, s = schemaS q1 ts ss := ⟨_, rfl⟩
 rw [← hsc] at hs ⊢
 have hs0 := hs
 obtain ⟨c, tv, sv, rfl, k1, k2, k3⟩ := hs
 obtain ⟨M, hM⟩ : ∃ M, M = sc.main := ⟨_, rfl⟩
 rw [← hM] at k1
 obtain ⟨mn, mk, xe, rfl, u1, u2, u3, u4⟩ := k1.inv
 have d1 := u1.cells
 have d2 := u1.sc
 have d3 := u2.cells
 have d4 := u2.sc
 have d5 := k2.sc
 have d6 := k3.sc
 have w3 := G3.wf
 obtain ⟨n3, hn3⟩ : ∃ n, S3.nx = up 0 n := ⟨_, up0 _⟩
 simp only [List.cons_append, List.nil_append] at hs0 ⊢
 obtain ⟨okb, hok⟩ : ∃ b, b = decide (refS sc = 0) := ⟨_, rfl⟩
 rw [← hok]
 simp only [XY, simprocAttr, hn3, d1, d2, d3, d4, d5.1, d5.2, d6.1, d6.2]
 obtain ⟨ps, hps⟩ : ∃ b, b = up 0 n3 := ⟨_, rfl⟩
 obtain ⟨S4, hS4⟩ : ∃ S4, S4 = ((S3.new fun t => .cells t [.int .i64 0, ofL [], .snil, .snil, .snil, .snil]).wr (up 0 n3) S3.t fun u => .cells u [.int .i64 M.kind, ofL M.name, mn, mk, tv, sv]) := ⟨_, rfl⟩
 have G4 : Gr S3 S4 := by rw [hS4]; exact (Gr.refl w3).nw hn3 (good_cells _) (good_cells _)
 obtain ⟨t4, r4⟩ : ∃ t, S4.row ps = .cells t [.int .i64 M.kind, ofL M.name, mn, mk, tv, sv] := ⟨_, by rw [hS4, hps]; simp only [XZ, simprocAttr, hn3]; rfl⟩
 rw [← hS4, ← hps]
 clear hS4
 have hs4 := hs0.imp (Q := fun _ => True) fun r p e => ⟨trivial, G4.same r e⟩
 rw [wC_seq]; simp only [XY, simprocAttr, r4]
 refine wCall_plain (newC G4.wf hs4) ?_
 rintro v S5 ⟨G5, hp⟩
 cases hnw : newS sc with
 | mk o er =>
 rw [hnw] at hp
 cases o with
 | none =>
   have hp : v = .tup [.pnil, .int .i64 er] := hp
   have he := new_none' hnw
   rw [hp]
   cases okb with
   | false => simp only [XZ, simprocAttr]
   | true => simp only [XZ, simprocAttr, he]
 | some tb =>
 obtain ⟨rfl, hO⟩ := new_of hnw
 obtain ⟨rt, W, rfl, T5, K5⟩ := hp
 simp only [XY, simprocAttr]
 cases okb with
 | false => simp only [XZ, simprocAttr]
 | true =>
 rw [wC_seqj, wC_seq]; simp only [XY, simprocAttr]
 have r5 := K5.row r4 fun h => h
 have hs5 := hs4.imp (Q := fun r => ¬ W r) (st' := S5) fun r p e => ⟨(K5 r e fun h => h).2, (K5 r e fun h => h).1⟩
 have hfew : tb.nodes.length ≤ 120 := by
  obtain ⟨_, _, _, _, _, _, _, _, hT⟩ := T5
  exact hT.few
 rw [wC_seq]; simp only [XY, simprocAttr]
 refine wCall_plain (lenX T5) ?_
 rintro _ _ ⟨rfl, rfl⟩
 simp only [XY, simprocAttr]
 refine wC_cut (fun _ _ => True) ?_ fun _ _ _ => by simp only [XZ, simprocAttr]
 rw [wC_seq]; simp only [XY, simprocAttr]
 obtain ⟨L, hL⟩ : ∃ L : Nat → Fr → St → Prop, ∀ j fr S, L j fr S ↔ ∃ (i : Nat) (W : Pt → Prop), j + i = tb.nodes.length ∧ fr 9 = .ptr rt 0 ∧ fr 11 = .int .i64 tb.nodes.length ∧ fr 12 = .int .i64 i ∧ TabX S W rt tb := ⟨_, fun _ _ _ => Iff.rfl⟩
 refine wC_loop L tb.nodes.length (by omega) ((hL _ _ _).2 ⟨0, W, by omega, by simp only [XZ, simprocAttr], by simp only [XZ, simprocAttr], by simp only [XZ, simprocAttr] <;> rfl, T5⟩) ?_
 intro j fr S hLj
 obtain ⟨i, W, hj, f9, f11, f12, T⟩ := (hL _ _ _).1 hLj
 by_cases hi : i < tb.nodes.length
 ·have hi' : (i : Int) < tb.nodes.length := by omega
  have hadd1 : IntKind.i64.wrap ((i : Int) + 1) = ((i + 1 : Nat) : Int) := by rw [i64_in (by omega) (by omega)]; rfl
  obtain ⟨X, hX, hA⟩ := hO.inv.tree i hi
  rw [wC_seqj, wC_seq]; simp only [XY, simprocAttr, f12, f11, hi']
  rw [wC_seqj]; simp only [XY, simprocAttr]
  rw [wC_seq]; simp only [XY, simprocAttr, f9, f12]
  refine wCall_plain (typeC _ X (Nat.lt_succ_self _) T hX) ?_
  rintro _ Sa ⟨ga, y, rfl, hy⟩
  have Ta := T.gr ga
  simp only [XY, simprocAttr]
  refine wCall_plain (addX Ta (hy.imp fun r p e => ⟨T.own p, rfl⟩)) ?_
  rintro _ Sb ⟨Wb, Tb, Kb, rfl⟩
  rw [able_there hA hX] at Tb ⊢
  simp only [XY, simprocAttr]
  rw [wC_seq]; simp only [XY, simprocAttr, f12, f9, f11]
  refine wCall_plain (lenX Tb) ?_
  rintro _ _ ⟨rfl, rfl⟩
  simp only [XZ, simprocAttr, f9, f11, f12, hadd1]
  exact ⟨j - 1, by omega, (hL _ _ _).2 ⟨i + 1, Wb, by omega, by simp only [XZ, simprocAttr, f9], by simp only [XZ, simprocAttr, f11], by simp only [XZ, simprocAttr], Tb⟩⟩
 ·have hi' : ¬ (i : Int) < tb.nodes.length := by omega
  simp only [XZ, simprocAttr, f12, f11, hi']
end Go.Proofs.Ytbjfmnjnonnmeaa
