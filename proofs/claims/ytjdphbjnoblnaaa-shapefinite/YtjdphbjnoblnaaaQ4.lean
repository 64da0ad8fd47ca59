/- 'known' of chapter 4 is true, by its contracts. The document's Finite. 'ShapeFinite': what it answers. No condition. -/
import Derived.Test.YtjdphbjnoblnaaaQ3
set_option linter.unusedVariables false
set_option linter.unusedSimpArgs false
set_option maxRecDepth 100000
namespace Go.Proofs.Ytjdphbjnoblnaaa
open Eva Go.RowKit
def kA : Ty := .mk 9 [65] [] []
def kR : Ty := .mk 7 [] [[110, 101, 120, 116]] [.mk 6 [] [] [kA]]
theorem kn_a : checkS ⟨kA, [([65], kA)], []⟩ = 14 := by kernel_rfl
theorem kn_r : checkS ⟨kA, [([65], kR)], []⟩ = 0 := by kernel_rfl
theorem known4 (st : St) (hw : WF st) : Does (tabT tabD) n_spruelaw4_known [] st fun v S => Gr st S ∧ v = .bool true := by
 refine does_fn at_spruelaw4_known rfl ?_
 obtain ⟨n0, hn0⟩ : ∃ n, st.nx = up 0 n := ⟨_, up0 _⟩
 obtain ⟨p1, hp1⟩ : ∃ b, b = up 0 n0 := ⟨_, rfl⟩
 simp only [cf_spruelaw4_known, XY, simprocAttr]
 rw [wC_seq]; simp only [XY, simprocAttr]
 rw [wC_seq]; simp only [XY, simprocAttr, hn0]
 obtain ⟨S1, hS1⟩ : ∃ S, S = ((st.new fun t => .cells t [.int .i64 0, ofL [], .snil, .snil]).wr (up 0 n0) st.t fun u => .cells u [.int .i64 9, ofL [65], .snil, .snil]) := ⟨_, rfl⟩
 have G1 : Gr st S1 := by rw [hS1]; exact (Gr.refl hw).nw hn0 (good_cells _) (good_cells _)
 obtain ⟨t1, r1⟩ : ∃ t, S1.row p1 = .cells t [.int .i64 9, ofL [65], .snil, .snil] := ⟨_, by rw [hS1, hp1]; simp only [XZ, simprocAttr, hn0]; rfl⟩
 rw [← hS1, ← hp1]
 clear hS1
 have w1 := G1.wf
 obtain ⟨n1, hn1⟩ : ∃ n, S1.nx = up 0 n := ⟨_, up0 _⟩
 have o1 := fun k => nes (ne_up w1 hn1 (ne_cells r1) k)
 rw [wC_seq]; simp only [XY, simprocAttr, r1, hn1, o1]
 obtain ⟨S2, hS2⟩ : ∃ S, S = (((((S1.new fun t => Row.cells t [ofL [110, 101, 120, 116]]).new fun t => Row.cells t [V.int IntKind.i64 9, ofL [65], V.snil, V.snil]).new fun t => Row.cells t [V.int IntKind.i64 6, ofL [], V.snil, V.slx (up 1 n1) 0 1 4 1]).new fun t => Row.cells t [V.int IntKind.i64 0, ofL [], V.snil, V.snil]).wr (up 3 n1) (((S1.new fun t => Row.cells t [ofL [110, 101, 120, 116]]).new fun t => Row.cells t [V.int IntKind.i64 9, ofL [65], V.snil, V.snil]).new fun t => Row.cells t [V.int IntKind.i64 6, ofL [], V.snil, V.slx (up 1 n1) 0 1 4 1]).t fun u => Row.cells u [V.int IntKind.i64 7, ofL [], V.slx (up 0 n1) 0 1 1 1, V.slx (up 2 n1) 0 1 4 1]) := ⟨_, rfl⟩
 have G2 : Gr S1 S2 := by rw [hS2]; exact (((Gr.new w1 (good_cells _)).nn (good_cells _)).nn (good_cells _)).nw (by simp only [nx_new, hn1, up_suc, Nat.zero_add]) (good_cells _) (good_cells _)
 obtain ⟨p2, hp2⟩ : ∃ b, b = up 3 n1 := ⟨_, rfl⟩
 obtain ⟨q0, hq0⟩ : ∃ b, b = up 0 n1 := ⟨_, rfl⟩
 obtain ⟨q1, hq1⟩ : ∃ b, b = up 1 n1 := ⟨_, rfl⟩
 obtain ⟨q2, hq2⟩ : ∃ b, b = up 2 n1 := ⟨_, rfl⟩
 have x0 : ∃ t, S2.row q0 = .cells t [ofL [110, 101, 120, 116]] := ⟨_, by rw [hS2, hq0]; simp only [XZ, simprocAttr, hn1]; rfl⟩
 have x1 : ∃ t, S2.row q1 = .cells t [.int .i64 9, ofL [65], .snil, .snil] := ⟨_, by rw [hS2, hq1]; simp only [XZ, simprocAttr, hn1]; rfl⟩
 have x2 : ∃ t, S2.row q2 = .cells t [.int .i64 6, ofL [], .snil, .slx q1 0 1 4 1] := ⟨_, by rw [hS2, hq2, hq1]; simp only [XZ, simprocAttr, hn1]; rfl⟩
 have x3 : ∃ t, S2.row p2 = .cells t [.int .i64 7, ofL [], .slx q0 0 1 1 1, .slx q2 0 1 4 1] := ⟨_, by rw [hS2, hp2, hq0, hq2]; simp only [XZ, simprocAttr, hn1]; rfl⟩
 rw [← hS2, ← hp2, ← hq0, ← hq1, ← hq2]
 clear hS2
 obtain ⟨t5, x0⟩ := x0
 obtain ⟨t6, x1⟩ := x1
 obtain ⟨t7, x2⟩ := x2
 obtain ⟨t8, x3⟩ := x3
 have r1 := G2.cells r1
 have w2 := G2.wf
 have G02 := G1.trans G2
 obtain ⟨n2, hn2⟩ : ∃ n, S2.nx = up 0 n := ⟨_, up0 _⟩
 have tyA : ∀ S, TyC (fun _ => True) S [.int .i64 9, ofL [65], .snil, .snil] kA := fun S => .mk (es := []) (SlAt.nil _ _ _) (SlAt.nil _ _ _) rfl fun i h => absurd h (by simp)
 have tyR : TyC (fun _ => True) S2 [.int .i64 7, ofL [], .slx q0 0 1 1 1, .slx q2 0 1 4 1] kR := by
  refine .mk (es := [[.int .i64 6, ofL [], .snil, .slx q1 0 1 4 1]]) (SlAt.freshx (es := [[ofL [110, 101, 120, 116]]]) (t := t5) (by rw [x0]; rfl) trivial (by simp)) (SlAt.freshx (es := [[.int .i64 6, ofL [], .snil, .slx q1 0 1 4 1]]) (t := t7) (by rw [x2]; rfl) trivial (by simp)) rfl fun i h h' => ?_
  have : i = 0 := by simpa using h
  subst this
  refine .mk (es := [[.int .i64 9, ofL [65], .snil, .snil]]) (SlAt.nil _ _ _) (SlAt.freshx (es := [[.int .i64 9, ofL [65], .snil, .snil]]) (t := t6) (by rw [x1]; rfl) trivial (by simp)) rfl fun i h h' => ?_
  have : i = 0 := by simpa using h
  subst this
  exact tyA _
 have sch : ∀ (S : St) (q : Pt) (t : Nat) (e : List V) (T : Ty), TyC (fun _ => True) S e T → S.row q = .cells t (ofL [65] :: e) → e.length = 4 → SchC (fun _ => True) S [.int .i64 9, ofL [65], .snil, .snil, .slx q 0 1 5 1, .snil] ⟨kA, [([65], T)], []⟩ := fun S q t e T hT hq h4 => by
  refine ⟨[.int .i64 9, ofL [65], .snil, .snil], .slx q 0 1 5 1, .snil, rfl, tyA S, ⟨[ofL [65] :: e], SlAt.freshx (es := [ofL [65] :: e]) (t := t) (by rw [hq]; simp) trivial (by simp [h4]), rfl, fun i h h' => ?_⟩, ⟨[], SlAt.nil _ _ _, rfl, fun i h => absurd h (by simp)⟩⟩
  have : i = 0 := by simpa using h
  subst this
  exact ⟨e, rfl, hT⟩
 rw [wC_seq]; simp only [XY, simprocAttr, r1, hn2]
 obtain ⟨S3, hS3⟩ : ∃ S, S = (S2.new fun t => Row.cells t [ofL [65], V.int IntKind.i64 9, ofL [65], V.snil, V.snil]) := ⟨_, rfl⟩
 have G3 : Gr S2 S3 := by rw [hS3]; exact Gr.new w2 (good_cells _)
 obtain ⟨q3, hq3⟩ : ∃ b, b = up 0 n2 := ⟨_, rfl⟩
 obtain ⟨t9, x4⟩ : ∃ t, S3.row q3 = .cells t [ofL [65], .int .i64 9, ofL [65], .snil, .snil] := ⟨_, by rw [hS3, hq3]; simp only [XZ, simprocAttr, hn2]; rfl⟩
 rw [← hS3, ← hq3]
 clear hS3
 refine wCall_plain (checkC G3.wf (sch S3 q3 t9 _ kA (tyA _) x4 rfl)) ?_
 rintro _ S4 ⟨G4, rfl⟩
 rw [kn_a]
 have r1 := (G3.trans G4).cells r1
 have x3 := (G3.trans G4).cells x3
 have w4 := G4.wf
 obtain ⟨n4, hn4⟩ : ∃ n, S4.nx = up 0 n := ⟨_, up0 _⟩
 simp only [XY, simprocAttr, r1, x3, hn4]
 obtain ⟨S5, hS5⟩ : ∃ S, S = (S4.new fun t => Row.cells t [ofL [65], V.int IntKind.i64 7, ofL [], V.slx q0 0 1 1 1, V.slx q2 0 1 4 1]) := ⟨_, rfl⟩
 have G5 : Gr S4 S5 := by rw [hS5]; exact Gr.new w4 (good_cells _)
 obtain ⟨q5, hq5⟩ : ∃ b, b = up 0 n4 := ⟨_, rfl⟩
 obtain ⟨t10, x5⟩ : ∃ t, S5.row q5 = .cells t [ofL [65], .int .i64 7, ofL [], .slx q0 0 1 1 1, .slx q2 0 1 4 1] := ⟨_, by rw [hS5, hq5]; simp only [XZ, simprocAttr, hn4]; rfl⟩
 rw [← hS5, ← hq5]
 clear hS5
 refine wCall_plain (checkC G5.wf (sch S5 q5 t10 _ kR (tyR.gr ((G3.trans G4).trans G5)) x5 rfl)) ?_
 rintro _ S6 ⟨G6, rfl⟩
 rw [kn_r]
 simp only [XZ, simprocAttr]
 exact (G02.trans (G3.trans G4)).trans (G5.trans G6)
set_option maxHeartbeats 1000000 in
theorem rFinC {P Q : Pt → Prop} {st : St} {e1 e2 : List V} {s : Sch} {t : Ty} (hw : WF st) (h : SchC P st e1 s) (ht : TyC Q st e2 t) (hl : s.types.length ≤ 100) (hcnt : cntTs (s.types.map Prod.snd) < 1000000) (hct : cntT t < 1000000) :
  Does (tabT tabD) n_sprueref4_Finite [.agg e1, .agg e2] st fun v S => Gr st S ∧ v = .bool (endsR (fun x => (finR s.types (s.types.length + 1) []).contains x) t) := by
 refine does_fn at_sprueref4_Finite rfl ?_
 obtain ⟨n0, hn0⟩ : ∃ n, st.nx = up 0 n := ⟨_, up0 _⟩
 have h0 := h
 have t0 := ht
 obtain ⟨c, tv, sv, rfl, k1, k2, k3⟩ := h
 obtain ⟨M, hM⟩ : ∃ M, M = s.main := ⟨_, rfl⟩
 rw [← hM] at k1
 obtain ⟨mn, mk, xe, rfl, u1, u2, u3, u4⟩ := k1.inv
 have d1 := u1.cells
 have d2 := u1.sc
 have d3 := u2.cells
 have d4 := u2.sc
 have d5 := k2.sc
 have d6 := k3.sc
 obtain ⟨yn, yk, ye, rfl, y1, y2, y3, y4⟩ := ht.inv
 have z1 := y1.cells
 have z2 := y1.sc
 have z3 := y2.cells
 have z4 := y2.sc
 simp only [List.cons_append, List.nil_append] at h0 ⊢
 obtain ⟨p2, hp2⟩ : ∃ b, b = up 0 n0 := ⟨_, rfl⟩
 obtain ⟨p3, hp3⟩ : ∃ b, b = up 1 n0 := ⟨_, rfl⟩
 simp only [cf_sprueref4_Finite, XY, simprocAttr]
 rw [wC_seq]; simp only [XY, simprocAttr, hn0, d1, d2, d3, d4, d5.1, d5.2, d6.1, d6.2, z1, z2, z3, z4]
 rw [← hp2, ← hp3]
 obtain ⟨S0, hS0⟩ : ∃ S0, S0 = ((st.new fun t => .cells t [.int .i64 M.kind, ofL M.name, mn, mk, tv, sv]).new fun u => .cells u [.int .i64 t.kind, ofL t.name, yn, yk]) := ⟨_, rfl⟩
 have G0 : Gr st S0 := by rw [hS0]; exact (Gr.new hw (good_cells _)).nn (good_cells _)
 obtain ⟨t2, r2⟩ : ∃ t, S0.row p2 = .cells t [.int .i64 M.kind, ofL M.name, mn, mk, tv, sv] := ⟨_, by rw [hS0, hp2]; simp only [XZ, simprocAttr, hn0]; rfl⟩
 obtain ⟨t3, r3⟩ : ∃ u, S0.row p3 = .cells u [.int .i64 t.kind, ofL t.name, yn, yk] := ⟨_, by rw [hS0, hp3]; simp only [XZ, simprocAttr, hn0]; rfl⟩
 rw [← hS0]
 clear hS0
 rw [wC_seq]; simp only [XY, simprocAttr, r2]
 refine wCall_marked (rfiniteC (wf_low G0.wf _) ((h0.imp (Q := P) fun r p e => ⟨p, G0.same r e⟩).low _) hl hcnt) ?_
 rintro lv S1 G1 hs
 have hs := hs.unlow
 have r3 := G1.cells r3
 have hfl := finR_len s.types (s.types.length + 1)
 simp only [XY, simprocAttr, r3]
 refine wCall_marked (rendsC _ t (Nat.lt_succ_self _) Q _ _ lv (finR s.types (s.types.length + 1) []) _ (wf_low G1.wf _) (hs.low _) (by omega) ((t0.gr (G0.trans G1)).low _) hct) ?_
 rintro _ S2 G2 rfl
 simp only [XZ, simprocAttr]
 exact (G0.trans G1).trans G2
theorem may_cnt_lt {has : Str → Bool} {t : Ty} (h : (mayS has t 1 0).1 = 0) : cntT t < 1000000 := by
 have h1 := mayS_cnt has t 1 0 h
 have h2 := (mayS_met has t 1 0 (by decide)).2 h
 omega
set_option maxHeartbeats 8000000 in
theorem finiteL (st : St) (hw : WF st) (e1 : List V) (q1 : Rw) (h1 : RwC (fun _ => True) st e1 q1) (v2 : V) (ts : List Rw) (h2 : RwsAt (fun _ => True) st v2 ts) (e3 : List V) (q3 : Rw) (h3 : RwC (fun _ => True) st e3 q3) :
  Does (tabT tabD) n_spruelaw4_ShapeFinite [.agg e1, v2, .agg e3] st fun v' _ => v' = .bool true := by
 refine does_fn at_spruelaw4_ShapeFinite rfl ?_
 obtain ⟨n0, hn0⟩ : ∃ n, st.nx = up 0 n := ⟨_, up0 _⟩
 have g1 := h1
 have g3 := h3
 have h0 : RwsAt (fun _ => True) st .snil [] := ⟨[], SlAt.nil _ _ _, rfl, by decide, fun i h => absurd h (by simp)⟩
 obtain ⟨nv1, kv1, es1, rfl, _, _, _, a1, a2, _, _, _⟩ := h1.inv
 have c1 := a1.cells
 have s1 := a1.sc
 have c2 := a2.cells
 have s2 := a2.sc
 obtain ⟨nv3, kv3, es3, rfl, _, _, _, a3, a4, _, _, _⟩ := h3.inv
 have c3 := a3.cells
 have s3 := a3.sc
 have c4 := a4.cells
 have s4 := a4.sc
 obtain ⟨l2, s5, c5, m2⟩ := h2.len
 obtain ⟨p3, hp3⟩ : ∃ b, b = up 0 n0 := ⟨_, rfl⟩
 obtain ⟨p5, hp5⟩ : ∃ b, b = up 1 n0 := ⟨_, rfl⟩
 simp only [cf_spruelaw4_ShapeFinite, XY, simprocAttr]
 rw [wC_seq]; simp only [XY, simprocAttr, hn0, c1, s1, c2, s2, c3, s3, c4, s4]
 rw [← hp3, ← hp5]
 obtain ⟨S0, hS0⟩ : ∃ S0, S0 = ((st.new fun t => .cells t [.int .i64 q1.kind, .int .i64 q1.n, nv1, kv1]).new fun t => .cells t [.int .i64 q3.kind, .int .i64 q3.n, nv3, kv3]) := ⟨_, rfl⟩
 have G0 : Gr st S0 := by rw [hS0]; exact (Gr.new hw (good_cells _)).nn (good_cells _)
 obtain ⟨t0, r0⟩ : ∃ t, S0.row p3 = .cells t [.int .i64 q1.kind, .int .i64 q1.n, nv1, kv1] := ⟨_, by rw [hS0, hp3]; simp only [XZ, simprocAttr, hn0]; rfl⟩
 obtain ⟨t5, r5⟩ : ∃ t, S0.row p5 = .cells t [.int .i64 q3.kind, .int .i64 q3.n, nv3, kv3] := ⟨_, by rw [hS0, hp5]; simp only [XZ, simprocAttr, hn0]; rfl⟩
 rw [← hS0]
 clear hS0
 rw [wC_seqj, wC_seq]; simp only [XY, simprocAttr]
 refine wCall_plain (known4 S0 G0.wf) ?_
 rintro _ S1 ⟨gk, rfl⟩
 have r0 := gk.cells r0
 have r5 := gk.cells r5
 have G1 := G0.trans gk
 simp only [XY, simprocAttr]
 rw [wC_seqj, wC_seq]; simp only [XY, simprocAttr, r0]
 refine wCall_plain (fewAllC G1.wf (g1.gr G1) (h2.gr G1) (h0.gr G1)) ?_
 rintro _ S2 ⟨G2, fb, rfl⟩
 cases fb with
 | false => simp only [XZ, simprocAttr]
 | true =>
 have r0 := G2.cells r0
 have r5 := G2.cells r5
 have G2 := G1.trans G2
 simp only [XY, simprocAttr, r5]
 refine wCall_plain (fewC g3 _ G2 40 (by decide) (by decide)) ?_
 rintro _ S3 ⟨G3, m, rfl, _, _⟩
 by_cases hm : m = 0
 ·simp only [XZ, simprocAttr, hm]
 have r0 := G3.cells r0
 have r5 := G3.cells r5
 have G3 := G2.trans G3
 simp only [XY, simprocAttr, hm]
 rw [wC_seq]; simp only [XY, simprocAttr, r0]
 refine wCall_plain (schemaC G3.wf (g1.gr G3) (h2.gr G3) (h0.gr G3)) ?_
 rintro _ S4 ⟨G4, e, rfl, hs⟩
 obtain ⟨sc, hsc⟩ : ∃ s, s = schemaS q1 ts [] := ⟨_, rfl⟩
 have hsig : sc.sigs = [] := by rw [hsc]; rfl
 rw [← hsc] at hs
 have hs0 := hs
 obtain ⟨c, tv, sv, rfl, k1, k2, k3⟩ := hs
 obtain ⟨M, hM⟩ : ∃ M, M = sc.main := ⟨_, rfl⟩
 rw [← hM] at k1
 obtain ⟨mn, mk, xe, rfl, u1, u2, u3, u4⟩ := k1.inv
 have d1 := u1.cells
 have d2 := u1.sc
 have d3 := u2.cells
 have d4 := u2.sc
 have d5 := k2.sc
 have d6 := k3.sc
 have w4 := G4.wf
 have r5 := G4.cells r5
 obtain ⟨n4, hn4⟩ : ∃ n, S4.nx = up 0 n := ⟨_, up0 _⟩
 simp only [List.cons_append, List.nil_append] at hs0 ⊢
 simp only [XY, simprocAttr, hn4, d1, d2, d3, d4, d5.1, d5.2, d6.1, d6.2]
 obtain ⟨ps, hps⟩ : ∃ b, b = up 0 n4 := ⟨_, rfl⟩
 obtain ⟨S5, hS5⟩ : ∃ S4', S4' = ((S4.new fun t => .cells t [.int .i64 0, ofL [], .snil, .snil, .snil, .snil]).wr (up 0 n4) S4.t fun u => .cells u [.int .i64 M.kind, ofL M.name, mn, mk, tv, sv]) := ⟨_, rfl⟩
 have G5 : Gr S4 S5 := by rw [hS5]; exact (Gr.refl w4).nw hn4 (good_cells _) (good_cells _)
 obtain ⟨t7, r7⟩ : ∃ t, S5.row ps = .cells t [.int .i64 M.kind, ofL M.name, mn, mk, tv, sv] := ⟨_, by rw [hS5, hps]; simp only [XZ, simprocAttr, hn4]; rfl⟩
 rw [← hS5, ← hps]
 clear hS5
 have r5 := G5.cells r5
 have hs5 := hs0.imp (Q := fun _ => True) fun r p e => ⟨trivial, G5.same r e⟩
 have k25 : LstAt (NmC (fun _ => True) S5) (fun _ => True) S5 tv 5 sc.types := k2.imp (fun e x h => h.imp fun r _ e => ⟨trivial, G5.same r e⟩) fun r _ e => ⟨trivial, G5.same r e⟩
 have k15 : TyC (fun _ => True) S5 [.int .i64 M.kind, ofL M.name, mn, mk] M := k1.imp fun r _ e => ⟨trivial, G5.same r e⟩
 refine wC_cut (fun fr S => fr 5 = .ptr p5 0 ∧ fr 7 = .ptr ps 0 ∧ Gr S5 S ∧ (refS sc = 0 ∨ refS sc = 14 ∨ refS sc = 17)) ?_ ?_
 ·rw [wC_seq]; simp only [XY, simprocAttr, r7]
  refine wCall_plain (rcheckC G5.wf hs5) ?_
  rintro _ S6 ⟨G6, rfl⟩
  obtain ⟨R, hR⟩ : ∃ R, R = refS sc := ⟨_, rfl⟩
  rw [← hR]
  by_cases x0 : R = 0
  ·simp only [XZ, simprocAttr, x0]
   exact ⟨G6, .inl trivial⟩
  by_cases x1 : R = 14
  ·simp only [XZ, simprocAttr, x1]
   exact ⟨G6, .inr (.inl trivial)⟩
  by_cases x2 : R = 17
  ·simp only [XZ, simprocAttr, x2]
   exact ⟨G6, .inr (.inr trivial)⟩
  simp only [XZ, simprocAttr, x0, x1, x2]
 rintro fr S6 ⟨f5, f7, G6, hlate⟩
 obtain ⟨L1, L2, L3, L4⟩ := ref_late hsig hlate
 have r5 := G6.cells r5
 have r7 := G6.cells r7
 have r7six := r7
 have hs6 := hs5.imp (Q := fun _ => True) fun r p e => ⟨trivial, G6.same r e⟩
 have k26 : LstAt (NmC (fun _ => True) S6) (fun _ => True) S6 tv 5 sc.types := k25.imp (fun e x h => h.imp fun r _ e => ⟨trivial, G6.same r e⟩) fun r _ e => ⟨trivial, G6.same r e⟩
 have k16 := k15.gr G6
 have llen := k26.len
 have hcnt : cntTs (sc.types.map Prod.snd) < 1000000 := by
  have h1 := maysS_cnt (hasN sc.types) (sc.types.map Prod.snd) 1 0 L3
  have h2 := (maysS_met (hasN sc.types) (sc.types.map Prod.snd) 1 0 (by decide)).2 L3
  omega
 have hfin : ∀ t, (mayS (hasN sc.types) t 1 0).1 = 0 → finS sc.types t = endsR (fun x => (finR sc.types (sc.types.length + 1) []).contains x) t := fun t ht => fin_eq L3 ht
 obtain ⟨nms, hnms⟩ : ∃ l, l = sc.types.map Prod.fst := ⟨_, rfl⟩
 have hnl : nms.length = sc.types.length := by rw [hnms, List.length_map]
 have hhas : ∀ n ∈ nms, hasN sc.types n = true := fun n hn => by
  rw [hnms] at hn
  obtain ⟨p, h1, h2⟩ := List.mem_map.1 hn
  exact List.any_eq_true.2 ⟨p, h1, by simpa using h2⟩
 rw [wC_seq]; simp only [XY, simprocAttr]
 refine wC_cut (fun fr S => ∃ nv, fr 5 = .ptr p5 0 ∧ fr 7 = .ptr ps 0 ∧ fr 9 = nv ∧ Gr S6 S ∧ SlF S6 S nv 1 (strs nms)) ?_ ?_
 ·rw [wC_seq]; simp only [XY, simprocAttr]
  obtain ⟨L, hL⟩ : ∃ L : Nat → Fr → St → Prop, ∀ j fr S, L j fr S ↔ ∃ (i : Nat) (nv : V), j + i = nms.length ∧ fr 5 = .ptr p5 0 ∧ fr 7 = .ptr ps 0 ∧ fr 9 = nv ∧ fr 10 = .int .i64 i ∧ Gr S6 S ∧ SlF S6 S nv 1 (strs (nms.take i)) := ⟨_, fun _ _ _ => Iff.rfl⟩
  refine wC_loop L nms.length (by omega) ((hL _ _ _).2 ⟨0, .snil, by omega, by simp only [XZ, simprocAttr, f5], by simp only [XZ, simprocAttr, f7], by simp only [XZ, simprocAttr], by simp only [XZ, simprocAttr] <;> rfl, Gr.refl G6.wf, SlF.nil _ _ _⟩) ?_
  intro j fr S hLj
  obtain ⟨i, nv, hj, f5, f7, f9, f10, hg, hn⟩ := (hL _ _ _).1 hLj
  have r7 := hg.cells r7
  by_cases hi : i < nms.length
  rotate_left
  ·have hi' : ¬ (i : Int) < sc.types.length := by omega
   simp only [XZ, simprocAttr, f7, f10, r7, llen, hi']
   exact ⟨nv, f5, f9, hg, by rw [List.take_of_length_le (by omega)] at hn; exact hn⟩
  have hi' : (i : Int) < sc.types.length := by omega
  have hit : i < sc.types.length := by omega
  have hadd1 : IntKind.i64.wrap ((i : Int) + 1) = ((i + 1 : Nat) : Int) := by rw [i64_in (by omega) (by omega)]; rfl
  obtain ⟨r, q, e, a1, a2, a3, a4, ⟨c, he, hc⟩, a6, a7⟩ := k26.elem hit
  obtain ⟨N, hN⟩ : ∃ N, N = sc.types[i].1 := ⟨_, rfl⟩
  rw [← hN] at he
  have hNi : nms[i] = N := by rw [hN]; simp only [hnms, List.getElem_map]
  have hNh : hasN sc.types N = true := hhas N (by rw [← hNi]; exact List.getElem_mem hi)
  subst he
  have b6 : ld1 (S6.row r) q = some (ofL N, .no) := a7 0 (by simp)
  have b0 := b6
  rw [← hg.same r a3] at b0
  have wS := hg.wf
  obtain ⟨nS, hnS⟩ : ∃ n, S.nx = up 0 n := ⟨_, up0 _⟩
  rw [wC_seqj, wC_seq]; simp only [XY, simprocAttr, f7, f10, r7, llen, hi']
  rw [wC_seqj]; simp only [XY, simprocAttr]
  rw [wC_seq]; simp only [XY, simprocAttr, f7, f9, f10, r7, a1, b0, hnS]
  have ga : Gr S (S.new fun t => .cells t [ofL N]) := Gr.new wS (good_cells _)
  have hone := one_at (st := S) (z := 1) (e := [ofL N]) rfl
  rw [hnS] at hone
  refine wW_appF (S0 := S6) (hg.trans ga) (hn.gr ga) hone (fun e he => by rw [List.mem_singleton.1 he]; rfl) (by simp) (by rw [strs_len, List.length_take]; simp; omega) fun Sb nv' gb hn' _ => ?_
  have hn2 : SlF S6 Sb nv' 1 (strs (nms.take (i + 1))) := by
   rw [List.take_succ_eq_append_getElem hi, hNi, show strs (nms.take i ++ [N]) = strs (nms.take i) ++ [[ofL N]] by unfold strs; rw [List.map_append, List.map_append]; rfl]
   exact hn'
  have r7b := gb.cells r7six
  have b0b := b6
  rw [← gb.same r a3] at b0b
  have wb := gb.wf
  obtain ⟨nB, hnB⟩ : ∃ n, Sb.nx = up 0 n := ⟨_, up0 _⟩
  have ob := fun k => nes (ne_up wb hnB (ne_cells r7b) k)
  simp only [XY, simprocAttr]
  rw [wC_seq]; simp only [XY, simprocAttr, f7, f10, r7b, a1, b0b, hnB, ob]
  obtain ⟨pt, hpt⟩ : ∃ b, b = up 0 nB := ⟨_, rfl⟩
  obtain ⟨Sc, hSc⟩ : ∃ S', S' = ((Sb.new fun t => .cells t [.int .i64 0, ofL [], .snil, .snil]).wr (up 0 nB) Sb.t fun u => .cells u [.int .i64 9, ofL N, .snil, .snil]) := ⟨_, rfl⟩
  have gc : Gr Sb Sc := by rw [hSc]; exact (Gr.refl wb).nw hnB (good_cells _) (good_cells _)
  obtain ⟨tt, rt⟩ : ∃ t, Sc.row pt = .cells t [.int .i64 9, ofL N, .snil, .snil] := ⟨_, by rw [hSc, hpt]; simp only [XZ, simprocAttr, hnB]; rfl⟩
  rw [← hSc, ← hpt]
  clear hSc
  have g6c := gb.trans gc
  have r7c := gc.cells r7b
  have tyN : ∀ S', TyC (fun _ => True) S' [.int .i64 9, ofL N, .snil, .snil] (.mk 9 N [] []) := fun S' => .mk (es := []) (SlAt.nil _ _ _) (SlAt.nil _ _ _) rfl fun i h => absurd h (by simp)
  have hs_ : ∀ S', Gr S6 S' → SchC (fun _ => True) S' [.int .i64 M.kind, ofL M.name, mn, mk, tv, sv] sc := fun S' g => hs6.imp fun r p e => ⟨trivial, g.same r e⟩
  have e1 := hfin (.mk 9 N [] []) (name_may hNh (by decide) (by decide))
  have e2 := hfin (.mk 7 [] [[120]] [.mk 9 N [] []]) (rec_may hNh)
  rw [rec_ends] at e2
  rw [wC_seq]; simp only [XY, simprocAttr, f7, r7c, rt]
  refine wCall_marked (finiteC (wf_low g6c.wf _) ((hs_ Sc g6c).low _) ((tyN Sc).low _) (by omega) L2) ?_
  rintro _ Sd gd rfl
  have g6d := g6c.trans gd
  have r7d := gd.cells r7c
  have rtd := gd.cells rt
  rw [e1]
  simp only [XY, simprocAttr, f7, r7d, rtd]
  refine wCall_marked (rFinC (wf_low g6d.wf _) ((hs_ Sd g6d).low _) ((tyN Sd).low _) (by omega) hcnt (by rw [cntT_mk, cntTs_nil]; decide)) ?_
  rintro _ Se ge rfl
  have g6e := g6d.trans ge
  have r7e := ge.cells r7d
  have rte := ge.cells rtd
  obtain ⟨B, hB⟩ : ∃ B, B = endsR (fun x => (finR sc.types (sc.types.length + 1) []).contains x) (.mk 9 N [] []) := ⟨_, rfl⟩
  rw [← hB] at e1 e2 ⊢
  have we := ge.wf
  obtain ⟨nE, hnE⟩ : ∃ n, Se.nx = up 0 n := ⟨_, up0 _⟩
  have oe7 := fun k => nes (ne_up we hnE (ne_cells r7e) k)
  have oet := fun k => nes (ne_up we hnE (ne_cells rte) k)
  simp only [XY, simprocAttr, f7, r7e, rte, hnE, oe7, oet]
  obtain ⟨x0, hx0⟩ : ∃ b, b = up 0 nE := ⟨_, rfl⟩
  obtain ⟨x1, hx1⟩ : ∃ b, b = up 1 nE := ⟨_, rfl⟩
  obtain ⟨Sf, hSf⟩ : ∃ S', S' = ((Se.new fun t => Row.cells t [ofL [120]]).new fun t => Row.cells t [V.int IntKind.i64 9, ofL N, V.snil, V.snil]) := ⟨_, rfl⟩
  have gf : Gr Se Sf := by rw [hSf]; exact (Gr.new we (good_cells _)).nn (good_cells _)
  have y0 : ∃ t, Sf.row x0 = .cells t [ofL [120]] := ⟨_, by rw [hSf, hx0]; simp only [XZ, simprocAttr, hnE]; rfl⟩
  have y1 : ∃ t, Sf.row x1 = .cells t [.int .i64 9, ofL N, .snil, .snil] := ⟨_, by rw [hSf, hx1]; simp only [XZ, simprocAttr, hnE]; rfl⟩
  rw [← hSf, ← hx0, ← hx1]
  clear hSf
  obtain ⟨u0, y0⟩ := y0
  obtain ⟨u1, y1⟩ := y1
  have tyR : TyC (fun _ => True) Sf [.int .i64 7, ofL [], .slx x0 0 1 1 1, .slx x1 0 1 4 1] (.mk 7 [] [[120]] [.mk 9 N [] []]) := by
   refine .mk (es := [[.int .i64 9, ofL N, .snil, .snil]]) (SlAt.freshx (es := [[ofL [120]]]) (t := u0) (by rw [y0]; rfl) trivial (by simp)) (SlAt.freshx (es := [[.int .i64 9, ofL N, .snil, .snil]]) (t := u1) (by rw [y1]; rfl) trivial (by simp)) rfl fun i h h' => ?_
   have : i = 0 := by simpa using h
   subst this
   exact tyN _
  have g6f := g6e.trans gf
  have r7f := gf.cells r7e
  have rtf := gf.cells rte
  refine wCall_marked (finiteC (wf_low g6f.wf _) ((hs_ Sf g6f).low _) (tyR.low _) (by omega) L2) ?_
  rintro _ Sg gg rfl
  have g6g := g6f.trans gg
  have r7g := gg.cells r7f
  have rtg := gg.cells rtf
  rw [e2]
  simp only [XY, simprocAttr, f7, r7g, rtg]
  refine wCall_marked (rFinC (wf_low g6g.wf _) ((hs_ Sg g6g).low _) ((tyN Sg).low _) (by omega) hcnt (by rw [cntT_mk, cntTs_nil]; decide)) ?_
  rintro _ Sh gh rfl
  rw [← hB]
  have g6h := g6g.trans gh
  simp only [XZ, simprocAttr, f10, hadd1, apartAll_nil]
  exact ⟨j - 1, by omega, (hL _ _ _).2 ⟨i + 1, nv', by omega, by simp only [XZ, simprocAttr, f5], by simp only [XZ, simprocAttr, f7], by simp only [XZ, simprocAttr], by simp only [XZ, simprocAttr], g6h, hn2.gr ((gc.trans gd).trans ((ge.trans gf).trans (gg.trans gh)))⟩⟩
 rintro fr S7 ⟨nv, f5, f7, f9, G7, hn⟩
 have r5 := G7.cells r5
 have r7 := G7.cells r7six
 have G37 : Gr S3 S7 := (G4.trans G5).trans (G6.trans G7)
 have T5 : TreeAt nms 5 := treeC nms (by omega) 4 (by decide)
 rw [wC_seq]; simp only [XY, simprocAttr, f5, f9, r5]
 refine wCall_plain (T5 G7.wf (g3.gr (G3.trans G37)) hn.at) ?_
 rintro _ S8 ⟨G8, y, rfl, hy⟩
 obtain ⟨Y, hY⟩ : ∃ Y, Y = treeS nms 5 q3 := ⟨_, rfl⟩
 have hYm : (mayS (hasN sc.types) Y 1 0).1 = 0 := by rw [hY]; exact (tree_may hhas 4 q3 1 0 (by decide) (by decide)).1
 rw [← hY] at hy
 obtain ⟨yn, yk, ye, rfl, z1, z2, z3, z4⟩ := hy.inv
 have o1 := z1.cells
 have o2 := z1.sc
 have o3 := z2.cells
 have o4 := z2.sc
 have r7 := G8.cells r7
 have w8 := G8.wf
 obtain ⟨n8, hn8⟩ : ∃ n, S8.nx = up 0 n := ⟨_, up0 _⟩
 simp only [XY, simprocAttr, hn8, o1, o2, o3, o4]
 obtain ⟨pt, hpt⟩ : ∃ b, b = up 0 n8 := ⟨_, rfl⟩
 obtain ⟨S9, hS9⟩ : ∃ S', S' = ((S8.new fun t => .cells t [.int .i64 0, ofL [], .snil, .snil]).wr (up 0 n8) S8.t fun u => .cells u [.int .i64 Y.kind, ofL Y.name, yn, yk]) := ⟨_, rfl⟩
 have G9 : Gr S8 S9 := by rw [hS9]; exact (Gr.refl w8).nw hn8 (good_cells _) (good_cells _)
 obtain ⟨tt, rt⟩ : ∃ t, S9.row pt = .cells t [.int .i64 Y.kind, ofL Y.name, yn, yk] := ⟨_, by rw [hS9, hpt]; simp only [XZ, simprocAttr, hn8]; rfl⟩
 rw [← hS9, ← hpt]
 clear hS9
 have r7 := G9.cells r7
 have ty9 : TyC (fun _ => True) S9 [.int .i64 Y.kind, ofL Y.name, yn, yk] Y := hy.imp fun r p e => ⟨trivial, G9.same r e⟩
 have g69 := (G7.trans G8).trans G9
 have hs_ : ∀ S', Gr S6 S' → SchC (fun _ => True) S' [.int .i64 M.kind, ofL M.name, mn, mk, tv, sv] sc := fun S' g => hs6.imp fun r p e => ⟨trivial, g.same r e⟩
 have e1 := hfin Y hYm
 have hMm : (mayS (hasN sc.types) M 1 0).1 = 0 := by rw [hM]; exact L4
 have e2 := hfin M hMm
 rw [wC_seq]; simp only [XY, simprocAttr, f7, r7, rt]
 refine wCall_marked (finiteC (wf_low g69.wf _) ((hs_ S9 g69).low _) (ty9.low _) (by omega) L2) ?_
 rintro _ Sa ga rfl
 have g6a := g69.trans ga
 have r7a := ga.cells r7
 have rta := ga.cells rt
 rw [e1]
 simp only [XY, simprocAttr, f7, r7a, rta]
 refine wCall_marked (rFinC (wf_low g6a.wf _) ((hs_ Sa g6a).low _) ((ty9.gr ga).low _) (by omega) hcnt (may_cnt_lt hYm)) ?_
 rintro _ Sb gb rfl
 have g6b := g6a.trans gb
 have r7b := gb.cells r7a
 obtain ⟨B, hB⟩ : ∃ B, B = endsR (fun x => (finR sc.types (sc.types.length + 1) []).contains x) Y := ⟨_, rfl⟩
 rw [← hB]
 have hld : ldn (Sb.row ps) 0 4 = some (.agg [.int .i64 M.kind, ofL M.name, mn, mk], .no) := by rw [r7b]; simp only [XZ, simprocAttr]
 simp only [XY, simprocAttr, f7, r7b]
 refine wCall_marked (finiteC (wf_low g6b.wf _) ((hs_ Sb g6b).low _) ((k16.gr g6b).low _) (by omega) L2) ?_
 rintro _ Sc gc rfl
 have g6c := g6b.trans gc
 have r7c := gc.cells r7b
 rw [e2]
 simp only [XY, simprocAttr, f7, r7c]
 refine wCall_marked (rFinC (wf_low g6c.wf _) ((hs_ Sc g6c).low _) ((k16.gr g6c).low _) (by omega) hcnt (may_cnt_lt hMm)) ?_
 rintro _ Sd gd rfl
 simp only [XZ, simprocAttr, apartAll_nil]
end Go.Proofs.Ytjdphbjnoblnaaa
