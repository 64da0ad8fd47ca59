/- 'known' of chapter 4 is true, by its contracts. How many types; what is not too much. 'ShapeChecks': what it answers. No condition. -/
import Derived.Test.YtjdphbjnoblnaaaQ3
set_option linter.unusedVariables false
set_option linter.unusedSimpArgs false
set_option maxRecDepth 100000
namespace Go.Proofs.Ytjdphbjnoblnaaa
open Eva Go.RowKit
def kA : Ty := .mk 9 [65] [] []
def kR : Ty := .mk 7 [] [[110, 101, 120, 116]] [.mk 6 [] [] [kA]]
theorem kn_a : checkS ⟨kA, [([65], kA)], []⟩ = 14 := by kernel_rfl
theorem kn_r : checkS ⟨kA, [([65], kR)], []⟩ = 0 := by kernel_rfl
theorem known4 (st : St) (hw : WF st) : Does (tabT tabD) n_spruelaw4_known [] st fun v S => Gr st S ∧ v = .bool true := by
 refine does_fn at_spruelaw4_known rfl ?_
 obtain ⟨n0, hn0⟩ : ∃ n, st.nx = up 0 n := ⟨_, up0 _⟩
 obtain ⟨p1, hp1⟩ : ∃ b, b = up 0 n0 := ⟨_, rfl⟩
 simp only [cf_spruelaw4_known, XY, simprocAttr]
 rw [wC_seq]; simp only [XY, simprocAttr]
 rw [wC_seq]; simp only [XY, simprocAttr, hn0]
 obtain ⟨S1, hS1⟩ : ∃ S, S = ((st.new fun t => .cells t [.int .i64 0, ofL [], .snil, .snil]).wr (up 0 n0) st.t fun u => .cells u [.int .i64 9, ofL [65], .snil, .snil]) := ⟨_, rfl⟩
 have G1 : Gr st S1 := by rw [hS1]; exact (Gr.refl hw).nw hn0 (good_cells _) (good_cells _)
 obtain ⟨t1, r1⟩ : ∃ t, S1.row p1 = .cells t [.int .i64 9, ofL [65], .snil, .snil] := ⟨_, by rw [hS1, hp1]; simp only [XZ, simprocAttr, hn0]; rfl⟩
 rw [← hS1, ← hp1]
 clear hS1
 have w1 := G1.wf
 obtain ⟨n1, hn1⟩ : ∃ n, S1.nx = up 0 n := ⟨_, up0 _⟩
 have o1 := fun k => nes (ne_up w1 hn1 (ne_cells r1) k)
 rw [wC_seq]; simp only [XY, simprocAttr, r1, hn1, o1]
 obtain ⟨S2, hS2⟩ : ∃ S, S = (((((S1.new fun t => Row.cells t [ofL [110, 101, 120, 116]]).new fun t => Row.cells t [V.int IntKind.i64 9, ofL [65], V.snil, V.snil]).new fun t => Row.cells t [V.int IntKind.i64 6, ofL [], V.snil, V.slx (up 1 n1) 0 1 4 1]).new fun t => Row.cells t [V.int IntKind.i64 0, ofL [], V.snil, V.snil]).wr (up 3 n1) (((S1.new fun t => Row.cells t [ofL [110, 101, 120, 116]]).new fun t => Row.cells t [V.int IntKind.i64 9, ofL [65], V.snil, V.snil]).new fun t => Row.cells t [V.int IntKind.i64 6, ofL [], V.snil, V.slx (up 1 n1) 0 1 4 1]).t fun u => Row.cells u [V.int IntKind.i64 7, ofL [], V.slx (up 0 n1) 0 1 1 1, V.slx (up 2 n1) 0 1 4 1]) := ⟨_, rfl⟩
 have G2 : Gr S1 S2 := by rw [hS2]; exact (((Gr.new w1 (good_cells _)).nn (good_cells _)).nn (good_cells _)).nw (by simp only [nx_new, hn1, up_suc, Nat.zero_add]) (good_cells _) (good_cells _)
 obtain ⟨p2, hp2⟩ : ∃ b, b = up 3 n1 := ⟨_, rfl⟩
 obtain ⟨q0, hq0⟩ : ∃ b, b = up 0 n1 := ⟨_, rfl⟩
 obtain ⟨q1, hq1⟩ : ∃ b, b = up 1 n1 := ⟨_, rfl⟩
 obtain ⟨q2, hq2⟩ : ∃ b, b = up 2 n1 := ⟨_, rfl⟩
 have x0 : ∃ t, S2.row q0 = .cells t [ofL [110, 101, 120, 116]] := ⟨_, by rw [hS2, hq0]; simp only [XZ, simprocAttr, hn1]; rfl⟩
 have x1 : ∃ t, S2.row q1 = .cells t [.int .i64 9, ofL [65], .snil, .snil] := ⟨_, by rw [hS2, hq1]; simp only [XZ, simprocAttr, hn1]; rfl⟩
 have x2 : ∃ t, S2.row q2 = .cells t [.int .i64 6, ofL [], .snil, .slx q1 0 1 4 1] := ⟨_, by rw [hS2, hq2, hq1]; simp only [XZ, simprocAttr, hn1]; rfl⟩
 have x3 : ∃ t, S2.row p2 = .cells t [.int .i64 7, ofL [], .slx q0 0 1 1 1, .slx q2 0 1 4 1] := ⟨_, by rw [hS2, hp2, hq0, hq2]; simp only [XZ, simprocAttr, hn1]; rfl⟩
 rw [← hS2, ← hp2, ← hq0, ← hq1, ← hq2]
 clear hS2
 obtain ⟨t5, x0⟩ := x0
 obtain ⟨t6, x1⟩ := x1
 obtain ⟨t7, x2⟩ := x2
 obtain ⟨t8, x3⟩ := x3
 have r1 := G2.cells r1
 have w2 := G2.wf
 have G02 := G1.trans G2
 obtain ⟨n2, hn2⟩ : ∃ n, S2.nx = up 0 n := ⟨_, up0 _⟩
 have tyA : ∀ S, TyC (fun _ => True) S [.int .i64 9, ofL [65], .snil, .snil] kA := fun S => .mk (es := []) (SlAt.nil _ _ _) (SlAt.nil _ _ _) rfl fun i h => absurd h (by simp)
 have tyR : TyC (fun _ => True) S2 [.int .i64 7, ofL [], .slx q0 0 1 1 1, .slx q2 0 1 4 1] kR := by
  refine .mk (es := [[.int .i64 6, ofL [], .snil, .slx q1 0 1 4 1]]) (SlAt.freshx (es := [[ofL [110, 101, 120, 116]]]) (t := t5) (by rw [x0]; rfl) trivial (by simp)) (SlAt.freshx (es := [[.int .i64 6, ofL [], .snil, .slx q1 0 1 4 1]]) (t := t7) (by rw [x2]; rfl) trivial (by simp)) rfl fun i h h' => ?_
  have : i = 0 := by simpa using h
  subst this
  refine .mk (es := [[.int .i64 9, ofL [65], .snil, .snil]]) (SlAt.nil _ _ _) (SlAt.freshx (es := [[.int .i64 9, ofL [65], .snil, .snil]]) (t := t6) (by rw [x1]; rfl) trivial (by simp)) rfl fun i h h' => ?_
  have : i = 0 := by simpa using h
  subst this
  exact tyA _
 have sch : ∀ (S : St) (q : Pt) (t : Nat) (e : List V) (T : Ty), TyC (fun _ => True) S e T → S.row q = .cells t (ofL [65] :: e) → e.length = 4 → SchC (fun _ => True) S [.int .i64 9, ofL [65], .snil, .snil, .slx q 0 1 5 1, .snil] ⟨kA, [([65], T)], []⟩ := fun S q t e T hT hq h4 => by
  refine ⟨[.int .i64 9, ofL [65], .snil, .snil], .slx q 0 1 5 1, .snil, rfl, tyA S, ⟨[ofL [65] :: e], SlAt.freshx (es := [ofL [65] :: e]) (t := t) (by rw [hq]; simp) trivial (by simp [h4]), rfl, fun i h h' => ?_⟩, ⟨[], SlAt.nil _ _ _, rfl, fun i h => absurd h (by simp)⟩⟩
  have : i = 0 := by simpa using h
  subst this
  exact ⟨e, rfl, hT⟩
 rw [wC_seq]; simp only [XY, simprocAttr, r1, hn2]
 obtain ⟨S3, hS3⟩ : ∃ S, S = (S2.new fun t => Row.cells t [ofL [65], V.int IntKind.i64 9, ofL [65], V.snil, V.snil]) := ⟨_, rfl⟩
 have G3 : Gr S2 S3 := by rw [hS3]; exact Gr.new w2 (good_cells _)
 obtain ⟨q3, hq3⟩ : ∃ b, b = up 0 n2 := ⟨_, rfl⟩
 obtain ⟨t9, x4⟩ : ∃ t, S3.row q3 = .cells t [ofL [65], .int .i64 9, ofL [65], .snil, .snil] := ⟨_, by rw [hS3, hq3]; simp only [XZ, simprocAttr, hn2]; rfl⟩
 rw [← hS3, ← hq3]
 clear hS3
 refine wCall_plain (checkC G3.wf (sch S3 q3 t9 _ kA (tyA _) x4 rfl)) ?_
 rintro _ S4 ⟨G4, rfl⟩
 rw [kn_a]
 have r1 := (G3.trans G4).cells r1
 have x3 := (G3.trans G4).cells x3
 have w4 := G4.wf
 obtain ⟨n4, hn4⟩ : ∃ n, S4.nx = up 0 n := ⟨_, up0 _⟩
 simp only [XY, simprocAttr, r1, x3, hn4]
 obtain ⟨S5, hS5⟩ : ∃ S, S = (S4.new fun t => Row.cells t [ofL [65], V.int IntKind.i64 7, ofL [], V.slx q0 0 1 1 1, V.slx q2 0 1 4 1]) := ⟨_, rfl⟩
 have G5 : Gr S4 S5 := by rw [hS5]; exact Gr.new w4 (good_cells _)
 obtain ⟨q5, hq5⟩ : ∃ b, b = up 0 n4 := ⟨_, rfl⟩
 obtain ⟨t10, x5⟩ : ∃ t, S5.row q5 = .cells t [ofL [65], .int .i64 7, ofL [], .slx q0 0 1 1 1, .slx q2 0 1 4 1] := ⟨_, by rw [hS5, hq5]; simp only [XZ, simprocAttr, hn4]; rfl⟩
 rw [← hS5, ← hq5]
 clear hS5
 refine wCall_plain (checkC G5.wf (sch S5 q5 t10 _ kR (tyR.gr ((G3.trans G4).trans G5)) x5 rfl)) ?_
 rintro _ S6 ⟨G6, rfl⟩
 rw [kn_r]
 simp only [XZ, simprocAttr]
 exact (G02.trans (G3.trans G4)).trans (G5.trans G6)
set_option maxHeartbeats 2000000 in
theorem sizeC (mm : Nat) : ∀ (X : Ty), tsz X < mm → ∀ {P : Pt → Prop} {st : St} {e : List V} (most : Int), -1000 < most → most < 1000 → WF st → TyC P st e X →
  Does (tabT tabD) n_spruelaw4_Size [.agg e, .int .i64 most] st fun v S => Gr st S ∧ ∃ m, v = .int .i64 m ∧ 1 ≤ m ∧ (m ≤ most ∨ m = 1) := by
 induction mm with
 | zero => intro X h; exact absurd h (Nat.not_lt_zero _)
 | succ mm ih =>
 intro X hX P st e most hm1 hm2 hw h
 obtain ⟨k, n, ns, ks⟩ := X
 refine does_fn at_spruelaw4_Size rfl ?_
 obtain ⟨n0, hn0⟩ : ∃ n, st.nx = up 0 n := ⟨_, up0 _⟩
 obtain ⟨nv, kv, es, rfl, x1, x2, x3, x4⟩ := h.inv'
 have c1 := x1.cells
 have c2 := x1.sc
 have c3 := x2.cells
 have c4 := x2.sc
 have len := x2.len
 rw [x3] at len
 obtain ⟨p2, hp2⟩ : ∃ b, b = up 0 n0 := ⟨_, rfl⟩
 simp only [cf_spruelaw4_Size, XY, simprocAttr]
 rw [wC_seq]; simp only [XY, simprocAttr, hn0, c1, c2, c3, c4]
 rw [← hp2]
 obtain ⟨S0, hS0⟩ : ∃ S0, S0 = (st.new fun t => .cells t [.int .i64 k, ofL n, nv, kv]) := ⟨_, rfl⟩
 have G0 : Gr st S0 := by rw [hS0]; exact Gr.new hw (good_cells _)
 obtain ⟨t2, r2⟩ : ∃ t, S0.row p2 = .cells t [.int .i64 k, ofL n, nv, kv] := ⟨_, by rw [hS0, hp2]; simp only [XZ, simprocAttr, hn0]; rfl⟩
 rw [← hS0]
 clear hS0
 rw [wC_seq]; simp only [XY, simprocAttr]
 refine wC_cut (fun fr S => Gr S0 S ∧ ∃ m, fr 5 = .int .i64 m ∧ 1 ≤ m ∧ (m ≤ most ∨ m = 1)) ?_ fun fr S ⟨g, m, f5, a, b⟩ => by
  simp only [XZ, simprocAttr, f5]
  exact ⟨G0.trans g, m, rfl, a, b⟩
 rw [wC_seq]; simp only [XY, simprocAttr]
 obtain ⟨L, hL⟩ : ∃ L : Nat → Fr → St → Prop, ∀ j fr S, L j fr S ↔ ∃ (i : Nat) (m : Int), j + i = most.toNat + 1 ∧ fr 1 = .int .i64 most ∧ fr 2 = .ptr p2 0 ∧ fr 5 = .int .i64 m ∧ fr 6 = .int .i64 i ∧ Gr S0 S ∧ 1 ≤ m ∧ (m ≤ most ∨ m = 1) ∧ (i : Int) < m := ⟨_, fun _ _ _ => Iff.rfl⟩
 refine wC_loop L (most.toNat + 1) (by omega) ((hL _ _ _).2 ⟨0, 1, by omega, by simp only [XZ, simprocAttr], by simp only [XZ, simprocAttr], by simp only [XZ, simprocAttr], by simp only [XZ, simprocAttr] <;> rfl, Gr.refl G0.wf, by omega, .inr rfl, by omega⟩) ?_
 intro j fr S hLj
 obtain ⟨i, m, hj, f1, f2, f5, f6, g, m1, m2, him⟩ := (hL _ _ _).1 hLj
 have r2 := g.cells r2
 by_cases hi : i < ks.length
 rotate_left
 ·have hi' : ¬ (i : Int) < ks.length := by omega
  simp only [XZ, simprocAttr, f2, f6, r2, len, hi', f5]
  exact ⟨g, m, rfl, m1, m2⟩
 have hi' : (i : Int) < ks.length := by omega
 by_cases hmm : m < most
 rotate_left
 ·simp only [XZ, simprocAttr, f1, f2, f5, f6, r2, len, hi', hmm]
  exact ⟨g, m, rfl, m1, m2⟩
 have hadd1 : IntKind.i64.wrap ((i : Int) + 1) = ((i + 1 : Nat) : Int) := by rw [i64_in (by omega) (by omega)]; rfl
 have hsub : IntKind.i64.wrap (most - m) = most - m := i64_in (by omega) (by omega)
 have hie : i < es.length := by omega
 obtain ⟨r, q, a1, a2, a3, a4, a5⟩ := ((x2.gr G0).gr g).elem hie
 rw [wC_seqj, wC_seq]; simp only [XY, simprocAttr, f1, f2, f5, f6, r2, len, hi', hmm]
 rw [wC_seqj]; simp only [XY, simprocAttr, f1, f2, f5, f6, r2, a1, a4, hsub]
 refine wCall_plain (ih ks[i] (by have := tsz_kid (k := k) (n := n) (ns := ns) hi; omega) (most - m) (by omega) (by omega) g.wf ((x4 i hie hi).gr (G0.trans g))) ?_
 rintro _ S' ⟨g', m', rfl, b1, b2⟩
 have hadd2 : IntKind.i64.wrap (m + m') = m + m' := i64_in (by omega) (by omega)
 simp only [XZ, simprocAttr, f6, hadd1, hadd2]
 exact ⟨j - 1, by omega, (hL _ _ _).2 ⟨i + 1, m + m', by omega, by simp only [XZ, simprocAttr, f1], by simp only [XZ, simprocAttr, f2], by simp only [XZ, simprocAttr], by simp only [XZ, simprocAttr], g.trans g', by omega, .inl (by omega), by omega⟩⟩
set_option maxHeartbeats 4000000 in
theorem tameC {P : Pt → Prop} {st : St} {e : List V} {s : Sch} (hw : WF st) (h : SchC P st e s) :
  Does (tabT tabD) n_spruelaw4_tame [.agg e] st fun v S => Gr st S ∧ ∃ b, v = .bool b := by
 refine does_fn at_spruelaw4_tame rfl ?_
 obtain ⟨n0, hn0⟩ : ∃ n, st.nx = up 0 n := ⟨_, up0 _⟩
 obtain ⟨c, tv, sv, rfl, k1, k2, k3⟩ := h
 obtain ⟨M, hM⟩ : ∃ M, M = s.main := ⟨_, rfl⟩
 rw [← hM] at k1
 obtain ⟨l, hl⟩ : ∃ l, l = s.types := ⟨_, rfl⟩
 obtain ⟨fs, hfs⟩ : ∃ l, l = s.sigs := ⟨_, rfl⟩
 rw [← hl] at k2
 rw [← hfs] at k3
 have k1' := k1
 obtain ⟨mn, mk, xe, rfl, u1, u2, u3, u4⟩ := k1.inv
 have d1 := u1.cells
 have d2 := u1.sc
 have d3 := u2.cells
 have d4 := u2.sc
 have d5 := k2.sc
 have d6 := k3.sc
 have ll := k2.len
 have lf := k3.len
 have lm := u2.len
 rw [u3] at lm
 obtain ⟨p1, hp1⟩ : ∃ b, b = up 0 n0 := ⟨_, rfl⟩
 simp only [cf_spruelaw4_tame, List.cons_append, List.nil_append, XY, simprocAttr]
 rw [wC_seq]; simp only [XY, simprocAttr, hn0, d1, d2, d3, d4, d5.1, d5.2, d6.1, d6.2]
 rw [← hp1]
 obtain ⟨S0, hS0⟩ : ∃ S0, S0 = (st.new fun t => .cells t [.int .i64 M.kind, ofL M.name, mn, mk, tv, sv]) := ⟨_, rfl⟩
 have G0 : Gr st S0 := by rw [hS0]; exact Gr.new hw (good_cells _)
 obtain ⟨t1, r1⟩ : ∃ t, S0.row p1 = .cells t [.int .i64 M.kind, ofL M.name, mn, mk, tv, sv] := ⟨_, by rw [hS0, hp1]; simp only [XZ, simprocAttr, hn0]; rfl⟩
 rw [← hS0]
 clear hS0
 by_cases x1 : (20 : Int) < l.length
 ·simp only [XZ, simprocAttr, r1, ll, x1]
  exact ⟨G0, _, rfl⟩
 by_cases x2 : (20 : Int) < fs.length
 ·simp only [XZ, simprocAttr, r1, ll, lf, x1, x2]
  exact ⟨G0, _, rfl⟩
 by_cases x3 : (20 : Int) < M.kids.length
 ·simp only [XZ, simprocAttr, r1, ll, lf, lm, x1, x2, x3]
  exact ⟨G0, _, rfl⟩
 rw [wC_seqj, wC_seq]; simp only [XY, simprocAttr, r1, ll, lf, lm, x1, x2, x3]
 rw [wC_seq]; simp only [XY, simprocAttr, r1]
 refine wCall_plain (sizeC _ M (Nat.lt_succ_self _) 600 (by decide) (by decide) G0.wf (k1'.gr G0)) ?_
 rintro _ S1 ⟨G1, m1, rfl, b1, b2⟩
 have G1 := G0.trans G1
 simp only [XY, simprocAttr]
 have r1' : ∀ {S : St}, Gr S0 S → S.row p1 = .cells t1 [.int .i64 M.kind, ofL M.name, mn, mk, tv, sv] := fun g => g.cells r1
 refine wC_cut (fun fr S => fr 1 = .ptr p1 0 ∧ Gr S0 S ∧ ∃ m, fr 3 = .int .i64 m ∧ 1 ≤ m ∧ m < 2000) ?_ ?_
 ·rw [wC_seq]; simp only [XY, simprocAttr]
  obtain ⟨L, hL⟩ : ∃ L : Nat → Fr → St → Prop, ∀ j fr S, L j fr S ↔ ∃ (i : Nat) (m : Int), j + i = l.length ∧ fr 1 = .ptr p1 0 ∧ fr 3 = .int .i64 m ∧ fr 4 = .int .i64 i ∧ Gr S0 S ∧ 1 ≤ m ∧ m < 2000 := ⟨_, fun _ _ _ => Iff.rfl⟩
  refine wC_loop L l.length (by omega) ((hL _ _ _).2 ⟨0, m1, by omega, by simp only [XZ, simprocAttr], by simp only [XZ, simprocAttr], by simp only [XZ, simprocAttr] <;> rfl, by assumption, b1, by omega⟩) ?_
  intro j fr S hLj
  obtain ⟨i, m, hj, f1, f3, f4, g, a1, a2⟩ := (hL _ _ _).1 hLj
  have r1 := r1' g
  by_cases hi : i < l.length
  rotate_left
  ·have hi' : ¬ (i : Int) < l.length := by omega
   simp only [XZ, simprocAttr, f1, f3, f4, r1, ll, hi']
   exact ⟨g, m, rfl, a1, a2⟩
  have hi' : (i : Int) < l.length := by omega
  by_cases hm : m < 600
  rotate_left
  ·simp only [XZ, simprocAttr, f1, f3, f4, r1, ll, hi', hm]
   exact ⟨g, m, rfl, a1, a2⟩
  have hadd1 : IntKind.i64.wrap ((i : Int) + 1) = ((i + 1 : Nat) : Int) := by rw [i64_in (by omega) (by omega)]; rfl
  have kS : LstAt (NmC P S) P S tv 5 l := k2.imp (fun e x h => h.imp fun r p e => ⟨p, (G0.trans g).same r e⟩) fun r p e => ⟨p, (G0.trans g).same r e⟩
  obtain ⟨r, q, e, o1, o2, o3, o4, ⟨c, he, hc⟩, o6, o7⟩ := kS.elem hi
  have hc0 := hc
  obtain ⟨ynv, ykv, yes, rfl, y1, y2, y3, y4⟩ := hc.inv
  subst he
  have b1 := ldn_drop (a := 1) (b := 4) o4
  simp only [List.drop_succ_cons, List.drop_zero] at b1
  rw [wC_seqj, wC_seq]; simp only [XY, simprocAttr, f1, f3, f4, r1, ll, hi', hm]
  rw [wC_seqj]; simp only [XY, simprocAttr, f1, f3, f4, r1, o1, b1]
  refine wCall_plain (sizeC _ l[i].2 (Nat.lt_succ_self _) 600 (by decide) (by decide) g.wf hc0) ?_
  rintro _ S' ⟨g', m', rfl, z1, z2⟩
  have hadd2 : IntKind.i64.wrap (m + m') = m + m' := i64_in (by omega) (by omega)
  simp only [XZ, simprocAttr, f4, hadd1, hadd2]
  exact ⟨j - 1, by omega, (hL _ _ _).2 ⟨i + 1, m + m', by omega, by simp only [XZ, simprocAttr, f1], by simp only [XZ, simprocAttr], by simp only [XZ, simprocAttr], g.trans g', by omega, by omega⟩⟩
 rintro fr S2 ⟨f1, G2, m2, f3, a1, a2⟩
 refine wC_cut (fun fr S => Gr S0 S ∧ ∃ m, fr 3 = .int .i64 m ∧ 1 ≤ m ∧ m < 2000) ?_ fun fr S ⟨g, m, f3, _, _⟩ => by
  simp only [XZ, simprocAttr, f3]
  exact ⟨G0.trans g, _, rfl⟩
 rw [wC_seq]; simp only [XY, simprocAttr]
 obtain ⟨L, hL⟩ : ∃ L : Nat → Fr → St → Prop, ∀ j fr S, L j fr S ↔ ∃ (i : Nat) (m : Int), j + i = fs.length ∧ fr 1 = .ptr p1 0 ∧ fr 3 = .int .i64 m ∧ fr 5 = .int .i64 i ∧ Gr S0 S ∧ 1 ≤ m ∧ m < 2000 := ⟨_, fun _ _ _ => Iff.rfl⟩
 refine wC_loop L fs.length (by omega) ((hL _ _ _).2 ⟨0, m2, by omega, by simp only [XZ, simprocAttr, f1], by simp only [XZ, simprocAttr, f3], by simp only [XZ, simprocAttr] <;> rfl, G2, a1, a2⟩) ?_
 clear f1 f3
 intro j fr S hLj
 obtain ⟨i, m, hj, f1, f3, f5, g, a1, a2⟩ := (hL _ _ _).1 hLj
 have r1 := r1' g
 by_cases hi : i < fs.length
 rotate_left
 ·have hi' : ¬ (i : Int) < fs.length := by omega
  simp only [XZ, simprocAttr, f1, f3, f5, r1, lf, hi']
  exact ⟨g, m, rfl, a1, a2⟩
 have hi' : (i : Int) < fs.length := by omega
 by_cases hm : m < 600
 rotate_left
 ·simp only [XZ, simprocAttr, f1, f3, f5, r1, lf, hi', hm]
  exact ⟨g, m, rfl, a1, a2⟩
 have hadd1 : IntKind.i64.wrap ((i : Int) + 1) = ((i + 1 : Nat) : Int) := by rw [i64_in (by omega) (by omega)]; rfl
 have kS : LstAt (SgC P S) P S sv 6 fs := k3.imp (fun e x h => h.imp fun r p e => ⟨p, (G0.trans g).same r e⟩) fun r p e => ⟨p, (G0.trans g).same r e⟩
 obtain ⟨r, q, e, o1, o2, o3, o4, ⟨pv, c, he, hp, hc⟩, o6, o7⟩ := kS.elem hi
 have hc0 := hc
 obtain ⟨ynv, ykv, yes, rfl, y1, y2, y3, y4⟩ := hc.inv
 subst he
 have b1 : ld1 (S.row r) (q + 1) = some (pv, .no) := o7 1 (by simp)
 have b2 := ldn_drop (a := 2) (b := 4) o4
 simp only [List.drop_succ_cons, List.drop_zero] at b2
 have pl := (tys_lst.1 hp).len
 rw [wC_seqj, wC_seq]; simp only [XY, simprocAttr, f1, f3, f5, r1, lf, hi', hm]
 rw [wC_seqj]; simp only [XY, simprocAttr]
 by_cases hp20 : (20 : Int) < fs[i].params.length
 ·simp only [XZ, simprocAttr, f1, f5, r1, o1, b1, pl, hp20]
  exact ⟨G0.trans g, _, rfl⟩
 rw [wC_seqj, wC_seq]; simp only [XY, simprocAttr, f1, f5, r1, o1, b1, pl, hp20]
 rw [wC_seq]; simp only [XY, simprocAttr, f1, f3, f5, r1, o1, b2]
 refine wCall_plain (sizeC _ fs[i].result (Nat.lt_succ_self _) 600 (by decide) (by decide) g.wf hc0) ?_
 rintro _ S3 ⟨g3, m3, rfl, z1, z2⟩
 have hadd2 : IntKind.i64.wrap (m + m3) = m + m3 := i64_in (by omega) (by omega)
 simp only [XY, simprocAttr, hadd2]
 have G3 := g.trans g3
 have hb1 : ∀ {S' : St}, Gr S3 S' → ld1 (S'.row r) (q + 1) = some (pv, .no) := fun g' => by rw [(g3.trans g').same r o3]; exact b1
 have done : ∀ (fr : Fr) (S : St) (m : Int), fr 1 = .ptr p1 0 → fr 3 = .int .i64 m → fr 5 = .int .i64 ((i + 1 : Nat) : Int) → Gr S3 S → 1 ≤ m → m < 2000 → ∃ k, k < j ∧ L k fr S := fun fr S m x1 x2 x3 x4 x5 x6 => ⟨j - 1, by omega, (hL _ _ _).2 ⟨i + 1, m, by omega, x1, x2, x3, G3.trans x4, x5, x6⟩⟩
 rw [wC_seq]
 simp only [XY, simprocAttr]
 obtain ⟨L2, hL2⟩ : ∃ L : Nat → Fr → St → Prop, ∀ j fr S, L j fr S ↔ ∃ (k : Nat) (m : Int), j + k = fs[i].params.length ∧ fr 1 = .ptr p1 0 ∧ fr 3 = .int .i64 m ∧ fr 5 = .int .i64 i ∧ fr 6 = .int .i64 k ∧ Gr S3 S ∧ 1 ≤ m ∧ m < 2000 := ⟨_, fun _ _ _ => Iff.rfl⟩
 refine wC_loop L2 fs[i].params.length (by omega) ((hL2 _ _ _).2 ⟨0, m + m3, by omega, by simp only [XZ, simprocAttr, f1], by simp only [XZ, simprocAttr], by simp only [XZ, simprocAttr, f5], by simp only [XZ, simprocAttr] <;> rfl, Gr.refl g3.wf, by omega, by omega⟩) ?_
 clear f1 f3 f5 r1
 intro j2 fr S4 hLj
 obtain ⟨k, m4, hj2, f1, f3, f5, f6, g4, a1, a2⟩ := (hL2 _ _ _).1 hLj
 have r1 := r1' (G3.trans g4)
 have b14 := hb1 g4
 by_cases hk : k < fs[i].params.length
 rotate_left
 ·have hk' : ¬ (k : Int) < fs[i].params.length := by omega
  simp only [XZ, simprocAttr, f1, f3, f5, f6, r1, o1, b14, pl, hk', hadd1]
  exact done _ _ m4 (by simp only [XZ, simprocAttr, f1]) (by simp only [XZ, simprocAttr, f3]) (by simp only [XZ, simprocAttr]) g4 a1 a2
 have hk' : (k : Int) < fs[i].params.length := by omega
 by_cases hm4 : m4 < 600
 rotate_left
 ·simp only [XZ, simprocAttr, f1, f3, f5, f6, r1, o1, b14, pl, hk', hm4, hadd1]
  exact done _ _ m4 (by simp only [XZ, simprocAttr, f1]) (by simp only [XZ, simprocAttr, f3]) (by simp only [XZ, simprocAttr]) g4 a1 a2
 have hadd3 : IntKind.i64.wrap ((k : Int) + 1) = ((k + 1 : Nat) : Int) := by rw [i64_in (by omega) (by omega)]; rfl
 have hp4 : LstAt (TyC P S4) P S4 pv 4 fs[i].params := (tys_lst.1 hp).imp (fun e x h => h.gr (g3.trans g4)) fun r p e => ⟨p, (g3.trans g4).same r e⟩
 obtain ⟨r', q', e', w1, w2, w3, w4, w5, w6, w7⟩ := hp4.elem hk
 rw [wC_seqj, wC_seq]; simp only [XY, simprocAttr, f1, f3, f5, f6, r1, o1, b14, pl, hk', hm4]
 rw [wC_seqj]; simp only [XY, simprocAttr, f1, f3, f5, f6, r1, o1, b14, w1, w4]
 refine wCall_plain (sizeC _ fs[i].params[k] (Nat.lt_succ_self _) 600 (by decide) (by decide) g4.wf w5) ?_
 rintro _ S5 ⟨g5, m5, rfl, z3, z4⟩
 have hadd4 : IntKind.i64.wrap (m4 + m5) = m4 + m5 := i64_in (by omega) (by omega)
 simp only [XZ, simprocAttr, f6, hadd3, hadd4]
 exact ⟨j2 - 1, by omega, (hL2 _ _ _).2 ⟨k + 1, m4 + m5, by omega, by simp only [XZ, simprocAttr, f1], by simp only [XZ, simprocAttr], by simp only [XZ, simprocAttr, f5], by simp only [XZ, simprocAttr], g4.trans g5, by omega, by omega⟩⟩
set_option maxHeartbeats 8000000 in
theorem checksL (st : St) (hw : WF st) (e0 : List V) (s0 : Sch) (h0 : SchC (fun _ => True) st e0 s0) (e1 : List V) (q1 : Rw) (h1 : RwC (fun _ => True) st e1 q1) (v2 : V) (ts : List Rw) (h2 : RwsAt (fun _ => True) st v2 ts) (v3 : V) (ss : List Rw) (h3 : RwsAt (fun _ => True) st v3 ss)
  (wh : Int) (hwh1 : -9223372036854775808 ≤ wh) (hwh2 : wh < 9223372036854775808) (atI : Int) (hat1 : -9223372036854775808 ≤ atI) (hat2 : atI < 9223372036854775808) (nm : List UInt8) (hnm : nm.length ≤ maxLen) (e7 : List V) (T : Ty) (h7 : TyC (fun _ => True) st e7 T) :
  Does (tabT tabD) n_spruelaw4_ShapeChecks [.agg e0, .agg e1, v2, v3, .int .i64 wh, .int .i64 atI, ofL nm, .agg e7] st fun v' _ => v' = .bool true := by
 refine does_fn at_spruelaw4_ShapeChecks rfl ?_
 obtain ⟨n0, hn0⟩ : ∃ n, st.nx = up 0 n := ⟨_, up0 _⟩
 have g0 := h0
 have g1 := h1
 have g7 := h7
 obtain ⟨c0, tv0, sv0, rfl, k1, k2, k3⟩ := h0
 obtain ⟨M0, hM0⟩ : ∃ M, M = s0.main := ⟨_, rfl⟩
 rw [← hM0] at k1
 obtain ⟨mn0, mk0, xe0, rfl, u1, u2, u3, u4⟩ := k1.inv
 have z1 := u1.cells
 have z2 := u1.sc
 have z3 := u2.cells
 have z4 := u2.sc
 have z5 := k2.sc
 have z6 := k3.sc
 obtain ⟨nv1, kv1, es1, rfl, _, _, _, a1, a2, _, _, _⟩ := h1.inv
 have c1 := a1.cells
 have s1 := a1.sc
 have c2 := a2.cells
 have s2 := a2.sc
 obtain ⟨tn, tk, te, rfl, w1, w2, w3, w4⟩ := h7.inv
 have y1 := w1.cells
 have y2 := w1.sc
 have y3 := w2.cells
 have y4 := w2.sc
 simp only [List.cons_append, List.nil_append] at g0 ⊢
 obtain ⟨p8, hp8⟩ : ∃ b, b = up 0 n0 := ⟨_, rfl⟩
 obtain ⟨p9, hp9⟩ : ∃ b, b = up 1 n0 := ⟨_, rfl⟩
 obtain ⟨p15, hp15⟩ : ∃ b, b = up 2 n0 := ⟨_, rfl⟩
 simp only [cf_spruelaw4_ShapeChecks, XY, simprocAttr]
 rw [wC_seq]; simp only [XY, simprocAttr, hn0, z1, z2, z3, z4, z5.1, z5.2, z6.1, z6.2, c1, s1, c2, s2, y1, y2, y3, y4]
 rw [← hp8, ← hp9, ← hp15]
 obtain ⟨S0, hS0⟩ : ∃ S0, S0 = (((st.new fun t => .cells t [.int .i64 M0.kind, ofL M0.name, mn0, mk0, tv0, sv0]).new fun t => .cells t [.int .i64 q1.kind, .int .i64 q1.n, nv1, kv1]).new fun t => .cells t [.int .i64 T.kind, ofL T.name, tn, tk]) := ⟨_, rfl⟩
 have G0 : Gr st S0 := by rw [hS0]; exact ((Gr.new hw (good_cells _)).nn (good_cells _)).nn (good_cells _)
 obtain ⟨t8, r8⟩ : ∃ t, S0.row p8 = .cells t [.int .i64 M0.kind, ofL M0.name, mn0, mk0, tv0, sv0] := ⟨_, by rw [hS0, hp8]; simp only [XZ, simprocAttr, hn0]; rfl⟩
 obtain ⟨t9, r9⟩ : ∃ t, S0.row p9 = .cells t [.int .i64 q1.kind, .int .i64 q1.n, nv1, kv1] := ⟨_, by rw [hS0, hp9]; simp only [XZ, simprocAttr, hn0]; rfl⟩
 obtain ⟨t15, r15⟩ : ∃ t, S0.row p15 = .cells t [.int .i64 T.kind, ofL T.name, tn, tk] := ⟨_, by rw [hS0, hp15]; simp only [XZ, simprocAttr, hn0]; rfl⟩
 rw [← hS0]
 clear hS0
 rw [wC_seqj, wC_seq]; simp only [XY, simprocAttr]
 refine wCall_plain (known4 S0 G0.wf) ?_
 rintro _ S1 ⟨gk, rfl⟩
 have G1 := G0.trans gk
 simp only [XY, simprocAttr]
 rw [wC_seqj, wC_seq]; simp only [XY, simprocAttr, gk.cells r9]
 refine wCall_plain (fewAllC G1.wf (g1.gr G1) (h2.gr G1) (h3.gr G1)) ?_
 rintro _ S2 ⟨gf, fb, rfl⟩
 have gg2 := gk.trans gf
 cases fb with
 | false => simp only [XZ, simprocAttr]
 | true =>
 have G2 := G1.trans gf
 simp only [XY, simprocAttr, gg2.cells r8]
 refine wCall_plain (tameC G2.wf (g0.imp (Q := fun _ => True) fun r p e => ⟨p, G2.same r e⟩)) ?_
 rintro _ S3 ⟨gt, tb, rfl⟩
 have gg3 := gg2.trans gt
 cases tb with
 | false => simp only [XZ, simprocAttr]
 | true =>
 have G3 := G2.trans gt
 simp only [XY, simprocAttr]
 by_cases c50 : (50 : Int) < nm.length
 ·simp only [XZ, simprocAttr, lenS_ofL, c50]
 simp only [XY, simprocAttr, lenS_ofL, c50, gg3.cells r15]
 refine wCall_plain (sizeC _ T (Nat.lt_succ_self _) 100 (by decide) (by decide) G3.wf (g7.gr G3)) ?_
 rintro _ S4 ⟨gz, m, rfl, _, _⟩
 have gg4 := gg3.trans gz
 have G4 := G3.trans gz
 by_cases cm : (100 : Int) ≤ m
 ·simp only [XZ, simprocAttr, cm]
 simp only [XY, simprocAttr, cm]
 rw [wC_seq]; simp only [XY, simprocAttr, gg4.cells r9]
 refine wCall_plain (schemaF G4.wf (g1.gr G4) (h2.gr G4) (h3.gr G4)) ?_
 rintro _ S5 ⟨G5, c, tv, sv, rfl, hF⟩
 obtain ⟨sc, hsc⟩ : ∃ s, s = schemaS q1 ts ss := ⟨_, rfl⟩
 rw [← hsc] at hF
 have hlt4 : sc.types.length ≤ 4 := by
  rw [hsc]
  show (typesOf _ ts).length ≤ 4
  rw [typesOf_len _ _ (by rw [List.length_take]; omega), List.length_take]
  show min ts.length 4 ≤ 4
  omega
 have hls4 : sc.sigs.length ≤ 4 := by
  rw [hsc]
  show (sigsOf _ ss).length ≤ 4
  rw [sigsOf_len]; omega
 have hp3all : ∀ f ∈ sc.sigs, f.params.length ≤ 3 := fun f hf => by
  rw [hsc] at hf
  have hf : f ∈ sigsOf (tyNms.take ts.length) ss := hf
  obtain ⟨p, _, rfl⟩ := List.mem_map.1 hf
  show (paramsOf _ _).length ≤ 3
  rw [paramsOf_len]; omega
 have hs5 := hF.c
 have hF0 := hF
 obtain ⟨hm, ht, hg, hap⟩ := hF0
 obtain ⟨M, hM⟩ : ∃ M, M = sc.main := ⟨_, rfl⟩
 rw [← hM] at hm
 obtain ⟨mn, mk, xe, rfl, x1, x2, x3, x4⟩ := hm.inv
 have d1 := x1.cells
 have d2 := x1.sc
 have d3 := x2.cells
 have d4 := x2.sc
 obtain ⟨est, tt1, tt2, tt3⟩ := ht
 obtain ⟨esg, gg1, gg2', gg3'⟩ := hg
 have d5 := tt1.at.sc
 have d5' := tt1.at.cells
 have d6 := gg1.at.sc
 have d6' := gg1.at.cells
 have w5 := G5.wf
 obtain ⟨n5, hn5⟩ : ∃ n, S5.nx = up 0 n := ⟨_, up0 _⟩
 simp only [List.cons_append, List.nil_append] at hs5 ⊢
 simp only [XY, simprocAttr, hn5, d1, d2, d3, d4, d5, d5', d6, d6']
 obtain ⟨ps, hps⟩ : ∃ b, b = up 0 n5 := ⟨_, rfl⟩
 obtain ⟨S6, hS6⟩ : ∃ S', S' = ((S5.new fun t => .cells t [.int .i64 0, ofL [], .snil, .snil, .snil, .snil]).wr (up 0 n5) S5.t fun u => .cells u [.int .i64 M.kind, ofL M.name, mn, mk, tv, sv]) := ⟨_, rfl⟩
 have G6 : Gr S5 S6 := by rw [hS6]; exact (Gr.refl w5).nw hn5 (good_cells _) (good_cells _)
 obtain ⟨t6, r6⟩ : ∃ t, S6.row ps = .cells t [.int .i64 M.kind, ofL M.name, mn, mk, tv, sv] := ⟨_, by rw [hS6, hps]; simp only [XZ, simprocAttr, hn5]; rfl⟩
 have ps5 : S5.row ps = .none := by rw [hps]; exact nx0 w5 hn5 0
 rw [← hS6, ← hps]
 clear hS6
 have gg6 := (gg4.trans G5).trans G6
 have G06 := (G4.trans G5).trans G6
 have r8 := gg6.cells r8
 have r15 := gg6.cells r15
 rw [wC_seqj, wC_seq]; simp only [XY, simprocAttr, r8]
 refine wCall_marked (checkC (wf_low G06.wf _) ((g0.imp (Q := fun _ => True) fun r p e => ⟨p, G06.same r e⟩).low _)) ?_
 rintro _ S7 G7 rfl
 have G07 := G06.trans G7
 have r8 := G7.cells r8
 simp only [XY, simprocAttr, r8]
 refine wCall_marked (rcheckC (wf_low G07.wf _) ((g0.imp (Q := fun _ => True) fun r p e => ⟨p, G07.same r e⟩).low _)) ?_
 rintro _ S8 G8 rfl
 rw [ref_eq]
 have G08 := G07.trans G8
 have G68 := G7.trans G8
 have r68 := G68.cells r6
 have hs8 : ∀ {S : St}, Gr S6 S → SchC (fun _ => True) S [.int .i64 M.kind, ofL M.name, mn, mk, tv, sv] sc := fun g => hs5.imp fun r p e => ⟨trivial, by rw [g.same r (by rw [G6.same r e]; exact e), G6.same r e]⟩
 simp only [XY, simprocAttr, r68]
 refine wCall_marked (checkC (wf_low G08.wf _) ((hs8 G68).low _)) ?_
 rintro _ S9 G9 rfl
 have G09 := G08.trans G9
 have G69 := G68.trans G9
 have r69 := G69.cells r6
 simp only [XY, simprocAttr, r69]
 refine wCall_marked (rcheckC (wf_low G09.wf _) ((hs8 G69).low _)) ?_
 rintro _ S10 G10 rfl
 rw [ref_eq]
 have G010 := G09.trans G10
 have G610 := G69.trans G10
 have rps := G610.cells r6
 have r15 := G610.cells r15
 simp only [XY, simprocAttr]
 have hF10 := (hF.gr G6).gr G610
 have G410 := (G5.trans G6).trans G610
 have ps4 : S4.row ps = .none := Ch.fresh (Ch.of (fun _ => False) G5) ps5
 have w10 := G610.wf
 have hT10 : TyC (fun r => st.row r ≠ .none) S10 [.int .i64 T.kind, ofL T.name, tn, tk] T := g7.imp fun r _ e => ⟨e, G010.same r e⟩
 have G510 := G6.trans G610
 have st4 : ∀ r, S4.row r = .none → st.row r = .none := fun r e => Ch.fresh (Ch.of (fun _ => False) G4) e
 obtain ⟨I, hI⟩ : ∃ I : Fr → St → Prop, ∀ fr S, I fr S ↔ (fr 17 = .ptr ps 0 ∧ WF S ∧ ∃ a0 a1 a2 a3 a4 a5 t sc', S.row ps = .cells t [a0, a1, a2, a3, a4, a5] ∧ SchC (fun _ => True) S [a0, a1, a2, a3, a4, a5] sc') := ⟨_, fun _ _ => Iff.rfl⟩
 refine wC_cut I ?_ ?_
 rotate_left
 ·intro fr S hIf
  obtain ⟨f17, w, a0, a1, a2, a3, a4, a5, t, sc', r, hs⟩ := (hI _ _).1 hIf
  rw [wC_seq]; simp only [XY, simprocAttr, f17, r]
  refine wCall_marked (checkC (wf_low w _) (hs.low _)) ?_
  rintro _ S' g rfl
  have r := g.cells r
  simp only [XY, simprocAttr, f17, r]
  refine wCall_marked (rcheckC (wf_low g.wf _) ((hs.imp (Q := fun _ => True) fun q p e => ⟨p, g.same q e⟩).low _)) ?_
  rintro _ S'' g' rfl
  rw [ref_eq]
  simp only [XZ, simprocAttr]
 have ps10 : S10.row ps ≠ .none := ne_cells rps
 have done : ∀ (fr : Fr) (S : St) (a0 a1 a2 a3 a4 a5 : V) (t : Nat) (sc' : Sch), fr 17 = .ptr ps 0 → WF S → S.row ps = .cells t [a0, a1, a2, a3, a4, a5] → SchC (fun _ => True) S [a0, a1, a2, a3, a4, a5] sc' → I fr S := fun fr S a0 a1 a2 a3 a4 a5 t sc' x1 x2 x3 x4 => (hI _ _).2 ⟨x1, x2, a0, a1, a2, a3, a4, a5, t, sc', x3, x4⟩
 rw [wC_seq]; simp only [XY, simprocAttr]
 refine wCall_plain (withinC wh 7 S10 (by decide) (by decide)) ?_
 rintro _ _ ⟨rfl, rfl⟩
 have hw7 : wh % 7 = 0 ∨ wh % 7 = 1 ∨ wh % 7 = 2 ∨ wh % 7 = 3 ∨ wh % 7 = 4 ∨ wh % 7 = 5 ∨ wh % 7 = 6 := by
  have h1 := Int.emod_nonneg wh (show (7 : Int) ≠ 0 by decide)
  have h2 := Int.emod_lt_of_pos wh (show (0 : Int) < 7 by decide)
  omega
 obtain ⟨n10, hn10⟩ : ∃ n, S10.nx = up 0 n := ⟨_, up0 _⟩
 have ops := fun k => nes (ne_up w10 hn10 ps10 k)
 have lenT := tt1.at.len
 have lenG := gg1.at.len
 rw [tt2] at lenT
 rw [gg2'] at lenG
 have same10 : ∀ fr : Fr, fr 17 = .ptr ps 0 → I fr S10 := fun fr x1 => done fr S10 _ _ _ _ _ _ _ _ x1 w10 rps (hs8 G610)
 have psr : ∀ {v : V} {z : Nat} {es : List (List V)}, SlF S4 S5 v z es → ∀ {r : Pt}, rowOf v = some r → r ≠ ps := fun h r e k => h.some e (by rw [k]; exact ps5)
 have finT : ∀ (k : Nat) (hkl : k < sc.types.length) (hke : k < est.length) (off : Nat) (vs : List V) (x' : Str × Ty) (S11 : St) (fr : Fr) (r : Pt) (t : Nat), Gr S10 S11 → fr 17 = .ptr ps 0 → rowOf tv = some r → S4.row r = .none → S11.row r = .cells t est.flatten → off + vs.length ≤ 5 →
   (∀ (S' : St) (t' : Nat), S'.row r = .cells t' (splice est.flatten (k * 5 + off) vs) → SlF S4 S' tv 5 (est.set k (splice est[k] off vs))) →
   (∀ S' : St, (∀ q, q ≠ r → S5.row q ≠ .none → S'.row q = S5.row q) → (∀ q, st.row q ≠ .none → S'.row q = st.row q) → NmC (fun _ => True) S' (splice est[k] off vs) x') →
   I fr (S11.wr r t fun u => .cells u (splice est.flatten (k * 5 + off) vs)) := fun k hkl hke off vs x' S11 fr r t G11 x1 b1 b2 b3 ho b6 hx => by
  have hrp : r ≠ ps := psr tt1 b1
  have hwr : ∀ q, q ≠ r → (S11.wr r t fun u => .cells u (splice est.flatten (k * 5 + off) vs)).row q = S11.row q := fun q e => row_wr_ne _ _ _ e
  have G511 := G510.trans G11
  refine done _ _ _ _ _ _ _ _ t6 ⟨sc.main, sc.types.set k x', sc.sigs⟩ x1 (Gr.wr (G410.trans G11) b2 (ne_cells b3) (by rw [b3]; rfl) (good_cells _)).wf ((hwr ps (fun e => hrp e.symm)).trans (G11.cells rps)) ?_
  refine hF.wrT b1 (fun q e1 e2 => by rw [hwr q e1, G511.same q e2]) (b6 _ _ (row_wr_same _ _ _ _)) (by simp [tt2]) fun i a b => ?_
  rw [List.length_set] at a b
  by_cases e : i = k
  ·subst e
   simp only [List.getElem_set_self]
   exact hx _ (fun q e1 e2 => by rw [hwr q e1, G511.same q e2]) fun q e => by rw [hwr q fun k => e (by rw [k]; exact st4 r b2), G11.same q (by rw [G010.same q e]; exact e), G010.same q e]
  ·rw [List.getElem_set_ne (fun k => e k.symm), List.getElem_set_ne (fun k => e k.symm)]
   exact (tt3 i a b).imp fun q p e2 => ⟨trivial, by rw [hwr q fun k => p.2.1 (by rw [k]; exact b1), G511.same q e2]⟩
 have lenE : ∀ (k off : Nat), k < est.length → off ≤ 5 → k * 5 + off ≤ est.flatten.length := fun k off h1 h2 => by
  rw [flatten_len tt1.1]
  have : (k + 1) * 5 ≤ est.length * 5 := Nat.mul_le_mul_right _ h1
  omega
 have finS : ∀ (k : Nat) (hkl : k < sc.sigs.length) (hke : k < esg.length) (off : Nat) (vs : List V) (x' : Sg) (S11 : St) (fr : Fr) (r : Pt) (t : Nat), Gr S10 S11 → fr 17 = .ptr ps 0 → rowOf sv = some r → S4.row r = .none → S11.row r = .cells t esg.flatten → off + vs.length ≤ 6 →
   (∀ (S' : St) (t' : Nat), S'.row r = .cells t' (splice esg.flatten (k * 6 + off) vs) → SlF S4 S' sv 6 (esg.set k (splice esg[k] off vs))) →
   (∀ S' : St, (∀ q, q ≠ r → S5.row q ≠ .none → S'.row q = S5.row q) → (∀ q, st.row q ≠ .none → S'.row q = st.row q) → (∀ q, q ≠ r → S'.row q = S11.row q) → SgC (fun _ => True) S' (splice esg[k] off vs) x') →
   I fr (S11.wr r t fun u => .cells u (splice esg.flatten (k * 6 + off) vs)) := fun k hkl hke off vs x' S11 fr r t G11 x1 b1 b2 b3 ho b6 hx => by
  have hrp : r ≠ ps := psr gg1 b1
  have hwr : ∀ q, q ≠ r → (S11.wr r t fun u => .cells u (splice esg.flatten (k * 6 + off) vs)).row q = S11.row q := fun q e => row_wr_ne _ _ _ e
  have G511 := G510.trans G11
  refine done _ _ _ _ _ _ _ _ t6 ⟨sc.main, sc.types, sc.sigs.set k x'⟩ x1 (Gr.wr (G410.trans G11) b2 (ne_cells b3) (by rw [b3]; rfl) (good_cells _)).wf ((hwr ps (fun e => hrp e.symm)).trans (G11.cells rps)) ?_
  refine hF.wrS b1 (fun q e1 e2 => by rw [hwr q e1, G511.same q e2]) (b6 _ _ (row_wr_same _ _ _ _)) (by simp [gg2']) fun i a b => ?_
  rw [List.length_set] at a b
  by_cases e : i = k
  ·subst e
   simp only [List.getElem_set_self]
   exact hx _ (fun q e1 e2 => by rw [hwr q e1, G511.same q e2]) (fun q e => by rw [hwr q fun k => e (by rw [k]; exact st4 r b2), G11.same q (by rw [G010.same q e]; exact e), G010.same q e]) hwr
  ·rw [List.getElem_set_ne (fun k => e k.symm), List.getElem_set_ne (fun k => e k.symm)]
   exact (gg3' i a b).imp fun q p e2 => ⟨trivial, by rw [hwr q fun k => p.2.2 (by rw [k]; exact b1), G511.same q e2]⟩
 have lenEG : ∀ (k off : Nat), k < esg.length → off ≤ 6 → k * 6 + off ≤ esg.flatten.length := fun k off h1 h2 => by
  rw [flatten_len gg1.1]
  have : (k + 1) * 6 ≤ esg.length * 6 := Nat.mul_le_mul_right _ h1
  omega
 rcases hw7 with h | h | h | h | h | h | h
 ·rw [h]
  simp only [XZ, simprocAttr, r15, rps, y2, y4]
  have hwr : ∀ q, q ≠ ps → (S10.wr ps t6 fun u => .cells u [.int .i64 T.kind, ofL T.name, tn, tk, tv, sv]).row q = S10.row q := fun q e => row_wr_ne _ _ _ e
  refine done _ _ _ _ _ _ _ _ _ ⟨T, sc.types, sc.sigs⟩ ?_ ?_ (row_wr_same _ _ _ _) ?_
  ·simp only [XZ, simprocAttr]
  ·exact (Gr.wr G410 ps4 ps10 (by rw [rps]; rfl) (good_cells _)).wf
  ·exact hF.wrM (fun q e1 e2 => by rw [hwr q fun e => e2 (by rw [e]; exact ps5), G510.same q e2]) (hT10.imp fun q p e => ⟨trivial, hwr q fun e => p (by rw [e]; exact st4 ps ps4)⟩)
 ·rw [h]
  by_cases hz : (0 : Int) < sc.types.length
  rotate_left
  ·simp only [XZ, simprocAttr, rps, lenT, hz]
   exact same10 _ (by simp only [XZ, simprocAttr])
  have hzn : 0 < sc.types.length := by omega
  simp only [XZ, simprocAttr, rps, lenT, hz]
  refine wCall_marked ((withinC atI sc.types.length _ hz (by omega)).mono fun v S h => ⟨by rw [← h.2]; exact Gr.refl (wf_low w10 _), h.1⟩) ?_
  rintro _ S11 G11 rfl
  obtain ⟨k, hk⟩ : ∃ k : Nat, atI % (sc.types.length : Int) = k := ⟨(atI % (sc.types.length : Int)).toNat, by have := Int.emod_nonneg atI (show (sc.types.length : Int) ≠ 0 by omega); omega⟩
  have hkl : k < sc.types.length := by have := Int.emod_lt_of_pos atI hz; omega
  rw [hk]
  have G511 := G510.trans G11
  have rps11 := G11.cells rps
  obtain ⟨r, t, b1, b2, b3, b4, b5, b6⟩ := slF_set (tt1.gr G511) (k := k) (by omega)
  have hr5 : S5.row r ≠ .none := tt1.some b1
  have hrp : r ≠ ps := fun e => hr5 (by rw [e]; exact ps5)
  have hke : k < est.length := by omega
  simp only [XM, simprocAttr, b4, b3]
  refine ⟨lenE k 1 hke (by decide), finT k hkl hke 0 [ofL nm] (nm, sc.types[k].2) S11 _ r t G11 (by simp only [XZ, simprocAttr]) b1 b2 b3 (by simp) (fun S' t' e => b6 S' t' 0 [ofL nm] (by simp) e) fun S' hS1 hS2 => ?_⟩
  obtain ⟨c, e1, e2⟩ := tt3 k hke hkl
  rw [e1]
  exact ⟨c, rfl, e2.imp fun q p e => ⟨trivial, hS1 q (fun k => p.2.1 (by rw [k]; exact b1)) e⟩⟩
 ·rw [h]
  by_cases hz : (0 : Int) < sc.types.length
  rotate_left
  ·simp only [XZ, simprocAttr, rps, lenT, hz]
   exact same10 _ (by simp only [XZ, simprocAttr])
  have hzn : 0 < sc.types.length := by omega
  simp only [XZ, simprocAttr, rps, lenT, hz]
  refine wCall_marked ((withinC atI sc.types.length _ hz (by omega)).mono fun v S h => ⟨by rw [← h.2]; exact Gr.refl (wf_low w10 _), h.1⟩) ?_
  rintro _ S11 G11 rfl
  obtain ⟨k, hk⟩ : ∃ k : Nat, atI % (sc.types.length : Int) = k := ⟨(atI % (sc.types.length : Int)).toNat, by have := Int.emod_nonneg atI (show (sc.types.length : Int) ≠ 0 by omega); omega⟩
  have hkl : k < sc.types.length := by have := Int.emod_lt_of_pos atI hz; omega
  rw [hk]
  have G511 := G510.trans G11
  have rps11 := G11.cells rps
  have r15' := G11.cells r15
  obtain ⟨r, t, b1, b2, b3, b4, b5, b6⟩ := slF_set (tt1.gr G511) (k := k) (by omega)
  have hr5 : S5.row r ≠ .none := tt1.some b1
  have hrp : r ≠ ps := fun e => hr5 (by rw [e]; exact ps5)
  have hke : k < est.length := by omega
  simp only [XM, simprocAttr, b4, b3, r15', y1, y2, y3, y4]
  refine ⟨lenE k 5 hke (by decide), finT k hkl hke 1 [.int .i64 T.kind, ofL T.name, tn, tk] (sc.types[k].1, T) S11 _ r t G11 (by simp only [XZ, simprocAttr]) b1 b2 b3 (by simp) (fun S' t' e => b6 S' t' 1 [.int .i64 T.kind, ofL T.name, tn, tk] (by simp) e) fun S' hS1 hS2 => ?_⟩
  obtain ⟨c, e1, e2⟩ := tt3 k hke hkl
  have hc4 := e2.four
  rw [e1]
  refine ⟨[.int .i64 T.kind, ofL T.name, tn, tk], ?_, g7.imp fun q _ e => ⟨trivial, hS2 q e⟩⟩
  rw [splice_def]
  simp [hc4]
 ·rw [h]
  by_cases hz : (0 : Int) < sc.sigs.length
  rotate_left
  ·simp only [XZ, simprocAttr, rps, lenG, hz]
   exact same10 _ (by simp only [XZ, simprocAttr])
  have hzn : 0 < sc.sigs.length := by omega
  simp only [XZ, simprocAttr, rps, lenG, hz]
  refine wCall_marked ((withinC atI sc.sigs.length _ hz (by omega)).mono fun v S h => ⟨by rw [← h.2]; exact Gr.refl (wf_low w10 _), h.1⟩) ?_
  rintro _ S11 G11 rfl
  obtain ⟨k, hk⟩ : ∃ k : Nat, atI % (sc.sigs.length : Int) = k := ⟨(atI % (sc.sigs.length : Int)).toNat, by have := Int.emod_nonneg atI (show (sc.sigs.length : Int) ≠ 0 by omega); omega⟩
  have hkl : k < sc.sigs.length := by have := Int.emod_lt_of_pos atI hz; omega
  rw [hk]
  have G511 := G510.trans G11
  have rps11 := G11.cells rps
  obtain ⟨r, t, b1, b2, b3, b4, b5, b6⟩ := slF_set (gg1.gr G511) (k := k) (by omega)
  have hr5 : S5.row r ≠ .none := gg1.some b1
  have hrp : r ≠ ps := fun e => hr5 (by rw [e]; exact ps5)
  have hke : k < esg.length := by omega
  simp only [XM, simprocAttr, b4, b3]
  refine ⟨lenEG k 1 hke (by decide), finS k hkl hke 0 [ofL nm] ⟨nm, sc.sigs[k].params, sc.sigs[k].result⟩ S11 _ r t G11 (by simp only [XZ, simprocAttr]) b1 b2 b3 (by simp) (fun S' t' e => b6 S' t' 0 [ofL nm] (by simp) e) fun S' hS1 hS2 hS3 => ?_⟩
  obtain ⟨pv, c, e1, e2, e3⟩ := gg3' k hke hkl
  rw [e1]
  have kk : ∀ q, Own S4 tv sv q → S5.row q ≠ .none → True ∧ S'.row q = S5.row q := fun q p e => ⟨trivial, hS1 q (fun k => p.2.2 (by rw [k]; exact b1)) e⟩
  exact ⟨pv, c, rfl, e2.imp kk, e3.imp kk⟩
 ·rw [h]
  by_cases hz : (0 : Int) < sc.sigs.length
  rotate_left
  ·simp only [XZ, simprocAttr, rps, lenG, hz]
   exact same10 _ (by simp only [XZ, simprocAttr])
  have hzn : 0 < sc.sigs.length := by omega
  simp only [XZ, simprocAttr, rps, lenG, hz]
  refine wCall_plain (withinC atI sc.sigs.length S10 hz (by omega)) ?_
  rintro _ _ ⟨rfl, rfl⟩
  obtain ⟨k, hk⟩ : ∃ k : Nat, atI % (sc.sigs.length : Int) = k := ⟨(atI % (sc.sigs.length : Int)).toNat, by have := Int.emod_nonneg atI (show (sc.sigs.length : Int) ≠ 0 by omega); omega⟩
  have hkl : k < sc.sigs.length := by have := Int.emod_lt_of_pos atI hz; omega
  rw [hk]
  obtain ⟨r, t, b1, b2, b3, b4, b5, b6⟩ := slF_set (gg1.gr G510) (k := k) (by omega)
  have hke : k < esg.length := by omega
  obtain ⟨pv, c, e1, e2, e3⟩ := gg3' k hke hkl
  obtain ⟨r0, q0, w1, w2, w3, w4, w5⟩ := (gg1.gr G510).at.elem hke
  rw [b4] at w1
  injection w1 with w1
  injection w1 with w1 _
  injection w1 with hr0 hq0
  have w5 := w5 1 (by rw [e1]; simp)
  rw [← hr0, ← hq0] at w5
  simp only [e1, List.getElem_cons_succ, List.getElem_cons_zero] at w5
  have hr10 : S10.row r ≠ .none := ne_cells b3
  have or := fun k => nes (ne_up w10 hn10 hr10 k)
  have p15n : S10.row p15 ≠ .none := ne_cells r15
  simp only [XN, simprocAttr, rps, hn10, b4, w5, ops, or]
  obtain ⟨x, hx⟩ : ∃ b, b = up 0 n10 := ⟨_, rfl⟩
  obtain ⟨S11, hS11⟩ : ∃ S', S' = (S10.new fun t => Row.cells t []) := ⟨_, rfl⟩
  have G11 : Gr S10 S11 := by rw [hS11]; exact Gr.new w10 (good_cells _)
  obtain ⟨t11, r11⟩ : ∃ t, S11.row x = .cells t [] := ⟨_, by rw [hS11, hx]; simp only [XZ, simprocAttr, hn10]; rfl⟩
  have xn : S10.row x = .none := by rw [hx]; exact nx0 w10 hn10 0
  rw [← hS11, ← hx]
  clear hS11
  obtain ⟨esp, m1, m2, m3⟩ := e2
  have hp3 : sc.sigs[k].params.length ≤ 3 := hp3all _ (List.getElem_mem hkl)
  have G5_11 := G510.trans G11
  have sl0 : SlF S10 S11 (.slx x 0 0 4 0) 4 [] := ⟨by simp, .inr ⟨x, t11, xn, by rw [r11]; rfl, .inr rfl⟩⟩
  refine wW_appG (S0 := S10) G11 sl0 (m1.gr G5_11) (fun e he => by
   obtain ⟨i, hi, rfl⟩ := List.getElem_of_mem he
   exact (m3 i hi (by omega)).ok) (by omega) (by simp; omega) fun Sa v1 ga hSl hrow hkeep => ?_
  have keepA : ∀ q, S10.row q ≠ .none → Sa.row q = S10.row q := fun q e => ga.same q e
  have r15a : Sa.row p15 = .cells t15 [.int .i64 T.kind, ofL T.name, tn, tk] := ga.cells r15
  obtain ⟨nA, hnA⟩ : ∃ n, Sa.nx = up 0 n := ⟨_, up0 _⟩
  simp only [XY, simprocAttr, r15a, hnA, y1, y2, y3, y4]
  have gn : Gr Sa (Sa.new fun t => Row.cells t [.int .i64 T.kind, ofL T.name, tn, tk, .int .i64 T.kind, ofL T.name, tn, tk]) := Gr.new ga.wf (good_cells _)
  obtain ⟨xb, hxb⟩ : ∃ b, b = up 0 nA := ⟨_, rfl⟩
  obtain ⟨Sb, hSb⟩ : ∃ S', S' = (Sa.new fun t => Row.cells t [.int .i64 T.kind, ofL T.name, tn, tk, .int .i64 T.kind, ofL T.name, tn, tk]) := ⟨_, rfl⟩
  obtain ⟨tb, rb⟩ : ∃ t, Sb.row xb = .cells t [.int .i64 T.kind, ofL T.name, tn, tk, .int .i64 T.kind, ofL T.name, tn, tk] := ⟨_, by rw [hSb, hxb]; simp only [XZ, simprocAttr, hnA]; rfl⟩
  rw [← hSb] at gn ⊢
  rw [← hxb]
  clear hSb
  have gb := ga.trans gn
  have hx2 : SlAt (fun _ => True) Sb (.slx xb 0 2 4 2) 4 [[.int .i64 T.kind, ofL T.name, tn, tk], [.int .i64 T.kind, ofL T.name, tn, tk]] := SlAt.freshx (es := [[.int .i64 T.kind, ofL T.name, tn, tk], [.int .i64 T.kind, ofL T.name, tn, tk]]) (t := tb) (by rw [rb]; rfl) trivial (by simp)
  simp only [List.nil_append] at hSl
  refine wW_appG (S0 := S10) gb (hSl.gr gn) hx2 (fun e he => by
   have : e = [.int .i64 T.kind, ofL T.name, tn, tk] := by simpa using he
   rw [this]; simp only [allSc, List.all_cons, List.all_nil, y2, y4]; rfl) (by simp) (by simp; omega) fun Sc v2' gc hSl2 hrow2 hkeep2 => ?_
  have hcell : ∀ q, S10.row q ≠ .none → Sc.row q = S10.row q := fun q e => gc.same q e
  have rpsc := gc.cells rps
  have b3c : Sc.row r = .cells t esg.flatten := gc.cells b3
  have v2a := hSl2.at.sc
  have v2b := hSl2.at.cells
  have nx1 : rowOf v1 ≠ some ps := fun e => by
   have := (hSl.row e).1
   rw [rps] at this; cases this
  have nxx : x ≠ ps := fun e => by rw [e, rps] at xn; cases xn
  have nx15 : x ≠ p15 := fun e => by rw [e, r15] at xn; cases xn
  simp only [XN, simprocAttr, b4, b3c, v2a, v2b]
  refine ⟨lenEG k 2 hke (by decide), ?_, ?_⟩
  ·have e125 : rowOf (V.slx x 0 0 4 0) ≠ some ps := fun e => nxx (by injection e)
   have e125' : rowOf (V.slx x 0 0 4 0) ≠ some p15 := fun e => nx15 (by injection e)
   refine apart_four (apartAll_ok (v := .slx x 0 0 4 0) (w := .ptr ps 5) (q := ps) ?_ ?_ rfl e125) (apartAll_ok (v := .slx x 0 0 4 0) (w := .ptr p15 0) (q := p15) ?_ ?_ rfl e125') (apartAll_ok (v := .slx x 0 0 4 0) (w := .ptr p15 0) (q := p15) ?_ ?_ rfl e125') (apartAll_ok (v := v1) (w := .ptr ps 5) (q := ps) ?_ ?_ rfl nx1)
   all_goals simp only [XZ, simprocAttr]
  ·refine finS k hkl hke 1 [v2'] ⟨sc.sigs[k].name, sc.sigs[k].params ++ [T, T], sc.sigs[k].result⟩ Sc _ r t gc (by simp only [XZ, simprocAttr]) b1 b2 b3c (by simp) (fun S' t' e => b6 S' t' 1 [v2'] (by simp) e) fun S' hS1 hS2 hS3 => ?_
   rw [e1]
   have kk : ∀ q, Own S4 tv sv q → S5.row q ≠ .none → True ∧ S'.row q = S5.row q := fun q p e => ⟨trivial, hS1 q (fun k => p.2.2 (by rw [k]; exact b1)) e⟩
   refine ⟨v2', c, by rw [splice_def]; simp, ⟨esp ++ [[.int .i64 T.kind, ofL T.name, tn, tk], [.int .i64 T.kind, ofL T.name, tn, tk]], (hSl2.keep fun q e => hS3 q fun k => hr10 (by rw [← k]; exact (hSl2.row e).1)).at.imp fun _ _ _ => ⟨trivial, rfl⟩, by simp [m2], fun i a b => ?_⟩, e3.imp kk⟩
   have hT' : TyC (fun _ => True) S' [.int .i64 T.kind, ofL T.name, tn, tk] T := g7.imp fun q _ e => ⟨trivial, hS2 q e⟩
   by_cases hi : i < esp.length
   ·rw [List.getElem_append_left hi, List.getElem_append_left (by omega)]
    exact (m3 i hi (by omega)).imp kk
   ·have hi2 : i = esp.length ∨ i = esp.length + 1 := by simp at a; omega
    rcases hi2 with rfl | rfl
    ·rw [List.getElem_append_right (Nat.le_refl _), List.getElem_append_right (by omega)]
     simp only [Nat.sub_self, m2, List.getElem_cons_zero]
     exact hT'
    ·rw [List.getElem_append_right (by omega), List.getElem_append_right (by omega)]
     simp only [m2, Nat.add_sub_cancel_left, List.getElem_cons_succ, List.getElem_cons_zero]
     exact hT'
 ·rw [h]
  simp only [XZ, simprocAttr, rps, r15, hn10, ops, y1, y2, y3, y4]
  have gn : Gr S10 (S10.new fun t => Row.cells t [ofL nm, .int .i64 T.kind, ofL T.name, tn, tk]) := Gr.new w10 (good_cells _)
  have hone := one_at (st := S10) (z := 5) (e := [ofL nm, .int .i64 T.kind, ofL T.name, tn, tk]) rfl
  rw [hn10] at hone
  refine wW_appG (S0 := S4) (G410.trans gn) (tt1.gr (G510.trans gn)) hone (fun e he => by rw [List.mem_singleton.1 he]; simp only [allSc, List.all_cons, List.all_nil, y2, y4]; rfl) (by simp) (by simp; omega) fun Sa va ga hSl hrow hkeep => ?_
  have rpsn := gn.cells rps
  have hnps : rowOf tv ≠ some ps := fun e => psr tt1 e rfl
  have rpsa : Sa.row ps = .cells t6 [.int .i64 M.kind, ofL M.name, mn, mk, tv, sv] := (hkeep ps (ne_cells rpsn) hnps).trans rpsn
  have va5 := hSl.at.sc
  have va6 := hSl.at.cells
  have hva : ∀ r, rowOf va = some r → r ≠ ps := fun r e k => by
   rcases hrow with h | h
   ·exact hnps (by rw [← h, e, k])
   ·rw [e] at h
    injection h with h
    rw [k] at h
    have : (S10.new fun t => Row.cells t [ofL nm, .int .i64 T.kind, ofL T.name, tn, tk]).row ps = .none := by
     obtain ⟨n11, hn11⟩ : ∃ n, (S10.new fun t => Row.cells t [ofL nm, .int .i64 T.kind, ofL T.name, tn, tk]).nx = up 0 n := ⟨_, up0 _⟩
     rw [h, hn11]; exact nx0 gn.wf hn11 0
    rw [rpsn] at this; cases this
  simp only [XZ, simprocAttr, rpsa, va5, va6]
  have hwr : ∀ q, q ≠ ps → (Sa.wr ps t6 fun u => .cells u [.int .i64 M.kind, ofL M.name, mn, mk, va, sv]).row q = Sa.row q := fun q e => row_wr_ne _ _ _ e
  have hS5 : ∀ q, S5.row q ≠ .none → rowOf tv ≠ some q → (Sa.wr ps t6 fun u => .cells u [.int .i64 M.kind, ofL M.name, mn, mk, va, sv]).row q = S5.row q := fun q e n => by
   rw [hwr q fun k => e (by rw [k]; exact ps5), hkeep q (by rw [(G510.trans gn).same q e]; exact e) n, (G510.trans gn).same q e]
  refine done _ _ _ _ _ _ _ _ _ ⟨sc.main, sc.types ++ [(nm, T)], sc.sigs⟩ ?_ ?_ (row_wr_same _ _ _ _) ?_
  ·simp only [XZ, simprocAttr]
  ·exact (Gr.wr ga ps4 (ne_cells rpsa) (by rw [rpsa]; rfl) (good_cells _)).wf
  ·refine hF.add (c := [.int .i64 M.kind, ofL M.name, mn, mk]) hS5 (hSl.keep fun r e => hwr r (hva r e)) (by simp [tt2]) fun i a b => ?_
   by_cases e : i < est.length
   ·rw [List.getElem_append_left e, List.getElem_append_left (by omega)]
    exact (tt3 i e (by omega)).imp fun q p e2 => ⟨trivial, hS5 q e2 p.2.1⟩
   ·have e2 : i = est.length := by simp at a; omega
    subst e2
    rw [List.getElem_append_right (Nat.le_refl _), List.getElem_append_right (by omega)]
    simp only [Nat.sub_self, tt2, List.getElem_cons_zero]
    refine ⟨_, rfl, g7.imp fun q _ e => ⟨trivial, ?_⟩⟩
    have q10 : S10.row q = st.row q := G010.same q e
    have qn : (S10.new fun t => Row.cells t [ofL nm, .int .i64 T.kind, ofL T.name, tn, tk]).row q = st.row q := by rw [gn.same q (by rw [q10]; exact e), q10]
    rw [hwr q fun k => e (by rw [k]; exact st4 ps ps4), hkeep q (by rw [qn]; exact e) fun k => e (st4 q (tt1.row k).1), qn]
 ·rw [h]
  simp only [XZ, simprocAttr, rps, hn10, ops, d2, d4]
  obtain ⟨x, hx⟩ : ∃ b, b = up 0 n10 := ⟨_, rfl⟩
  obtain ⟨S11, hS11⟩ : ∃ S', S' = (S10.new fun t => Row.cells t [.int .i64 M.kind, ofL M.name, mn, mk]) := ⟨_, rfl⟩
  have G11 : Gr S10 S11 := by rw [hS11]; exact Gr.new w10 (good_cells _)
  obtain ⟨t11, r11⟩ : ∃ t, S11.row x = .cells t [.int .i64 M.kind, ofL M.name, mn, mk] := ⟨_, by rw [hS11, hx]; simp only [XZ, simprocAttr, hn10]; rfl⟩
  have xn : S10.row x = .none := by rw [hx]; exact nx0 w10 hn10 0
  rw [← hS11, ← hx]
  clear hS11
  have rps11 := G11.cells rps
  have hwr : ∀ q, q ≠ ps → (S11.wr ps t6 fun u => .cells u [.int .i64 6, ofL [], .snil, .slx x 0 1 4 1, tv, sv]).row q = S11.row q := fun q e => row_wr_ne _ _ _ e
  have G511 := G510.trans G11
  refine done _ _ _ _ _ _ _ _ _ ⟨.mk 6 [] [] [M], sc.types, sc.sigs⟩ ?_ ?_ (row_wr_same _ _ _ _) ?_
  ·simp only [XZ, simprocAttr]
  ·exact (Gr.wr (G410.trans G11) ps4 (ne_cells rps11) (by rw [rps11]; rfl) (good_cells _)).wf
  ·refine hF.wrM (T := .mk 6 [] [] [M]) (c' := [.int .i64 6, ofL [], .snil, .slx x 0 1 4 1]) (fun q e1 e2 => by rw [hwr q fun e => e2 (by rw [e]; exact ps5), G511.same q e2]) ?_
   have xps : x ≠ ps := fun e => ps10 (by rw [← e]; exact xn)
   refine .mk (es := [[.int .i64 M.kind, ofL M.name, mn, mk]]) (SlAt.nil _ _ _) (SlAt.freshx (es := [[.int .i64 M.kind, ofL M.name, mn, mk]]) (t := t11) (by rw [hwr x xps, r11]; rfl) trivial (by simp)) rfl fun i h h' => ?_
   have : i = 0 := by simpa using h
   subst this
   exact hm.imp fun q p e => ⟨trivial, by rw [hwr q fun k => e (by rw [k]; exact ps5), G511.same q e]⟩
end Go.Proofs.Ytjdphbjnoblnaaa
