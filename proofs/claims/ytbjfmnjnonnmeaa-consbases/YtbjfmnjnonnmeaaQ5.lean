/- A schema that raw trees make, and whether the document takes it. A type opened. A number's type as a tree. Kinds added to a table; numbers that are none. Types that are the same, told. 'ConsBases': what it answers. No condition. -/
import Derived.Test.YtbjfmnjnonnmeaaQ4
set_option linter.unusedVariables false
set_option linter.unusedSimpArgs false
set_option maxRecDepth 100000
namespace Go.Proofs.Ytbjfmnjnonnmeaa
open Eva Go.RowKit
set_option maxHeartbeats 4000000 in
theorem goodC {P : Pt → Prop} {st : St} {e1 : List V} {q1 : Rw} {v2 v3 : V} {ts ss : List Rw} (hw : WF st) (h1 : RwC P st e1 q1) (h2 : RwsAt P st v2 ts) (h3 : RwsAt P st v3 ss) :
  Does (tabT tabD) n_spruelaw4_Good [.agg e1, v2, v3] st fun v S => Gr st S ∧ ∃ e, v = .tup [.agg e, .bool (decide (refS (schemaS q1 ts ss) = 0))] ∧ SchC (fun r => st.row r = .none) S e (schemaS q1 ts ss) := by
 refine does_fn at_spruelaw4_Good rfl ?_
 obtain ⟨n0, hn0⟩ : ∃ n, st.nx = up 0 n := ⟨_, up0 _⟩
 have g1 := h1
 obtain ⟨nv1, kv1, es1, rfl, _, _, _, a1, a2, _, _, _⟩ := h1.inv
 have c1 := a1.cells
 have s1 := a1.sc
 have c2 := a2.cells
 have s2 := a2.sc
 obtain ⟨l2, s3, c3, m2⟩ := h2.len
 obtain ⟨l3, s4, c4, m3⟩ := h3.len
 obtain ⟨b3, hb3⟩ : ∃ b, b = up 0 n0 := ⟨_, rfl⟩
 obtain ⟨b6, hb6⟩ : ∃ b, b = up 1 n0 := ⟨_, rfl⟩
 have n6 : st.row b6 = .none := by rw [hb6]; exact nx0 hw hn0 1
 simp only [cf_spruelaw4_Good, XY, simprocAttr]
 rw [wC_seq]; simp only [XY, simprocAttr, hn0, c1, s1, c2, s2]
 rw [← hb3, ← hb6]
 obtain ⟨S0, hS0⟩ : ∃ S0, S0 = ((st.new fun t => .cells t [.int .i64 q1.kind, .int .i64 q1.n, nv1, kv1]).new fun t => .cells t [.int .i64 0, ofL [], .snil, .snil, .snil, .snil]) := ⟨_, rfl⟩
 have g0 : Gr st S0 := by rw [hS0]; exact (Gr.new hw (good_cells _)).nn (good_cells _)
 obtain ⟨t3, r3⟩ : ∃ t, S0.row b3 = .cells t [.int .i64 q1.kind, .int .i64 q1.n, nv1, kv1] := ⟨_, by rw [hS0, hb3]; simp only [XZ, simprocAttr, hn0]; rfl⟩
 obtain ⟨t6, r6⟩ : ∃ t, S0.row b6 = .cells t [.int .i64 0, ofL [], .snil, .snil, .snil, .snil] := ⟨_, by rw [hS0, hb6]; simp only [XZ, simprocAttr, hn0]; rfl⟩
 rw [← hS0]
 clear hS0
 rw [wC_seq]; simp only [XY, simprocAttr, r3]
 refine wCall_plain (schemaC g0.wf (g1.gr g0) (h2.gr g0) (h3.gr g0)) ?_
 rintro _ S1 ⟨gs, e, rfl, hs⟩
 obtain ⟨sc, hsc⟩ : ∃ s, s = schemaS q1 ts ss := ⟨_, rfl⟩
 rw [← hsc] at hs ⊢
 have hs0 := hs
 obtain ⟨c, tv, sv, rfl, k1, k2, k3⟩ := hs
 obtain ⟨M, hM⟩ : ∃ M, M = sc.main := ⟨_, rfl⟩
 rw [← hM] at k1
 obtain ⟨mn, mk, xe, rfl, u1, u2, u3, u4⟩ := k1.inv
 have d1 := u1.cells
 have d2 := u1.sc
 have d3 := u2.cells
 have d4 := u2.sc
 have d5 := k2.sc
 have d6 := k3.sc
 have w1 := gs.wf
 obtain ⟨n1, hn1⟩ : ∃ n, S1.nx = up 0 n := ⟨_, up0 _⟩
 simp only [List.cons_append, List.nil_append] at hs0 ⊢
 simp only [XY, simprocAttr, hn1, d1, d2, d3, d4, d5.1, d5.2, d6.1, d6.2]
 obtain ⟨b8, hb8⟩ : ∃ b, b = up 0 n1 := ⟨_, rfl⟩
 obtain ⟨S2, hS2⟩ : ∃ S2, S2 = ((S1.new fun t => .cells t [.int .i64 0, ofL [], .snil, .snil, .snil, .snil]).wr (up 0 n1) S1.t fun u => .cells u [.int .i64 M.kind, ofL M.name, mn, mk, tv, sv]) := ⟨_, rfl⟩
 have g2 : Gr S1 S2 := by rw [hS2]; exact (Gr.refl w1).nw hn1 (good_cells _) (good_cells _)
 obtain ⟨t8, r8⟩ : ∃ t, S2.row b8 = .cells t [.int .i64 M.kind, ofL M.name, mn, mk, tv, sv] := ⟨_, by rw [hS2, hb8]; simp only [XZ, simprocAttr, hn1]; rfl⟩
 rw [← hS2, ← hb8]
 clear hS2
 have hs2 := hs0.imp fun r p e => ⟨p, g2.same r e⟩
 rw [wC_seq]; simp only [XY, simprocAttr, r8]
 refine wCall_marked (rcheckC (wf_low g2.wf S2.t) (hs2.low S2.t)) ?_
 rintro _ S3 g3 rfl
 have gg := (g0.trans gs).trans (g2.trans g3)
 have r60' := r6
 have r6 := ((gs.trans g2).trans g3).cells r6
 obtain ⟨R, hR⟩ : ∃ R, R = refS sc := ⟨_, rfl⟩
 rw [← hR]
 have fin : Gr st (S3.wr b6 t6 fun u => .cells u [.int .i64 M.kind, ofL M.name, mn, mk, tv, sv]) ∧ SchC (fun r => st.row r = .none) (S3.wr b6 t6 fun u => .cells u [.int .i64 M.kind, ofL M.name, mn, mk, tv, sv]) [.int .i64 M.kind, ofL M.name, mn, mk, tv, sv] sc := by
  refine ⟨gg.wr n6 (ne_cells r6) (by rw [r6]; rfl) (good_cells _), ?_⟩
  have r60 : S0.row b6 ≠ .none := fun e => by
   have := (gs.trans g2).trans g3
   exact (ne_cells r60') e
  exact hs0.imp fun r p e => ⟨Ch.fresh (Ch.of (fun _ => False) g0) p, by rw [row_wr_ne _ _ _ fun k => r60 (by rw [← k]; exact p), g3.same r (by rw [g2.same r e]; exact e), g2.same r e]⟩
 by_cases h0 : R = 0
 ·simp only [XZ, simprocAttr, h0, r6, d1, d2, d3, d4, d5.1, d5.2, d6.1, d6.2, apartAll_nil]
  exact ⟨fin.1, _, rfl, fin.2⟩
 ·simp only [XZ, simprocAttr, h0, r6, d1, d2, d3, d4, d5.1, d5.2, d6.1, d6.2, apartAll_nil]
  exact ⟨fin.1, _, rfl, fin.2⟩
def openZS (tb : Tb) (z : Int) : Nat × Bool := if z < 0 then (0, false) else openS tb (tb.nodes.length + 1) z.toNat
set_option maxHeartbeats 1000000 in
theorem openI {W F : Pt → Prop} {st : St} {rt : Pt} {tb : Tb} {id : Int} (hw : WF st) (hT : Tab W F st rt tb) :
  Does (tabT tabD) n_cons_Table_Open [.ptr rt 0, .int .i64 id] st fun v st' => v = .tup [.int .i64 ((openZS tb id).1 : Nat), .bool (openZS tb id).2] ∧ st = st' := by
 refine does_fn at_cons_Table_Open rfl ?_
 obtain ⟨lv, ra, rn, rs, es, sv, hT⟩ := hT
 obtain ⟨t, c⟩ := hT.cell
 have hadd : IntKind.i64.wrap ((tb.nodes.length : Int) + 1) = ((tb.nodes.length + 1 : Nat) : Int) := by have := hT.few; rw [i64_in (by omega) (by omega)]; rfl
 simp only [cf_cons_Table_Open, XZ, simprocAttr, c, hT.l.len, hadd]
 obtain ⟨K, hK⟩ : ∃ K : V → St → Prop, ∀ v S, K v S ↔ (v = .tup [.int .i64 ((openZS tb id).1 : Nat), .bool (openZS tb id).2] ∧ st = S) := ⟨_, fun _ _ => Iff.rfl⟩
 simp only [← hK]
 obtain ⟨L, hL⟩ : ∃ L : Nat → Fr → St → Prop, ∀ j fr S, L j fr S ↔ ∃ (i : Nat) (z : Int), S = st ∧ j + i = tb.nodes.length + 1 ∧ fr 0 = .ptr rt 0 ∧ fr 1 = .int .i64 z ∧ fr 13 = .int .i64 ((tb.nodes.length + 1 : Nat) : Int) ∧ fr 14 = .int .i64 i ∧ openZS tb id = if z < 0 then (0, false) else openS tb (tb.nodes.length + 1 - i) z.toNat := ⟨_, fun _ _ _ => Iff.rfl⟩
 have := hT.few
 refine wC_loop L (tb.nodes.length + 1) (by omega) ((hL _ _ _).2 ⟨0, id, rfl, by omega, by simp only [XZ, simprocAttr], by simp only [XZ, simprocAttr], by simp only [XZ, simprocAttr], by simp only [XZ, simprocAttr] <;> rfl, rfl⟩) ?_
 intro j fr S hLj
 obtain ⟨i, z, rfl, hj, f0, f1, f13, f14, hrec⟩ := (hL _ _ _).1 hLj
 by_cases hi : i < tb.nodes.length + 1
 ·have hi' : (i : Int) < ((tb.nodes.length + 1 : Nat) : Int) := by omega
  by_cases z0 : z < 0
  ·simp only [XZ, simprocAttr, f0, f1, f13, f14, hi', z0]
   rw [hK, hrec, if_pos z0]; exact ⟨rfl, rfl⟩
  obtain ⟨a, rfl⟩ : ∃ a : Nat, z = a := ⟨z.toNat, by omega⟩
  rw [if_neg (by omega), show tb.nodes.length + 1 - i = (tb.nodes.length - i) + 1 by omega] at hrec
  simp only [Int.toNat_natCast] at hrec
  by_cases z1 : tb.nodes.length ≤ a
  ·have z1' : (tb.nodes.length : Int) ≤ (a : Int) := by omega
   rw [openS_none z1] at hrec
   simp only [XZ, simprocAttr, f0, f1, f13, f14, hi', z0, c, hT.l.len, z1']
   rw [hK, hrec]; exact ⟨rfl, rfl⟩
  have z1' : ¬ (tb.nodes.length : Int) ≤ (a : Int) := by omega
  have ha : a < tb.nodes.length := by omega
  have hie : a < es.length := by rw [hT.len]; exact ha
  obtain ⟨q, qo, a1, a2, a3, a4, a5, a6⟩ := hT.elem hie
  have hnd := hT.nd a hie ha
  have E0 := a6 0
  have E1 := a6 1
  obtain ⟨E, hE⟩ : ∃ E, E = es[a] := ⟨_, rfl⟩
  simp only [← hE] at hnd E0 E1
  obtain ⟨nv, kv, rfl, h1, h2⟩ := hnd
  have E0 := E0 (by simp)
  have E1 := E1 (by simp)
  simp only [List.getElem_cons_zero, List.getElem_cons_succ, Nat.add_zero] at E0 E1
  by_cases k9 : tb.nodes[a].kind = 9
  ·have k9' : (tb.nodes[a].kind = 9) = True := eq_true k9
   have hlk := lookup_at (e := .one .s) hT.named (.int .i64 0) true tb.nodes[a].name (str_heq _ _) rfl
   rw [at_find] at hlk
   have hadd1 : IntKind.i64.wrap ((i : Int) + 1) = ((i + 1 : Nat) : Int) := by rw [i64_in (by omega) (by omega)]; rfl
   have hdef : defI tb tb.nodes[a].name = (tb.named.find? fun p => tb.nodes[a].name = p.1).map (·.2) := rfl
   rw [← hdef] at hlk
   cases hd : defI tb tb.nodes[a].name with
   | none =>
     rw [openS_nodef ha k9 hd] at hrec
     rw [hd] at hlk
     simp only [Option.map_none, ansL, if_true] at hlk
     simp only [XZ, simprocAttr, f0, f1, f13, f14, hi', z0, c, hT.l.len, z1', a1, E0, E1, k9', hlk, hadd1]
     exact ⟨tb.nodes.length + 1 - (i + 1), by omega, (hL _ _ _).2 ⟨i + 1, -1, rfl, by omega, by simp only [XZ, simprocAttr, f0], by simp only [XZ, simprocAttr], by simp only [XZ, simprocAttr, f13], by simp only [XZ, simprocAttr], by rw [hrec, if_pos (by omega)]⟩⟩
   | some b =>
     rw [openS_def ha k9 hd] at hrec
     rw [hd] at hlk
     simp only [Option.map_some, ansL, if_true] at hlk
     simp only [XZ, simprocAttr, f0, f1, f13, f14, hi', z0, c, hT.l.len, z1', a1, E0, E1, k9', hlk, hadd1]
     exact ⟨tb.nodes.length + 1 - (i + 1), by omega, (hL _ _ _).2 ⟨i + 1, b, rfl, by omega, by simp only [XZ, simprocAttr, f0], by simp only [XZ, simprocAttr], by simp only [XZ, simprocAttr, f13], by simp only [XZ, simprocAttr], by rw [hrec, if_neg (by omega)]; congr 1; omega⟩⟩
  ·have k9' : (tb.nodes[a].kind = 9) = False := eq_false k9
   rw [openS_self ha k9] at hrec
   simp only [XZ, simprocAttr, f0, f1, f13, f14, hi', z0, c, hT.l.len, z1', a1, E0, E1, k9']
   rw [hK, hrec]; exact ⟨rfl, rfl⟩
 ·have hi' : ¬ (i : Int) < ((tb.nodes.length + 1 : Nat) : Int) := by omega
  have hie : i = tb.nodes.length + 1 := by omega
  simp only [XZ, simprocAttr, f0, f1, f13, f14, hi']
  rw [hK, hrec, hie, Nat.sub_self]
  refine ⟨?_, rfl⟩
  split <;> rfl
theorem baseX {W : Pt → Prop} {st : St} {rt : Pt} {tb : Tb} (k : Int) (hT : TabX st W rt tb) :
  Does (tabT tabD) n_cons_Table_Base [.ptr rt 0, .int .i64 k] st fun v S => ∃ W', TabX S W' rt (layS tb ⟨k, [], [], []⟩).1 ∧ Kept st W S W' ∧ v = .tup [.int .i64 ((layS tb ⟨k, [], [], []⟩).2.1 : Nat), .int .i64 (layS tb ⟨k, [], [], []⟩).2.2] := by
 obtain ⟨hw, F, hT⟩ := hT
 refine does_fn at_cons_Table_Base rfl ?_
 simp only [cf_cons_Table_Base, XZ, simprocAttr]
 refine wCall_plain (lay (P := fun _ => True) (nd := ⟨k, [], [], []⟩) hw hT ⟨.snil, .snil, rfl, SlAt.nil _ _ _, SlAt.nil _ _ _⟩ ⟨Nat.zero_le _, Nat.zero_le _⟩) ?_
 rintro _ S2 ⟨c2, ⟨W2, F2, b1, b2, b3, T2⟩, rfl⟩
 simp only [XZ, simprocAttr]
 exact ⟨W2, ⟨c2.wf, F2, T2⟩, Kept.ch c2 b2⟩
theorem openX {W : Pt → Prop} {st : St} {rt : Pt} {tb : Tb} {id : Int} (hT : TabX st W rt tb) :
  Does (tabT tabD) n_cons_Table_Open [.ptr rt 0, .int .i64 id] st fun v S => v = .tup [.int .i64 ((openZS tb id).1 : Nat), .bool (openZS tb id).2] ∧ st = S := by
 obtain ⟨hw, F, hT⟩ := hT
 exact openI hw hT
theorem nodeN {W : Pt → Prop} {st : St} {rt : Pt} {tb : Tb} {id : Int} (hT : TabX st W rt tb) (hi : id < 0 ∨ (tb.nodes.length : Int) ≤ id) :
  Does (tabT tabD) n_cons_Table_Node [.ptr rt 0, .int .i64 id] st fun v S => TabX S W rt tb ∧ Gr st S ∧ v = .tup [.agg [.int .i64 0, ofL [], .snil, .snil], .bool false] := by
 have hT0 := hT
 obtain ⟨hw, F, hT⟩ := hT
 refine does_fn at_cons_Table_Node rfl ?_
 obtain ⟨lv, ra, rn, rs, es, sv, hT⟩ := hT
 obtain ⟨n, hn0⟩ : ∃ n, st.nx = up 0 n := ⟨_, up0 _⟩
 obtain ⟨t, c⟩ := hT.cell
 have ort := fun k => nes (ne_up hw hn0 hT.rt_ne k)
 have g : Gr st ((st.new fun t => .cells t [.int .i64 0, ofL [], .snil, .snil]).wr (up 0 n) st.t fun u => .cells u [.int .i64 0, ofL [], .snil, .snil]) := (Gr.refl hw).nw hn0 (good_cells _) (good_cells _)
 by_cases i0 : id < 0
 ·simp only [cf_cons_Table_Node, XZ, simprocAttr, hn0, ort, c, hT.l.len, i0]
  exact ⟨hT0.gr g, g⟩
 ·have i1 : (tb.nodes.length : Int) ≤ id := by omega
  simp only [cf_cons_Table_Node, XZ, simprocAttr, hn0, ort, c, hT.l.len, i0, i1]
  exact ⟨hT0.gr g, g⟩
theorem typeN {W : Pt → Prop} {st : St} {rt : Pt} {tb : Tb} {id : Int} (hT : TabX st W rt tb) (hi : id < 0 ∨ (tb.nodes.length : Int) ≤ id) :
  Does (tabT tabD) n_cons_Table_Type [.ptr rt 0, .int .i64 id] st fun v S => Gr st S ∧ v = .agg [.int .i64 0, ofL [], .snil, .snil] := by
 refine does_fn at_cons_Table_Type rfl ?_
 obtain ⟨n0, hn0⟩ : ∃ n, st.nx = up 0 n := ⟨_, up0 _⟩
 obtain ⟨b4, hb4⟩ : ∃ b, b = up 0 n0 := ⟨_, rfl⟩
 have hw := hT.1
 have e4 : st.row b4 = .none := by rw [hb4]; exact nx0 hw hn0 0
 simp only [cf_cons_Table_Type, XY, simprocAttr]
 rw [wC_seq]; simp only [XY, simprocAttr, hn0]
 rw [← hb4]
 obtain ⟨S0, hS0⟩ : ∃ S0, S0 = (st.new fun t => .cells t [.int .i64 0, ofL [], .snil, .snil]) := ⟨_, rfl⟩
 have g0 : Gr st S0 := by rw [hS0]; exact Gr.new hw (good_cells _)
 obtain ⟨t4, r4⟩ : ∃ t, S0.row b4 = .cells t [.int .i64 0, ofL [], .snil, .snil] := ⟨_, by rw [hS0, hb4]; simp only [XZ, simprocAttr, hn0]; rfl⟩
 rw [← hS0]
 clear hS0
 rw [wC_seq]; simp only [XY, simprocAttr]
 refine wCall_plain (nodeN (hT.gr g0) hi) ?_
 rintro _ S1 ⟨T1, g1, rfl⟩
 obtain ⟨n1, hn1⟩ : ∃ n, S1.nx = up 0 n := ⟨_, up0 _⟩
 have r4 := g1.cells r4
 have w1 := g1.wf
 simp only [XY, simprocAttr, hn1]
 obtain ⟨S2, hS2⟩ : ∃ S2, S2 = ((S1.new fun t => .cells t [.int .i64 0, ofL [], .snil, .snil]).wr (up 0 n1) S1.t fun u => .cells u [.int .i64 0, ofL [], .snil, .snil]) := ⟨_, rfl⟩
 have g2 : Gr S1 S2 := by rw [hS2]; exact (Gr.refl w1).nw hn1 (good_cells _) (good_cells _)
 rw [← hS2]
 have r4 := g2.cells r4
 simp only [XZ, simprocAttr, r4]
 exact ((g0.trans g1).trans g2).wr e4 (ne_cells r4) (by rw [r4]; rfl) (good_cells _)
set_option maxHeartbeats 2000000 in
theorem sameC (m : Nat) : ∀ (X : Ty), tsz X < m → fitT X = true → ∀ {P Q : Pt → Prop} {st : St} {e1 e2 : List V}, WF st → TyC P st e1 X → TyC Q st e2 X →
  Does (tabT tabD) n_sprueref3_Same [.agg e1, .agg e2] st fun v S => Gr st S ∧ v = .bool true := by
 induction m with
 | zero => intro X h; exact absurd h (Nat.not_lt_zero _)
 | succ m ih =>
 intro X hX hf P Q st e1 e2 hw h1 h2
 obtain ⟨k, n, ns, ks⟩ := X
 obtain ⟨f1, f2, f3⟩ := fitT_mk hf
 refine does_fn at_sprueref3_Same rfl ?_
 obtain ⟨n0, hn0⟩ : ∃ n, st.nx = up 0 n := ⟨_, up0 _⟩
 obtain ⟨nv, kv, es, rfl, x1, x2, x3, x4⟩ := h1.inv'
 obtain ⟨mv, lv, fs, rfl, y1, y2, y3, y4⟩ := h2.inv'
 have c1 := x1.cells
 have c2 := x1.sc
 have c3 := x2.cells
 have c4 := x2.sc
 have d1 := y1.cells
 have d2 := y1.sc
 have d3 := y2.cells
 have d4 := y2.sc
 have xl1 := x1.len
 have xl2 := x2.len
 have yl1 := y1.len
 have yl2 := y2.len
 rw [strs_len] at xl1 yl1
 rw [x3] at xl2
 rw [y3] at yl2
 obtain ⟨p2, hp2⟩ : ∃ b, b = up 0 n0 := ⟨_, rfl⟩
 obtain ⟨p3, hp3⟩ : ∃ b, b = up 1 n0 := ⟨_, rfl⟩
 simp only [cf_sprueref3_Same, XY, simprocAttr]
 rw [wC_seq]; simp only [XY, simprocAttr, hn0, c1, c2, c3, c4, d1, d2, d3, d4]
 rw [← hp2, ← hp3]
 obtain ⟨S0, hS0⟩ : ∃ S0, S0 = ((st.new fun t => .cells t [.int .i64 k, ofL n, nv, kv]).new fun t => .cells t [.int .i64 k, ofL n, mv, lv]) := ⟨_, rfl⟩
 have G0 : Gr st S0 := by rw [hS0]; exact (Gr.new hw (good_cells _)).nn (good_cells _)
 obtain ⟨t2, r2⟩ : ∃ t, S0.row p2 = .cells t [.int .i64 k, ofL n, nv, kv] := ⟨_, by rw [hS0, hp2]; simp only [XZ, simprocAttr, hn0]; rfl⟩
 obtain ⟨t3, r3⟩ : ∃ t, S0.row p3 = .cells t [.int .i64 k, ofL n, mv, lv] := ⟨_, by rw [hS0, hp3]; simp only [XZ, simprocAttr, hn0]; rfl⟩
 rw [← hS0]
 clear hS0
 rw [wC_seqj, wC_seq]; simp only [XY, simprocAttr, r2, r3, xl1, xl2, yl1, yl2]
 have x10 := x1.gr G0
 have y10 := y1.gr G0
 refine wC_cut (fun fr S => S = S0 ∧ fr 2 = .ptr p2 0 ∧ fr 3 = .ptr p3 0) ?_ ?_
 ·rw [wC_seq]; simp only [XY, simprocAttr]
  obtain ⟨L, hL⟩ : ∃ L : Nat → Fr → St → Prop, ∀ j fr S, L j fr S ↔ ∃ (i : Nat), j + i = ns.length ∧ fr 2 = .ptr p2 0 ∧ fr 3 = .ptr p3 0 ∧ fr 5 = .int .i64 i ∧ S = S0 := ⟨_, fun _ _ _ => Iff.rfl⟩
  refine wC_loop L ns.length (by omega) ((hL _ _ _).2 ⟨0, by omega, by simp only [XZ, simprocAttr], by simp only [XZ, simprocAttr], by simp only [XZ, simprocAttr] <;> rfl, rfl⟩) ?_
  intro j fr S hLj
  obtain ⟨i, hj, f2, f3, f5, rfl⟩ := (hL _ _ _).1 hLj
  by_cases hi : i < ns.length
  ·have hi' : (i : Int) < ns.length := by omega
   have hadd1 : IntKind.i64.wrap ((i : Int) + 1) = ((i + 1 : Nat) : Int) := by rw [i64_in (by omega) (by omega)]; rfl
   obtain ⟨r, q, a1, a2, a3, a4⟩ := nms_elem x10 hi
   obtain ⟨r', q', b1, b2, b3, b4⟩ := nms_elem y10 hi
   simp only [XZ, simprocAttr, f2, f3, f5, r2, r3, xl1, hi', a1, a4, b1, b4, hadd1, apartAll_nil]
   exact ⟨j - 1, by omega, (hL _ _ _).2 ⟨i + 1, by omega, by simp only [XZ, simprocAttr, f2], by simp only [XZ, simprocAttr, f3], by simp only [XZ, simprocAttr], rfl⟩⟩
  ·have hi' : ¬ (i : Int) < ns.length := by omega
   simp only [XZ, simprocAttr, f2, f3, f5, r2, r3, xl1, hi']
 rintro fr S ⟨rfl, f2, f3⟩
 refine wC_cut (fun fr S' => Gr S S') ?_ fun fr S' h => by simp only [XZ, simprocAttr]; exact G0.trans h
 rw [wC_seq]; simp only [XY, simprocAttr]
 obtain ⟨L, hL⟩ : ∃ L : Nat → Fr → St → Prop, ∀ j fr S', L j fr S' ↔ ∃ (i : Nat), j + i = ks.length ∧ fr 2 = .ptr p2 0 ∧ fr 3 = .ptr p3 0 ∧ fr 6 = .int .i64 i ∧ Gr S S' := ⟨_, fun _ _ _ => Iff.rfl⟩
 refine wC_loop L ks.length (by omega) ((hL _ _ _).2 ⟨0, by omega, by simp only [XZ, simprocAttr, f2], by simp only [XZ, simprocAttr, f3], by simp only [XZ, simprocAttr] <;> rfl, Gr.refl G0.wf⟩) ?_
 intro j fr S' hLj
 obtain ⟨i, hj, f2, f3, f6, g⟩ := (hL _ _ _).1 hLj
 have r2 := g.cells r2
 have r3 := g.cells r3
 by_cases hi : i < ks.length
 ·have hi' : (i : Int) < ks.length := by omega
  have hadd1 : IntKind.i64.wrap ((i : Int) + 1) = ((i + 1 : Nat) : Int) := by rw [i64_in (by omega) (by omega)]; rfl
  have hie : i < es.length := by omega
  have hif : i < fs.length := by omega
  obtain ⟨r, q, a1, a2, a3, a4, a5⟩ := ((x2.gr G0).gr g).elem hie
  obtain ⟨r', q', b1, b2, b3, b4, b5⟩ := ((y2.gr G0).gr g).elem hif
  rw [wC_seqj, wC_seq]; simp only [XY, simprocAttr, f2, f6, r2, xl2, hi']
  rw [wC_seqj]; simp only [XY, simprocAttr]
  rw [wC_seq]; simp only [XY, simprocAttr, f2, f3, f6, r2, r3, a1, a4, b1, b4]
  refine wCall_marked (ih ks[i] (by have := tsz_kid (k := k) (n := n) (ns := ns) hi; omega) (fitTs_get (by assumption) i hi) (wf_low g.wf _) (((x4 i hie hi).gr (G0.trans g)).low _) (((y4 i hif hi).gr (G0.trans g)).low _)) ?_
  rintro _ Se ge rfl
  simp only [XZ, simprocAttr, f6, hadd1, apartAll_nil]
  exact ⟨j - 1, by omega, (hL _ _ _).2 ⟨i + 1, by omega, by simp only [XZ, simprocAttr, f2], by simp only [XZ, simprocAttr, f3], by simp only [XZ, simprocAttr], g.trans ge⟩⟩
 ·have hi' : ¬ (i : Int) < ks.length := by omega
  simp only [XZ, simprocAttr, f2, f6, r2, xl2, hi']
  exact g
theorem layS_bad {tb : Tb} {n : Nd} (h : (layS tb n).2.2 = 20) : layS tb n = (tb, 0, 20) := by
 unfold layS at h ⊢
 split at h
 ·cases h
 split at h
 ·rename_i c; rw [if_pos c]
 ·cases h
set_option maxHeartbeats 4000000 in
theorem basesL (st : St) (hw : WF st) (e1 : List V) (q1 : Rw) (h1 : RwC (fun _ => True) st e1 q1) (v2 : V) (ts : List Rw) (h2 : RwsAt (fun _ => True) st v2 ts) (id : Int) (i1 : -9223372036854775808 ≤ id) (i2 : id < 9223372036854775808) :
  Does (tabT tabD) n_spruelaw5_ConsBases [.agg e1, v2, .int .i64 id] st fun v' _ => v' = .bool true := by
 refine does_fn at_spruelaw5_ConsBases rfl ?_
 obtain ⟨n0, hn0⟩ : ∃ n, st.nx = up 0 n := ⟨_, up0 _⟩
 have g1 := h1
 obtain ⟨nv1, kv1, es1, rfl, _, _, _, a1, a2, _, _, _⟩ := h1.inv
 have c1 := a1.cells
 have s1 := a1.sc
 have c2 := a2.cells
 have s2 := a2.sc
 have h3 : RwsAt (fun _ => True) st .snil [] := ⟨[], SlAt.nil _ _ _, rfl, by decide, fun i h => absurd h (by simp)⟩
 obtain ⟨l2, s3, c3, m2⟩ := h2.len
 obtain ⟨l3, s4, c4, m3⟩ := h3.len
 obtain ⟨p3, hp3⟩ : ∃ b, b = up 0 n0 := ⟨_, rfl⟩
 simp only [cf_spruelaw5_ConsBases, XY, simprocAttr]
 rw [wC_seq]; simp only [XY, simprocAttr, hn0, c1, s1, c2, s2]
 rw [← hp3]
 obtain ⟨S0, hS0⟩ : ∃ S0, S0 = (st.new fun t => .cells t [.int .i64 q1.kind, .int .i64 q1.n, nv1, kv1]) := ⟨_, rfl⟩
 have G0 : Gr st S0 := by rw [hS0]; exact Gr.new hw (good_cells _)
 obtain ⟨t0, r0⟩ : ∃ t, S0.row p3 = .cells t [.int .i64 q1.kind, .int .i64 q1.n, nv1, kv1] := ⟨_, by rw [hS0, hp3]; simp only [XZ, simprocAttr, hn0]; rfl⟩
 rw [← hS0]
 clear hS0
 rw [wC_seqj, wC_seq]; simp only [XY, simprocAttr]
 refine wCall_plain (known5 S0 G0.wf) ?_
 rintro _ S1 ⟨gk, rfl⟩
 have r1 := gk.cells r0
 have G1 := G0.trans gk
 simp only [XY, simprocAttr]
 rw [wC_seqj, wC_seq]; simp only [XY, simprocAttr, r1]
 refine wCall_plain (fewAllC G1.wf (g1.gr G1) (h2.gr G1) (h3.gr G1)) ?_
 rintro _ S2 ⟨G2, fb, rfl⟩
 cases fb with
 | false => simp only [XZ, simprocAttr]
 | true =>
 have r2 := G2.cells r1
 have G2 := G1.trans G2
 simp only [XY, simprocAttr]
 rw [wC_seq]; simp only [XY, simprocAttr, r2]
 refine wCall_plain (goodC G2.wf (g1.gr G2) (h2.gr G2) (h3.gr G2)) ?_
 rintro _ S3 ⟨G3, e, rfl, hs⟩
 obtain ⟨sc, hsc⟩ : ∃ s, s = schemaS q1 ts [] := ⟨_, rfl⟩
 rw [← hsc] at hs ⊢
 have hs0 := hs
 obtain ⟨c, tv, sv, rfl, k1, k2, k3⟩ := hs
 obtain ⟨M, hM⟩ : ∃ M, M = sc.main := ⟨_, rfl⟩
 rw [← hM] at k1
 obtain ⟨mn, mk, xe, rfl, u1, u2, u3, u4⟩ := k1.inv
 have d1 := u1.cells
 have d2 := u1.sc
 have d3 := u2.cells
 have d4 := u2.sc
 have d5 := k2.sc
 have d6 := k3.sc
 have w3 := G3.wf
 obtain ⟨n3, hn3⟩ : ∃ n, S3.nx = up 0 n := ⟨_, up0 _⟩
 simp only [List.cons_append, List.nil_append] at hs0 ⊢
 obtain ⟨okb, hok⟩ : ∃ b, b = decide (refS sc = 0) := ⟨_, rfl⟩
 rw [← hok]
 simp only [XY, simprocAttr, hn3, d1, d2, d3, d4, d5.1, d5.2, d6.1, d6.2]
 obtain ⟨ps, hps⟩ : ∃ b, b = up 0 n3 := ⟨_, rfl⟩
 obtain ⟨S4, hS4⟩ : ∃ S4, S4 = ((S3.new fun t => .cells t [.int .i64 0, ofL [], .snil, .snil, .snil, .snil]).wr (up 0 n3) S3.t fun u => .cells u [.int .i64 M.kind, ofL M.name, mn, mk, tv, sv]) := ⟨_, rfl⟩
 have G4 : Gr S3 S4 := by rw [hS4]; exact (Gr.refl w3).nw hn3 (good_cells _) (good_cells _)
 obtain ⟨t4, r4⟩ : ∃ t, S4.row ps = .cells t [.int .i64 M.kind, ofL M.name, mn, mk, tv, sv] := ⟨_, by rw [hS4, hps]; simp only [XZ, simprocAttr, hn3]; rfl⟩
 rw [← hS4, ← hps]
 clear hS4
 have hs4 := hs0.imp (Q := fun _ => True) fun r p e => ⟨trivial, G4.same r e⟩
 rw [wC_seq]; simp only [XY, simprocAttr, r4]
 refine wCall_plain (newC G4.wf hs4) ?_
 rintro v S5 ⟨G5, hp⟩
 cases hnw : newS sc with
 | mk o er =>
 rw [hnw] at hp
 cases o with
 | none =>
   have hp : v = .tup [.pnil, .int .i64 er] := hp
   have he := new_none' hnw
   rw [hp]
   cases okb with
   | false => simp only [XZ, simprocAttr]
   | true => simp only [XZ, simprocAttr, he]
 | some tb =>
 obtain ⟨rfl, hO⟩ := new_of hnw
 obtain ⟨rt, W, rfl, T5, K5⟩ := hp
 simp only [XY, simprocAttr]
 cases okb with
 | false => simp only [XZ, simprocAttr]
 | true =>
 rw [wC_seqj, wC_seq]; simp only [XY, simprocAttr]
 have r5 := K5.row r4 fun h => h
 have hs5 := hs4.imp (Q := fun r => ¬ W r) (st' := S5) fun r p e => ⟨(K5 r e fun h => h).2, (K5 r e fun h => h).1⟩
 have hfew : tb.nodes.length ≤ 120 := by
  obtain ⟨_, _, _, _, _, _, _, _, hT⟩ := T5
  exact hT.few
 have hml : 0 < tb.nodes.length := by
  obtain ⟨ids, a1, _⟩ := look_node hO.main
  have := (List.getElem?_eq_some_iff.1 a1).1
  omega
 refine wC_cut (fun fr S => ∃ W' tb', fr 2 = .int .i64 id ∧ fr 9 = .ptr rt 0 ∧ TabX S W' rt tb' ∧ OfSch sc tb') ?_ ?_
 ·rw [wC_seq]; simp only [XY, simprocAttr]
  obtain ⟨L, hL⟩ : ∃ L : Nat → Fr → St → Prop, ∀ j fr S, L j fr S ↔ ∃ (k : Nat) (W' : Pt → Prop) (tb' : Tb), j + k = 4 ∧ 1 ≤ k ∧ fr 2 = .int .i64 id ∧ fr 9 = .ptr rt 0 ∧ fr 11 = .int .i64 k ∧ TabX S W' rt tb' ∧ OfSch sc tb' := ⟨_, fun _ _ _ => Iff.rfl⟩
  refine wC_loop L 3 (by omega) ((hL _ _ _).2 ⟨1, W, tb, by omega, by omega, by simp only [XZ, simprocAttr], by simp only [XZ, simprocAttr], by simp only [XZ, simprocAttr] <;> rfl, T5, hO⟩) ?_
  intro j fr S hLj
  obtain ⟨k, W', tb', hj, hk1, f2, f9, f11, T, hO'⟩ := (hL _ _ _).1 hLj
  have hml : 0 < tb'.nodes.length := by
   obtain ⟨ids, a1, _⟩ := look_node hO'.main
   have := (List.getElem?_eq_some_iff.1 a1).1
   omega
  by_cases hk : k ≤ 3
  ·have hk' : (k : Int) ≤ 3 := by omega
   have hadd1 : IntKind.i64.wrap ((k : Int) + 1) = ((k + 1 : Nat) : Int) := by rw [i64_in (by omega) (by omega)]; rfl
   rw [wC_seqj, wC_seq]; simp only [XY, simprocAttr, f11, hk']
   rw [wC_seqj]; simp only [XY, simprocAttr]
   rw [wC_seq]; simp only [XY, simprocAttr, f9, f11]
   refine wCall_plain (baseX (k : Int) T) ?_
   rintro _ S1 ⟨W1, T1, K1, rfl⟩
   obtain ⟨nd, hnd⟩ : ∃ nd : Nd, nd = ⟨(k : Int), [], [], []⟩ := ⟨_, rfl⟩
   rw [← hnd] at T1 ⊢
   simp only [XY, simprocAttr]
   rw [wC_seq]; simp only [XY, simprocAttr, f9]
   refine wCall_plain (lenX T1) ?_
   rintro _ _ ⟨rfl, rfl⟩
   simp only [XY, simprocAttr]
   rw [wC_seq]; simp only [XY, simprocAttr, f9, f11]
   refine wCall_plain (baseX (k : Int) T1) ?_
   rintro _ S2 ⟨W2, T2, K2, rfl⟩
   rw [← hnd] at T2 ⊢
   simp only [XY, simprocAttr]
   rw [wC_seq]; simp only [XY, simprocAttr, f9]
   rcases layS_err tb' nd with he | he
   rotate_left
   ·have hb := layS_bad he
    simp only [hb] at T1 T2 ⊢
    refine wCall_plain (nodeX T2 (id := 0) hml) ?_
    rintro _ Sc ⟨Tc, gc, e', rfl, nvc, kvc, rfl, hc1, hc2⟩
    have q1 := hc1.cells
    have q2 := hc1.sc
    have q3 := hc2.cells
    have q4 := hc2.sc
    obtain ⟨nC, hnC⟩ : ∃ n, Sc.nx = up 0 n := ⟨_, up0 _⟩
    simp only [XZ, simprocAttr, hnC, q1, q2, q3, q4]
   ·obtain ⟨r0, p1, p2, _⟩ := layS_ok he
    have hO1 : OfSch sc (layS tb' nd).1 := by
     rw [hnd] at he ⊢
     exact hO'.lay (by omega) he
    have hag := layS_again he
    obtain ⟨_, hget⟩ := idx_get p2
    obtain ⟨D, hD⟩ : ∃ D, D = layS tb' nd := ⟨_, rfl⟩
    rw [← hD] at T1 T2 he hO1 hag hget p2 ⊢
    rw [hag] at T2 ⊢
    rw [Nat.sub_zero] at hget
    obtain ⟨hlt, hne⟩ := List.getElem?_eq_some_iff.1 hget
    refine wCall_plain (nodeX T2 hlt) ?_
    rintro _ Sc ⟨Tc, gc, e', rfl, nvc, kvc, rfl, hc1, hc2⟩
    rw [hne, hnd]
    have q1 := hc1.cells
    have q2 := hc1.sc
    have q3 := hc2.cells
    have q4 := hc2.sc
    obtain ⟨nC, hnC⟩ : ∃ n, Sc.nx = up 0 n := ⟨_, up0 _⟩
    simp only [XY, simprocAttr, hnC, q1, q2, q3, q4]
    obtain ⟨pc, hpc⟩ : ∃ b, b = up 0 nC := ⟨_, rfl⟩
    obtain ⟨Sd, hSd⟩ : ∃ Sb, Sb = ((Sc.new fun t => .cells t [.int .i64 0, ofL [], .snil, .snil]).wr (up 0 nC) Sc.t fun u => .cells u [.int .i64 (k : Int), ofL [], nvc, kvc]) := ⟨_, rfl⟩
    have gd : Gr Sc Sd := by rw [hSd]; exact (Gr.refl Tc.1).nw hnC (good_cells _) (good_cells _)
    obtain ⟨td1, rd⟩ : ∃ t, Sd.row pc = .cells t [.int .i64 (k : Int), ofL [], nvc, kvc] := ⟨_, by rw [hSd, hpc]; simp only [XZ, simprocAttr, hnC]; rfl⟩
    rw [← hSd, ← hpc]
    clear hSd
    have Td := Tc.gr gd
    rw [wC_seqj, wC_seq]; simp only [XY, simprocAttr, he]
    rw [wC_seq]; simp only [XY, simprocAttr, f9]
    refine wCall_plain (lenX Td) ?_
    rintro _ _ ⟨rfl, rfl⟩
    simp only [XZ, simprocAttr, f11, rd, hadd1]
    exact ⟨j - 1, by omega, (hL _ _ _).2 ⟨k + 1, W2, D.1, by omega, by omega, by simp only [XZ, simprocAttr, f2], by simp only [XZ, simprocAttr, f9], by simp only [XZ, simprocAttr], Td, hO1⟩⟩
  ·have hk' : ¬ (k : Int) ≤ 3 := by omega
   simp only [XZ, simprocAttr, f11, hk']
   exact ⟨W', tb', f2, f9, T, hO'⟩
 rintro fr S6 ⟨W6, tb6, f2, f9, T6, hO6⟩
 by_cases hv : id < 0 ∨ (tb6.nodes.length : Int) ≤ id
 ·rw [wC_seq]; simp only [XY, simprocAttr, f2, f9]
  refine wCall_plain (nodeN T6 hv) ?_
  rintro _ Sa ⟨Ta, ga, rfl⟩
  obtain ⟨nA, hnA⟩ : ∃ n, Sa.nx = up 0 n := ⟨_, up0 _⟩
  simp only [XY, simprocAttr, hnA]
  obtain ⟨Sb, hSb⟩ : ∃ Sb, Sb = ((Sa.new fun t => .cells t [.int .i64 0, ofL [], .snil, .snil]).wr (up 0 nA) Sa.t fun u => .cells u [.int .i64 0, ofL [], .snil, .snil]) := ⟨_, rfl⟩
  have gb : Gr Sa Sb := by rw [hSb]; exact (Gr.refl Ta.1).nw hnA (good_cells _) (good_cells _)
  rw [← hSb]
  have Tb := Ta.gr gb
  rw [wC_seq]; simp only [XY, simprocAttr, f2, f9]
  refine wCall_plain (openX Tb) ?_
  rintro _ _ ⟨rfl, rfl⟩
  have ho : openZS tb6 id = (0, false) := by
   unfold openZS
   rcases hv with hv | hv
   ·rw [if_pos hv]
   ·rw [if_neg (by omega), openS_none (by omega)]
  rw [ho]
  simp only [XY, simprocAttr]
  have z : ∀ st : St, TyC (fun _ => False) st [.int .i64 0, ofL [], .snil, .snil] (.mk 0 [] [] []) := fun st => .mk (es := []) (SlAt.nil _ _ _) (SlAt.nil _ _ _) rfl fun i h => absurd h (by simp)
  by_cases i0 : id < 0
  ·have i1 : ¬ (0 : Int) ≤ id := by omega
   rw [wC_seqj, wC_seq]; simp only [XY, simprocAttr, f2, i1]
   rw [wC_seqj, wC_seq]; simp only [XY, simprocAttr]
   rw [wC_seq]; simp only [XY, simprocAttr, f2, f9]
   refine wCall_plain (typeN Tb hv) ?_
   rintro _ Sc ⟨gc, rfl⟩
   simp only [XY, simprocAttr]
   refine wCall_plain (sameC _ (.mk 0 [] [] []) (Nat.lt_succ_self _) rfl gc.wf (z _) (z _)) ?_
   rintro _ Sd ⟨gd, rfl⟩
   simp only [XZ, simprocAttr]
  ·have i1 : (0 : Int) ≤ id := by omega
   have i2 : ¬ id < (tb6.nodes.length : Int) := by omega
   rw [wC_seqj, wC_seq]; simp only [XY, simprocAttr, f2, f9, i1]
   refine wCall_plain (lenX Tb) ?_
   rintro _ _ ⟨rfl, rfl⟩
   simp only [XY, simprocAttr, i2]
   rw [wC_seqj, wC_seq]; simp only [XY, simprocAttr]
   rw [wC_seq]; simp only [XY, simprocAttr, f2, f9]
   refine wCall_plain (typeN Tb hv) ?_
   rintro _ Sc ⟨gc, rfl⟩
   simp only [XY, simprocAttr]
   refine wCall_plain (sameC _ (.mk 0 [] [] []) (Nat.lt_succ_self _) rfl gc.wf (z _) (z _)) ?_
   rintro _ Sd ⟨gd, rfl⟩
   simp only [XZ, simprocAttr]
 ·obtain ⟨a, rfl⟩ : ∃ a : Nat, id = a := ⟨id.toNat, by omega⟩
  have ha : a < tb6.nodes.length := by omega
  have i1 : (0 : Int) ≤ (a : Int) := by omega
  have i2 : (a : Int) < (tb6.nodes.length : Int) := by omega
  rw [wC_seq]; simp only [XY, simprocAttr, f2, f9]
  refine wCall_plain (nodeX T6 ha) ?_
  rintro _ Sa ⟨Ta, ga, e', rfl, nvc, kvc, rfl, hc1, hc2⟩
  have q1 := hc1.cells
  have q2 := hc1.sc
  have q3 := hc2.cells
  have q4 := hc2.sc
  obtain ⟨A, hA⟩ : ∃ A, A = tb6.nodes[a] := ⟨_, rfl⟩
  rw [← hA]
  obtain ⟨nA, hnA⟩ : ∃ n, Sa.nx = up 0 n := ⟨_, up0 _⟩
  simp only [XY, simprocAttr, hnA, q1, q2, q3, q4]
  obtain ⟨Sb, hSb⟩ : ∃ Sb, Sb = ((Sa.new fun t => .cells t [.int .i64 0, ofL [], .snil, .snil]).wr (up 0 nA) Sa.t fun u => .cells u [.int .i64 A.kind, ofL A.name, nvc, kvc]) := ⟨_, rfl⟩
  have gb : Gr Sa Sb := by rw [hSb]; exact (Gr.refl Ta.1).nw hnA (good_cells _) (good_cells _)
  rw [← hSb]
  have Tb := Ta.gr gb
  rw [wC_seq]; simp only [XY, simprocAttr, f2, f9]
  refine wCall_plain (openX Tb) ?_
  rintro _ _ ⟨rfl, rfl⟩
  obtain ⟨o, nd, h1, _⟩ := hO6.opens ha
  have ho : openZS tb6 (a : Int) = (o, true) := by
   unfold openZS
   rw [if_neg (by omega)]
   exact h1
  rw [ho]
  simp only [XY, simprocAttr]
  rw [wC_seqj, wC_seq]; simp only [XY, simprocAttr, f2, f9, i1]
  refine wCall_plain (lenX Tb) ?_
  rintro _ _ ⟨rfl, rfl⟩
  simp only [XZ, simprocAttr, i2]
end Go.Proofs.Ytbjfmnjnonnmeaa
