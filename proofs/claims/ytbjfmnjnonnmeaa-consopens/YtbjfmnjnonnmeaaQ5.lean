/- A schema that raw trees make, and whether the document takes it. A type opened. 'ConsOpens': what it answers. No condition. -/
import Derived.Test.YtbjfmnjnonnmeaaQ4
set_option linter.unusedVariables false
set_option linter.unusedSimpArgs false
namespace Go.Proofs.Ytbjfmnjnonnmeaa
open Eva Go.RowKit
set_option maxRecDepth 100000
set_option linter.unusedSimpArgs false
set_option linter.unusedVariables false
set_option maxHeartbeats 4000000 in
theorem goodC {P : Pt → Prop} {st : St} {e1 : List V} {q1 : Rw} {v2 v3 : V} {ts ss : List Rw} (hw : WF st) (h1 : RwC P st e1 q1) (h2 : RwsAt P st v2 ts) (h3 : RwsAt P st v3 ss) :
  Does (tabT tabD) n_spruelaw4_Good [.agg e1, v2, v3] st fun v S => Gr st S ∧ ∃ e, v = .tup [.agg e, .bool (decide (refS (schemaS q1 ts ss) = 0))] ∧ SchC (fun r => st.row r = .none) S e (schemaS q1 ts ss) := by
 refine does_fn at_spruelaw4_Good rfl ?_
 obtain ⟨n0, hn0⟩ : ∃ n, st.nx = up 0 n := ⟨_, up0 _⟩
 have g1 := h1
 obtain ⟨nv1, kv1, es1, rfl, _, _, _, a1, a2, _, _, _⟩ := h1.inv
 have c1 := a1.cells
 have s1 := a1.sc
 have c2 := a2.cells
 have s2 := a2.sc
 obtain ⟨l2, s3, c3, m2⟩ := h2.len
 obtain ⟨l3, s4, c4, m3⟩ := h3.len
 obtain ⟨b3, hb3⟩ : ∃ b, b = up 0 n0 := ⟨_, rfl⟩
 obtain ⟨b6, hb6⟩ : ∃ b, b = up 1 n0 := ⟨_, rfl⟩
 have n6 : st.row b6 = .none := by rw [hb6]; exact nx0 hw hn0 1
 simp only [cf_spruelaw4_Good, XY, simprocAttr]
 rw [wC_seq]; simp only [XY, simprocAttr, hn0, c1, s1, c2, s2]
 rw [← hb3, ← hb6]
 obtain ⟨S0, hS0⟩ : ∃ S0, S0 = ((st.new fun t => .cells t [.int .i64 q1.kind, .int .i64 q1.n, nv1, kv1]).new fun t => .cells t [.int .i64 0, ofL [], .snil, .snil, .snil, .snil]) := ⟨_, rfl⟩
 have g0 : Gr st S0 := by rw [hS0]; exact (Gr.new hw (good_cells _)).nn (good_cells _)
 obtain ⟨t3, r3⟩ : ∃ t, S0.row b3 = .cells t [.int .i64 q1.kind, .int .i64 q1.n, nv1, kv1] := ⟨_, by rw [hS0, hb3]; simp only [XZ, simprocAttr, hn0]; rfl⟩
 obtain ⟨t6, r6⟩ : ∃ t, S0.row b6 = .cells t [.int .i64 0, ofL [], .snil, .snil, .snil, .snil] := ⟨_, by rw [hS0, hb6]; simp only [XZ, simprocAttr, hn0]; rfl⟩
 rw [← hS0]
 clear hS0
 rw [wC_seq]; simp only [XY, simprocAttr, r3]
 refine wCall_plain (schemaC g0.wf (g1.gr g0) (h2.gr g0) (h3.gr g0)) ?_
 rintro _ S1 ⟨gs, e, rfl, hs⟩
 obtain ⟨sc, hsc⟩ : ∃ s, s = schemaS q1 ts ss := ⟨_, rfl⟩
 rw [← hsc] at hs ⊢
 have hs0 := hs
 obtain ⟨c, tv, sv, rfl, k1, k2, k3⟩ := hs
 obtain ⟨M, hM⟩ : ∃ M, M = sc.main := ⟨_, rfl⟩
 rw [← hM] at k1
 obtain ⟨mn, mk, xe, rfl, u1, u2, u3, u4⟩ := k1.inv
 have d1 := u1.cells
 have d2 := u1.sc
 have d3 := u2.cells
 have d4 := u2.sc
 have d5 := k2.sc
 have d6 := k3.sc
 have w1 := gs.wf
 obtain ⟨n1, hn1⟩ : ∃ n, S1.nx = up 0 n := ⟨_, up0 _⟩
 simp only [List.cons_append, List.nil_append] at hs0 ⊢
 simp only [XY, simprocAttr, hn1, d1, d2, d3, d4, d5.1, d5.2, d6.1, d6.2]
 obtain ⟨b8, hb8⟩ : ∃ b, b = up 0 n1 := ⟨_, rfl⟩
 obtain ⟨S2, hS2⟩ : ∃ S2, S2 = ((S1.new fun t => .cells t [.int .i64 0, ofL [], .snil, .snil, .snil, .snil]).wr (up 0 n1) S1.t fun u => .cells u [.int .i64 M.kind, ofL M.name, mn, mk, tv, sv]) := ⟨_, rfl⟩
 have g2 : Gr S1 S2 := by rw [hS2]; exact (Gr.refl w1).nw hn1 (good_cells _) (good_cells _)
 obtain ⟨t8, r8⟩ : ∃ t, S2.row b8 = .cells t [.int .i64 M.kind, ofL M.name, mn, mk, tv, sv] := ⟨_, by rw [hS2, hb8]; simp only [XZ, simprocAttr, hn1]; rfl⟩
 rw [← hS2, ← hb8]
 clear hS2
 have hs2 := hs0.imp fun r p e => ⟨p, g2.same r e⟩
 rw [wC_seq]; simp only [XY, simprocAttr, r8]
 refine wCall_marked (rcheckC (wf_low g2.wf S2.t) (hs2.low S2.t)) ?_
 rintro _ S3 g3 rfl
 have gg := (g0.trans gs).trans (g2.trans g3)
 have r60' := r6
 have r6 := ((gs.trans g2).trans g3).cells r6
 obtain ⟨R, hR⟩ : ∃ R, R = refS sc := ⟨_, rfl⟩
 rw [← hR]
 have fin : Gr st (S3.wr b6 t6 fun u => .cells u [.int .i64 M.kind, ofL M.name, mn, mk, tv, sv]) ∧ SchC (fun r => st.row r = .none) (S3.wr b6 t6 fun u => .cells u [.int .i64 M.kind, ofL M.name, mn, mk, tv, sv]) [.int .i64 M.kind, ofL M.name, mn, mk, tv, sv] sc := by
  refine ⟨gg.wr n6 (ne_cells r6) (by rw [r6]; rfl) (good_cells _), ?_⟩
  have r60 : S0.row b6 ≠ .none := fun e => by
   have := (gs.trans g2).trans g3
   exact (ne_cells r60') e
  exact hs0.imp fun r p e => ⟨Ch.fresh (Ch.of (fun _ => False) g0) p, by rw [row_wr_ne _ _ _ fun k => r60 (by rw [← k]; exact p), g3.same r (by rw [g2.same r e]; exact e), g2.same r e]⟩
 by_cases h0 : R = 0
 ·simp only [XZ, simprocAttr, h0, r6, d1, d2, d3, d4, d5.1, d5.2, d6.1, d6.2, apartAll_nil]
  exact ⟨fin.1, _, rfl, fin.2⟩
 ·simp only [XZ, simprocAttr, h0, r6, d1, d2, d3, d4, d5.1, d5.2, d6.1, d6.2, apartAll_nil]
  exact ⟨fin.1, _, rfl, fin.2⟩
end Go.Proofs.Ytbjfmnjnonnmeaa
namespace Go.Proofs.Ytbjfmnjnonnmeaa
open Eva Go.RowKit
set_option maxRecDepth 100000
set_option linter.unusedSimpArgs false
set_option linter.unusedVariables false
def openZS (tb : Tb) (z : Int) : Nat × Bool := if z < 0 then (0, false) else openS tb (tb.nodes.length + 1) z.toNat
set_option maxHeartbeats 1000000 in
theorem openI {W F : Pt → Prop} {st : St} {rt : Pt} {tb : Tb} {id : Int} (hw : WF st) (hT : Tab W F st rt tb) :
  Does (tabT tabD) n_cons_Table_Open [.ptr rt 0, .int .i64 id] st fun v st' => v = .tup [.int .i64 ((openZS tb id).1 : Nat), .bool (openZS tb id).2] ∧ st = st' := by
 refine does_fn at_cons_Table_Open rfl ?_
 obtain ⟨lv, ra, rn, rs, es, sv, hT⟩ := hT
 obtain ⟨t, c⟩ := hT.cell
 have hadd : IntKind.i64.wrap ((tb.nodes.length : Int) + 1) = ((tb.nodes.length + 1 : Nat) : Int) := by have := hT.few; rw [i64_in (by omega) (by omega)]; rfl
 simp only [cf_cons_Table_Open, XZ, simprocAttr, c, hT.l.len, hadd]
 obtain ⟨K, hK⟩ : ∃ K : V → St → Prop, ∀ v S, K v S ↔ (v = .tup [.int .i64 ((openZS tb id).1 : Nat), .bool (openZS tb id).2] ∧ st = S) := ⟨_, fun _ _ => Iff.rfl⟩
 simp only [← hK]
 obtain ⟨L, hL⟩ : ∃ L : Nat → Fr → St → Prop, ∀ j fr S, L j fr S ↔ ∃ (i : Nat) (z : Int), S = st ∧ j + i = tb.nodes.length + 1 ∧ fr 0 = .ptr rt 0 ∧ fr 1 = .int .i64 z ∧ fr 13 = .int .i64 ((tb.nodes.length + 1 : Nat) : Int) ∧ fr 14 = .int .i64 i ∧ openZS tb id = if z < 0 then (0, false) else openS tb (tb.nodes.length + 1 - i) z.toNat := ⟨_, fun _ _ _ => Iff.rfl⟩
 have := hT.few
 refine wC_loop L (tb.nodes.length + 1) (by omega) ((hL _ _ _).2 ⟨0, id, rfl, by omega, by simp only [XZ, simprocAttr], by simp only [XZ, simprocAttr], by simp only [XZ, simprocAttr], by simp only [XZ, simprocAttr] <;> rfl, rfl⟩) ?_
 intro j fr S hLj
 obtain ⟨i, z, rfl, hj, f0, f1, f13, f14, hrec⟩ := (hL _ _ _).1 hLj
 by_cases hi : i < tb.nodes.length + 1
 ·have hi' : (i : Int) < ((tb.nodes.length + 1 : Nat) : Int) := by omega
  by_cases z0 : z < 0
  ·simp only [XZ, simprocAttr, f0, f1, f13, f14, hi', z0]
   rw [hK, hrec, if_pos z0]; exact ⟨rfl, rfl⟩
  obtain ⟨a, rfl⟩ : ∃ a : Nat, z = a := ⟨z.toNat, by omega⟩
  rw [if_neg (by omega), show tb.nodes.length + 1 - i = (tb.nodes.length - i) + 1 by omega] at hrec
  simp only [Int.toNat_natCast] at hrec
  by_cases z1 : tb.nodes.length ≤ a
  ·have z1' : (tb.nodes.length : Int) ≤ (a : Int) := by omega
   rw [openS_none z1] at hrec
   simp only [XZ, simprocAttr, f0, f1, f13, f14, hi', z0, c, hT.l.len, z1']
   rw [hK, hrec]; exact ⟨rfl, rfl⟩
  have z1' : ¬ (tb.nodes.length : Int) ≤ (a : Int) := by omega
  have ha : a < tb.nodes.length := by omega
  have hie : a < es.length := by rw [hT.len]; exact ha
  obtain ⟨q, qo, a1, a2, a3, a4, a5, a6⟩ := hT.elem hie
  have hnd := hT.nd a hie ha
  have E0 := a6 0
  have E1 := a6 1
  obtain ⟨E, hE⟩ : ∃ E, E = es[a] := ⟨_, rfl⟩
  simp only [← hE] at hnd E0 E1
  obtain ⟨nv, kv, rfl, h1, h2⟩ := hnd
  have E0 := E0 (by simp)
  have E1 := E1 (by simp)
  simp only [List.getElem_cons_zero, List.getElem_cons_succ, Nat.add_zero] at E0 E1
  by_cases k9 : tb.nodes[a].kind = 9
  ·have k9' : (tb.nodes[a].kind = 9) = True := eq_true k9
   have hlk := lookup_at (e := .one .s) hT.named (.int .i64 0) true tb.nodes[a].name (str_heq _ _) rfl
   rw [at_find] at hlk
   have hadd1 : IntKind.i64.wrap ((i : Int) + 1) = ((i + 1 : Nat) : Int) := by rw [i64_in (by omega) (by omega)]; rfl
   have hdef : defI tb tb.nodes[a].name = (tb.named.find? fun p => tb.nodes[a].name = p.1).map (·.2) := rfl
   rw [← hdef] at hlk
   cases hd : defI tb tb.nodes[a].name with
   | none =>
     rw [openS_nodef ha k9 hd] at hrec
     rw [hd] at hlk
     simp only [Option.map_none, ansL, if_true] at hlk
     simp only [XZ, simprocAttr, f0, f1, f13, f14, hi', z0, c, hT.l.len, z1', a1, E0, E1, k9', hlk, hadd1]
     exact ⟨tb.nodes.length + 1 - (i + 1), by omega, (hL _ _ _).2 ⟨i + 1, -1, rfl, by omega, by simp only [XZ, simprocAttr, f0], by simp only [XZ, simprocAttr], by simp only [XZ, simprocAttr, f13], by simp only [XZ, simprocAttr], by rw [hrec, if_pos (by omega)]⟩⟩
   | some b =>
     rw [openS_def ha k9 hd] at hrec
     rw [hd] at hlk
     simp only [Option.map_some, ansL, if_true] at hlk
     simp only [XZ, simprocAttr, f0, f1, f13, f14, hi', z0, c, hT.l.len, z1', a1, E0, E1, k9', hlk, hadd1]
     exact ⟨tb.nodes.length + 1 - (i + 1), by omega, (hL _ _ _).2 ⟨i + 1, b, rfl, by omega, by simp only [XZ, simprocAttr, f0], by simp only [XZ, simprocAttr], by simp only [XZ, simprocAttr, f13], by simp only [XZ, simprocAttr], by rw [hrec, if_neg (by omega)]; congr 1; omega⟩⟩
  ·have k9' : (tb.nodes[a].kind = 9) = False := eq_false k9
   rw [openS_self ha k9] at hrec
   simp only [XZ, simprocAttr, f0, f1, f13, f14, hi', z0, c, hT.l.len, z1', a1, E0, E1, k9']
   rw [hK, hrec]; exact ⟨rfl, rfl⟩
 ·have hi' : ¬ (i : Int) < ((tb.nodes.length + 1 : Nat) : Int) := by omega
  have hie : i = tb.nodes.length + 1 := by omega
  simp only [XZ, simprocAttr, f0, f1, f13, f14, hi']
  rw [hK, hrec, hie, Nat.sub_self]
  refine ⟨?_, rfl⟩
  split <;> rfl
theorem openC {W F : Pt → Prop} {st : St} {rt : Pt} {tb : Tb} {id : Nat} (hw : WF st) (hT : Tab W F st rt tb) :
  Does (tabT tabD) n_cons_Table_Open [.ptr rt 0, .int .i64 id] st fun v st' => v = .tup [.int .i64 ((openS tb (tb.nodes.length + 1) id).1 : Nat), .bool (openS tb (tb.nodes.length + 1) id).2] ∧ st = st' := by
 have e : openZS tb (id : Int) = openS tb (tb.nodes.length + 1) id := by unfold openZS; rw [if_neg (by omega)]; rfl
 rw [← e]
 exact openI hw hT
end Go.Proofs.Ytbjfmnjnonnmeaa
namespace Go.Proofs.Ytbjfmnjnonnmeaa
open Eva Go.RowKit
set_option maxRecDepth 100000
set_option linter.unusedSimpArgs false
set_option linter.unusedVariables false
theorem openX {W : Pt → Prop} {st : St} {rt : Pt} {tb : Tb} {id : Nat} (hT : TabX st W rt tb) :
  Does (tabT tabD) n_cons_Table_Open [.ptr rt 0, .int .i64 id] st fun v S => v = .tup [.int .i64 ((openS tb (tb.nodes.length + 1) id).1 : Nat), .bool (openS tb (tb.nodes.length + 1) id).2] ∧ st = S := by
 obtain ⟨hw, F, hT⟩ := hT
 exact openC hw hT
set_option maxHeartbeats 4000000 in
theorem opensL (st : St) (hw : WF st) (e1 : List V) (q1 : Rw) (h1 : RwC (fun _ => True) st e1 q1) (v2 : V) (ts : List Rw) (h2 : RwsAt (fun _ => True) st v2 ts) :
  Does (tabT tabD) n_spruelaw5_ConsOpens [.agg e1, v2] st fun v' _ => v' = .bool true := by
 refine does_fn at_spruelaw5_ConsOpens rfl ?_
 obtain ⟨n0, hn0⟩ : ∃ n, st.nx = up 0 n := ⟨_, up0 _⟩
 have g1 := h1
 obtain ⟨nv1, kv1, es1, rfl, _, _, _, a1, a2, _, _, _⟩ := h1.inv
 have c1 := a1.cells
 have s1 := a1.sc
 have c2 := a2.cells
 have s2 := a2.sc
 have h3 : RwsAt (fun _ => True) st .snil [] := ⟨[], SlAt.nil _ _ _, rfl, by decide, fun i h => absurd h (by simp)⟩
 obtain ⟨l2, s3, c3, m2⟩ := h2.len
 obtain ⟨l3, s4, c4, m3⟩ := h3.len
 obtain ⟨p3, hp3⟩ : ∃ b, b = up 0 n0 := ⟨_, rfl⟩
 simp only [cf_spruelaw5_ConsOpens, XY, simprocAttr]
 rw [wC_seq]; simp only [XY, simprocAttr, hn0, c1, s1, c2, s2]
 rw [← hp3]
 obtain ⟨S0, hS0⟩ : ∃ S0, S0 = (st.new fun t => .cells t [.int .i64 q1.kind, .int .i64 q1.n, nv1, kv1]) := ⟨_, rfl⟩
 have G0 : Gr st S0 := by rw [hS0]; exact Gr.new hw (good_cells _)
 obtain ⟨t0, r0⟩ : ∃ t, S0.row p3 = .cells t [.int .i64 q1.kind, .int .i64 q1.n, nv1, kv1] := ⟨_, by rw [hS0, hp3]; simp only [XZ, simprocAttr, hn0]; rfl⟩
 rw [← hS0]
 clear hS0
 rw [wC_seqj, wC_seq]; simp only [XY, simprocAttr]
 refine wCall_plain (known5 S0 G0.wf) ?_
 rintro _ S1 ⟨gk, rfl⟩
 have r1 := gk.cells r0
 have G1 := G0.trans gk
 simp only [XY, simprocAttr]
 rw [wC_seqj, wC_seq]; simp only [XY, simprocAttr, r1]
 refine wCall_plain (fewAllC G1.wf (g1.gr G1) (h2.gr G1) (h3.gr G1)) ?_
 rintro _ S2 ⟨G2, fb, rfl⟩
 cases fb with
 | false => simp only [XZ, simprocAttr]
 | true =>
 have r2 := G2.cells r1
 have G2 := G1.trans G2
 simp only [XY, simprocAttr]
 rw [wC_seq]; simp only [XY, simprocAttr, r2]
 refine wCall_plain (goodC G2.wf (g1.gr G2) (h2.gr G2) (h3.gr G2)) ?_
 rintro _ S3 ⟨G3, e, rfl, hs⟩
 obtain ⟨sc, hsc⟩ : ∃ s, s = schemaS q1 ts [] := ⟨_, rfl⟩
 rw [← hsc] at hs ⊢
 have hs0 := hs
 obtain ⟨c, tv, sv, rfl, k1, k2, k3⟩ := hs
 obtain ⟨M, hM⟩ : ∃ M, M = sc.main := ⟨_, rfl⟩
 rw [← hM] at k1
 obtain ⟨mn, mk, xe, rfl, u1, u2, u3, u4⟩ := k1.inv
 have d1 := u1.cells
 have d2 := u1.sc
 have d3 := u2.cells
 have d4 := u2.sc
 have d5 := k2.sc
 have d6 := k3.sc
 have w3 := G3.wf
 obtain ⟨n3, hn3⟩ : ∃ n, S3.nx = up 0 n := ⟨_, up0 _⟩
 simp only [List.cons_append, List.nil_append] at hs0 ⊢
 obtain ⟨okb, hok⟩ : ∃ b, b = decide (refS sc = 0) := ⟨_, rfl⟩
 rw [← hok]
 simp only [XY, simprocAttr, hn3, d1, d2, d3, d4, d5.1, d5.2, d6.1, d6.2]
 obtain ⟨ps, hps⟩ : ∃ b, b = up 0 n3 := ⟨_, rfl⟩
 obtain ⟨S4, hS4⟩ : ∃ S4, S4 = ((S3.new fun t => .cells t [.int .i64 0, ofL [], .snil, .snil, .snil, .snil]).wr (up 0 n3) S3.t fun u => .cells u [.int .i64 M.kind, ofL M.name, mn, mk, tv, sv]) := ⟨_, rfl⟩
 have G4 : Gr S3 S4 := by rw [hS4]; exact (Gr.refl w3).nw hn3 (good_cells _) (good_cells _)
 obtain ⟨t4, r4⟩ : ∃ t, S4.row ps = .cells t [.int .i64 M.kind, ofL M.name, mn, mk, tv, sv] := ⟨_, by rw [hS4, hps]; simp only [XZ, simprocAttr, hn3]; rfl⟩
 rw [← hS4, ← hps]
 clear hS4
 have hs4 := hs0.imp (Q := fun _ => True) fun r p e => ⟨trivial, G4.same r e⟩
 rw [wC_seq]; simp only [XY, simprocAttr, r4]
 refine wCall_plain (newC G4.wf hs4) ?_
 rintro v S5 ⟨G5, hp⟩
 cases hnw : newS sc with
 | mk o er =>
 rw [hnw] at hp
 cases o with
 | none =>
   have hp : v = .tup [.pnil, .int .i64 er] := hp
   have he := new_none' hnw
   rw [hp]
   cases okb with
   | false => simp only [XZ, simprocAttr]
   | true => simp only [XZ, simprocAttr, he]
 | some tb =>
 obtain ⟨rfl, hO⟩ := new_of hnw
 obtain ⟨rt, W, rfl, T5, K5⟩ := hp
 simp only [XY, simprocAttr]
 cases okb with
 | false => simp only [XZ, simprocAttr]
 | true =>
 rw [wC_seqj, wC_seq]; simp only [XY, simprocAttr]
 have r5 := K5.row r4 fun h => h
 have hs5 := hs4.imp (Q := fun r => ¬ W r) (st' := S5) fun r p e => ⟨(K5 r e fun h => h).2, (K5 r e fun h => h).1⟩
 have hfew : tb.nodes.length ≤ 120 := by
  obtain ⟨_, _, _, _, _, _, _, _, hT⟩ := T5
  exact hT.few
 refine wC_cut (fun fr S => fr 5 = .ptr ps 0 ∧ fr 7 = .ptr rt 0 ∧ TabX S W rt tb ∧ Gr S5 S) ?_ ?_
 ·rw [wC_seq]; simp only [XY, simprocAttr]
  obtain ⟨L, hL⟩ : ∃ L : Nat → Fr → St → Prop, ∀ j fr S, L j fr S ↔ ∃ (i : Nat), j + i = tb.nodes.length ∧ fr 5 = .ptr ps 0 ∧ fr 7 = .ptr rt 0 ∧ fr 9 = .int .i64 i ∧ TabX S W rt tb ∧ Gr S5 S := ⟨_, fun _ _ _ => Iff.rfl⟩
  refine wC_loop L tb.nodes.length (by omega) ((hL _ _ _).2 ⟨0, by omega, by simp only [XZ, simprocAttr], by simp only [XZ, simprocAttr], by simp only [XZ, simprocAttr] <;> rfl, T5, Gr.refl T5.1⟩) ?_
  intro j fr S hLj
  obtain ⟨i, hj, f5, f7, f9, T, G⟩ := (hL _ _ _).1 hLj
  rw [wC_seqj, wC_seq]; simp only [XY, simprocAttr, f7]
  refine wCall_plain (lenX T) ?_
  rintro _ _ ⟨rfl, rfl⟩
  by_cases hi : i < tb.nodes.length
  ·have hi' : (i : Int) < tb.nodes.length := by omega
   have hadd1 : IntKind.i64.wrap ((i : Int) + 1) = ((i + 1 : Nat) : Int) := by rw [i64_in (by omega) (by omega)]; rfl
   obtain ⟨o, nd, ho, hnd, hk⟩ := hO.opens hi
   have hlo := (List.getElem?_eq_some_iff.1 hnd).1
   have hne := (List.getElem?_eq_some_iff.1 hnd).2
   simp only [XY, simprocAttr, f9, hi']
   rw [wC_seqj]; simp only [XY, simprocAttr]
   rw [wC_seq]; simp only [XY, simprocAttr, f7, f9]
   refine wCall_plain (nodeX T hi) ?_
   rintro _ Sa ⟨Ta, ga, e, rfl, nva, kva, rfl, ha1, ha2⟩
   have q1 := ha1.cells
   have q2 := ha1.sc
   have q3 := ha2.cells
   have q4 := ha2.sc
   obtain ⟨nA, hnA⟩ : ∃ n, Sa.nx = up 0 n := ⟨_, up0 _⟩
   obtain ⟨A, hA⟩ : ∃ A, A = tb.nodes[i] := ⟨_, rfl⟩
   rw [← hA]
   simp only [XY, simprocAttr, hnA, q1, q2, q3, q4]
   obtain ⟨pa, hpa⟩ : ∃ b, b = up 0 nA := ⟨_, rfl⟩
   obtain ⟨Sb, hSb⟩ : ∃ Sb, Sb = ((Sa.new fun t => .cells t [.int .i64 0, ofL [], .snil, .snil]).wr (up 0 nA) Sa.t fun u => .cells u [.int .i64 A.kind, ofL A.name, nva, kva]) := ⟨_, rfl⟩
   have gb : Gr Sa Sb := by rw [hSb]; exact (Gr.refl Ta.1).nw hnA (good_cells _) (good_cells _)
   obtain ⟨tb1, rb⟩ : ∃ t, Sb.row pa = .cells t [.int .i64 A.kind, ofL A.name, nva, kva] := ⟨_, by rw [hSb, hpa]; simp only [XZ, simprocAttr, hnA]; rfl⟩
   rw [← hSb, ← hpa]
   clear hSb
   have Tb := Ta.gr gb
   rw [wC_seq]; simp only [XY, simprocAttr, f7, f9]
   refine wCall_plain (openX Tb) ?_
   rintro _ _ ⟨rfl, rfl⟩
   rw [ho]
   simp only [XY, simprocAttr]
   rw [wC_seq]; simp only [XY, simprocAttr, f7]
   refine wCall_plain (nodeX Tb hlo) ?_
   rintro _ Sc ⟨Tc, gc, e', rfl, nvc, kvc, rfl, hc1, hc2⟩
   rw [hne]
   have q1 := hc1.cells
   have q2 := hc1.sc
   have q3 := hc2.cells
   have q4 := hc2.sc
   obtain ⟨nC, hnC⟩ : ∃ n, Sc.nx = up 0 n := ⟨_, up0 _⟩
   simp only [XY, simprocAttr, hnC, q1, q2, q3, q4]
   obtain ⟨pc, hpc⟩ : ∃ b, b = up 0 nC := ⟨_, rfl⟩
   obtain ⟨Sd, hSd⟩ : ∃ Sb, Sb = ((Sc.new fun t => .cells t [.int .i64 0, ofL [], .snil, .snil]).wr (up 0 nC) Sc.t fun u => .cells u [.int .i64 nd.kind, ofL nd.name, nvc, kvc]) := ⟨_, rfl⟩
   have gd : Gr Sc Sd := by rw [hSd]; exact (Gr.refl Tc.1).nw hnC (good_cells _) (good_cells _)
   obtain ⟨td1, rd⟩ : ∃ t, Sd.row pc = .cells t [.int .i64 nd.kind, ofL nd.name, nvc, kvc] := ⟨_, by rw [hSd, hpc]; simp only [XZ, simprocAttr, hnC]; rfl⟩
   rw [← hSd, ← hpc]
   clear hSd
   have Td := Tc.gr gd
   have rb := (gc.trans gd).cells rb
   have hself : A.kind ≠ 9 → o = i := fun k => by
    have h2 := openS_self (f := tb.nodes.length) hi (by rw [← hA]; exact k)
    rw [h2] at ho
    injection ho with ho _
    exact ho.symm
   have GG : Gr S5 Sd := ((G.trans ga).trans gb).trans (gc.trans gd)
   have nxt : ∀ fr', fr' 5 = .ptr ps 0 → fr' 7 = .ptr rt 0 → fr' 9 = .int .i64 ((i + 1 : Nat) : Int) → ∃ m, m < j ∧ L m fr' Sd := fun fr' x1 x2 x3 => ⟨j - 1, by omega, (hL _ _ _).2 ⟨i + 1, by omega, x1, x2, x3, Td, GG⟩⟩
   by_cases hA9 : A.kind = 9
   ·simp only [XZ, simprocAttr, f9, rd, rb, hk, hA9, hadd1]
    exact nxt _ (by simp only [XZ, simprocAttr, f5]) (by simp only [XZ, simprocAttr, f7]) (by simp only [XZ, simprocAttr])
   ·simp only [XZ, simprocAttr, f9, rd, rb, hk, hA9, hself hA9, hadd1]
    exact nxt _ (by simp only [XZ, simprocAttr, f5]) (by simp only [XZ, simprocAttr, f7]) (by simp only [XZ, simprocAttr])
  ·have hi' : ¬ (i : Int) < tb.nodes.length := by omega
   simp only [XZ, simprocAttr, f9, hi']
   exact ⟨f5, f7, T, G⟩
 rintro fr S6 ⟨f5, f7, T6, G6⟩
 obtain ⟨l, hll⟩ : ∃ l, l = sc.types := ⟨_, rfl⟩
 rw [← hll] at k2
 obtain ⟨N1, N2, N3, N4, N5, N6⟩ := check_names hO.chk
 have hlen12 : l.length ≤ 12 := by rw [hll]; exact (checkS_ok hO.chk).1
 have r6 := G6.cells r5
 have p6 : ¬ W ps := (K5 ps (ne_cells r4) fun h => h).2
 have keep6 : ∀ r, S3.row r ≠ .none → ¬ W r ∧ S6.row r = S3.row r := fun r e => by
  have e4 : S4.row r ≠ .none := by rw [G4.same r e]; exact e
  obtain ⟨a, b⟩ := K5 r e4 fun h => h
  exact ⟨b, by rw [G6.same r (by rw [a]; exact e4), a, G4.same r e]⟩
 have k6 : LstAt (NmC (fun r => ¬ W r) S6) (fun r => ¬ W r) S6 tv 5 l := k2.imp (fun e x h => h.imp fun r _ e => keep6 r e) fun r _ e => keep6 r e
 have llen := k2.len
 refine wC_cut (fun _ _ => True) ?_ fun _ _ _ => by simp only [XZ, simprocAttr]
 rw [wC_seq]; simp only [XY, simprocAttr]
 obtain ⟨L, hL⟩ : ∃ L : Nat → Fr → St → Prop, ∀ j fr S, L j fr S ↔ ∃ (i : Nat) (W' : Pt → Prop) (tb' : Tb), j + i = l.length ∧ fr 5 = .ptr ps 0 ∧ fr 7 = .ptr rt 0 ∧ fr 16 = .int .i64 i ∧ TabX S W' rt tb' ∧ OfSch sc tb' ∧ Kept S6 W S W' := ⟨_, fun _ _ _ => Iff.rfl⟩
 refine wC_loop L l.length (by omega) ((hL _ _ _).2 ⟨0, W, tb, by omega, by simp only [XZ, simprocAttr, f5], by simp only [XZ, simprocAttr, f7], by simp only [XZ, simprocAttr] <;> rfl, T6, hO, Kept.refl _ _⟩) ?_
 intro j fr S hLj
 obtain ⟨i, W', tb', hj, f5, f7, f16, T, hO', KS⟩ := (hL _ _ _).1 hLj
 have rS := KS.row r6 p6
 rw [wC_seqj, wC_seq]; simp only [XY, simprocAttr, f5, f16, rS, llen]
 by_cases hi : i < l.length
 ·have hi' : (i : Int) < l.length := by omega
  have hadd1 : IntKind.i64.wrap ((i : Int) + 1) = ((i + 1 : Nat) : Int) := by rw [i64_in (by omega) (by omega)]; rfl
  have hk : ∀ r, ¬ W r → S6.row r ≠ .none → ¬ W' r ∧ S.row r = S6.row r := fun r n e => ⟨(KS r e n).2, (KS r e n).1⟩
  have kS : LstAt (NmC (fun r => ¬ W' r) S) (fun r => ¬ W' r) S tv 5 l := k6.imp (fun e x h => h.imp hk) hk
  obtain ⟨r, q, e, a1, a2, a3, a4, ⟨c, he, hc⟩, a6, a7⟩ := kS.elem hi
  have hmem : l[i] ∈ sc.types := by rw [← hll]; exact List.getElem_mem hi
  obtain ⟨P, hP⟩ : ∃ P, P = l[i] := ⟨_, rfl⟩
  rw [← hP] at he hc hmem
  have hc0 := hc
  obtain ⟨ynv, ykv, yes, rfl, y1, y2, y3, y4⟩ := hc.inv
  subst he
  have b0 : ld1 (S.row r) q = some (ofL P.1, .no) := a7 0 (by simp)
  have b1 : ldn (S.row r) (q + 1) 4 = some (.agg [.int .i64 P.2.kind, ofL P.2.name, ynv, ykv], .no) := ldn_drop (a := 1) (b := 4) a4
  simp only [XY, simprocAttr, hi']
  rw [wC_seqj]; simp only [XY, simprocAttr]
  rw [wC_seq]; simp only [XY, simprocAttr, f5, f7, f16, rS, a1, b0]
  refine wCall_plain (addX T (ty := .mk 9 P.1 [] []) (.mk (es := []) (SlAt.nil _ _ _) (SlAt.nil _ _ _) rfl fun i h => absurd h (by simp))) ?_
  rintro _ Sa ⟨Wa, Ta, Ka, rfl⟩
  have rSa := Ka.row rS ((KS ps (ne_cells r6) p6).2)
  have er := Ka r a3 a2
  rw [← er.1] at b1
  simp only [XY, simprocAttr]
  rw [wC_seq]; simp only [XY, simprocAttr, f5, f7, f16, rSa, a1, b1]
  refine wCall_plain (addX Ta (Ka.ty hc0)) ?_
  rintro _ Sb ⟨Wb, Tb, Kb, rfl⟩
  simp only [XY, simprocAttr]
  have hX : namesIn (hasN sc.types) (.mk 9 P.1 [] []) = true := by
   rw [namesIn, namessIn, Bool.and_true, Bool.or_eq_true]
   exact .inr (List.any_eq_true.2 ⟨P, hmem, by simp⟩)
  rcases addT_err (.mk 9 P.1 [] []) 400 tb' with e1 | e1
  rotate_left
  ·rw [wC_seqj, wC_seq]; simp only [XZ, simprocAttr, e1]
  obtain ⟨hO1, hlk⟩ := hO'.add hX e1
  obtain ⟨D, hD⟩ : ∃ D, D = addT (.mk 9 P.1 [] []) 400 tb' := ⟨_, rfl⟩
  rw [← hD] at e1 hO1 hlk Tb ⊢
  obtain ⟨j0, h1, h2⟩ := hO1.named P hmem
  rw [able_there (hO1.able P hmem) h2] at Tb ⊢
  rw [wC_seqj, wC_seq]; simp only [XY, simprocAttr, e1]
  rw [wC_seq]; simp only [XY, simprocAttr, f7]
  refine wCall_plain (openX Tb) ?_
  rintro _ _ ⟨rfl, rfl⟩
  simp only [XY, simprocAttr]
  rw [wC_seq]; simp only [XY, simprocAttr, f7]
  refine wCall_plain (openX Tb) ?_
  rintro _ _ ⟨rfl, rfl⟩
  rw [hO1.same hmem hlk h2]
  simp only [XZ, simprocAttr, f16, hadd1]
  exact ⟨j - 1, by omega, (hL _ _ _).2 ⟨i + 1, Wb, D.1, by omega, by simp only [XZ, simprocAttr, f5], by simp only [XZ, simprocAttr, f7], by simp only [XZ, simprocAttr], Tb, hO1, (KS.trans Ka).trans Kb⟩⟩
 ·have hi' : ¬ (i : Int) < l.length := by omega
  simp only [XZ, simprocAttr, hi']
end Go.Proofs.Ytbjfmnjnonnmeaa
