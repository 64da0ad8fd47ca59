/- A node laid in a table. -/
import Derived.Test.YtajifckdgaoncaaKeyed
import Derived.Test.YtajifckdgaoncaaEvd9
namespace Go.Proofs.Ytajifckdgaoncaa
open Eva Go.RowKit
set_option maxRecDepth 100000
set_option linter.unusedSimpArgs false
set_option linter.unusedVariables false
set_option maxHeartbeats 2000000 in
theorem lay {W F P : Pt → Prop} {st : St} {rt : Pt} {tb : Tb} {e : List V} {nd : Nd} (hw : WF st) (hT : Tab W F st rt tb) (hn : NdC P st e nd) (hf : nd.fit) :
    Does (tabT tabD) n_cons_Table_lay [.ptr rt 0, .agg e] st fun v st' => Ch W st st' ∧ (∃ W' F' : Pt → Prop, (∀ r, W r → W' r) ∧ (∀ r, W' r → W r ∨ st.row r = .none) ∧ (∀ r, F' r → F r ∨ st.row r = .none) ∧ Tab W' F' st' rt (layS tb nd).1) ∧ v = .tup [.int .i64 ((layS tb nd).2.1 : Nat), .int .i64 (layS tb nd).2.2] := by
  refine Does.ch tabM hw (does_fn at_cons_Table_lay rfl ?_)
  obtain ⟨lv, ra, rn, rs, es, sv, hT⟩ := hT.live
  obtain ⟨n, hn0⟩ : ∃ n, st.nx = up 0 n := ⟨_, up0 _⟩
  have hnd := hn
  obtain ⟨nv, kv, rfl, h1, h2⟩ := hn
  have g0 : Gr st (st.new fun t => .cells t [.int .i64 nd.kind, ofL nd.name, nv, kv]) := Gr.new hw fun u => ⟨rfl, fun e => by cases e⟩
  simp only [cf_cons_Table_lay, XX, wC_seq, wC_seqj, splice_def, Nat.reduceEqDiff, ↓reduceIte, reduceCtorEq, Int.reduceToNat, Nat.reduceAdd, Nat.reduceMul, Int.reduceAdd, Int.reduceSub, Int.reduceLE, Int.reduceLT, Int.reduceNeg, Int.reduceMul, Int.reduceEq, Int.reduceNe, Nat.reduceLeDiff, Nat.reduceSub, hn0, h1.cells, h2.cells, h1.sc, h2.sc]
  refine wCall_plain (keyed (P := P) g0.wf (hnd.gr g0) hf) ?_
  rintro _ st1 ⟨g1, rfl⟩
  have G1 := g0.trans g1
  have w1 := G1.wf
  have b0 : st1.row (up 0 n) = .cells st.t [.int .i64 nd.kind, ofL nd.name, nv, kv] := g1.cells (by simp only [XX, wC_seq, wC_seqj, splice_def, Nat.reduceEqDiff, ↓reduceIte, reduceCtorEq, Int.reduceToNat, Nat.reduceAdd, Nat.reduceMul, Int.reduceAdd, Int.reduceSub, Int.reduceLE, Int.reduceLT, Int.reduceNeg, Int.reduceMul, Int.reduceEq, Int.reduceNe, Nat.reduceLeDiff, Nat.reduceSub, hn0])
  have hT1 := hT.gr G1
  have hnd1 := hnd.gr G1
  obtain ⟨n1, hn1⟩ : ∃ n, st1.nx = up 0 n := ⟨_, up0 _⟩
  have hold1 := fun r (h : st1.row r ≠ .none) => old_up w1 hn1 h
  have o0 := hold1 (up 0 n) (by rw [b0]; exact fun e => by cases e)
  obtain ⟨tt, c1⟩ := hT1.cell
  have ort := hold1 rt hT1.rt_ne
  have k1 := keyL_len hf
  have k2 : 20 ≤ (keyL nd).length := by rw [k1]; decide
  have k3 : (keyL nd).take 20 = keyL nd := by rw [← k1, List.take_length]
  have hfit : ekN.fit (encN nd) = true := by
    have : (keyL nd).length == 20 := by rw [k1]; rfl
    exact this
  have heq : ∀ p ∈ (tb.nodes.zipIdx.map fun p => (p.1, V.int .i64 (p.2 : Int))), ekN.eq (encN nd) (encN p.1) = some (decide (nd = p.1)) := fun p hp => by
    obtain ⟨q, hq, rfl⟩ := List.mem_map.1 hp
    exact key_eq hf (hT1.fit _ (List.fst_mem_of_mem_zipIdx hq))
  have hlk : ∀ S : St, S.row ra = st1.row ra → lookupV S ekN (.int .i64 0) true (.map ra) (.agg (keyL nd)) = some (ansL (.int .i64 0) true (at_ nd (tb.nodes.zipIdx.map fun p => (p.1, V.int .i64 (p.2 : Int)))), .no) := fun S hS =>
    lookup_at (enc := encN) (hT1.key.of hS) _ _ nd heq hfit
  have ora := hold1 ra hT1.key.ne
  have k4 : splice [V.int .i64 0, V.int .i64 0, V.int .i64 0, ofL [], ofL [], ofL [], ofL [], ofL [], ofL [], ofL [], ofL [], ofL [], V.int .i64 0, V.int .i64 0, V.int .i64 0, V.int .i64 0, V.int .i64 0, V.int .i64 0, V.int .i64 0, V.int .i64 0] 0 (keyL nd) = keyL nd := splice_all (by rw [k1]; rfl)
  have hlay : layS tb nd = match idx nd tb.nodes 0 with
    | some i => (tb, i, 0)
    | none => if 120 ≤ tb.nodes.length then (tb, 0, 20) else ({ tb with nodes := tb.nodes ++ [nd] }, tb.nodes.length, 0) := rfl
  have g2 : Gr st1 ((st1.new fun t => .cells t zk).wr (up 0 n1) st1.t fun u => .cells u (keyL nd)) := (Gr.refl w1).nw hn1 (good_cells _) (good_cells _)
  have hz := idx_zip nd tb.nodes 0
  cases hi : idx nd tb.nodes 0 with
  | some i =>
    simp only [hi] at hlay hz
    obtain ⟨_, i1, i2⟩ := idx_lt hi
    simp only [Nat.sub_zero] at i1 i2
    have i3 : i < es.length := by rw [hT.len]; exact i1
    obtain ⟨q, qo, a1, a2, a3, a4, a5, a6⟩ := hT1.elem i3
    have oq := hold1 q a2
    simp only [XX, wC_seq, wC_seqj, splice_def, Nat.reduceEqDiff, ↓reduceIte, reduceCtorEq, Int.reduceToNat, Nat.reduceAdd, Nat.reduceMul, Int.reduceAdd, Int.reduceSub, Int.reduceLE, Int.reduceLT, Int.reduceNeg, Int.reduceMul, Int.reduceEq, Int.reduceNe, Nat.reduceLeDiff, Nat.reduceSub, b0, hn1, o0, ort, c1, k1, k2, k3, keyL_ok, -splice_def, k4, hlk, ora, hz, Option.map_some, ansL, a1, oq, a5]
    refine wCall_marked (keyed (wf_low g2.wf _) (((hT1.nd i i3 i1).gr g2).low _) (hT1.fit _ (List.getElem_mem i1))) ?_
    rintro _ st3 g3 rfl
    rw [i2]
    have kk : st3.row (up 0 n1) = .cells _ (keyL nd) := g3.cells (by simp only [XX, wC_seq, wC_seqj, splice_def, Nat.reduceEqDiff, ↓reduceIte, reduceCtorEq, Int.reduceToNat, Nat.reduceAdd, Nat.reduceMul, Int.reduceAdd, Int.reduceSub, Int.reduceLE, Int.reduceLT, Int.reduceNeg, Int.reduceMul, Int.reduceEq, Int.reduceNe, Nat.reduceLeDiff, Nat.reduceSub, hn1]; rfl)
    have l1 : (padI nd.kids).length = 8 := by have := hf.2; simp [padI]; omega
    simp only [XX, wC_seq, wC_seqj, splice_def, Nat.reduceEqDiff, ↓reduceIte, reduceCtorEq, Int.reduceToNat, Nat.reduceAdd, Nat.reduceMul, Int.reduceAdd, Int.reduceSub, Int.reduceLE, Int.reduceLT, Int.reduceNeg, Int.reduceMul, Int.reduceEq, Int.reduceNe, Nat.reduceLeDiff, Nat.reduceSub, k1, k2, keyL_nums hf, kk, nums_eq l1]
    rw [hlay]
    have G3 := G1.trans (g2.trans g3)
    exact ⟨fun r h _ => G3.same r h, ⟨W, _, fun _ h => h, fun _ h => .inl h, fun _ h => .inl h.1, lv, ra, rn, rs, es, sv, hT.gr G3⟩, rfl⟩
  | none =>
    simp only [hi] at hlay hz
    simp only [XX, wC_seq, wC_seqj, splice_def, Nat.reduceEqDiff, ↓reduceIte, reduceCtorEq, Int.reduceToNat, Nat.reduceAdd, Nat.reduceMul, Int.reduceAdd, Int.reduceSub, Int.reduceLE, Int.reduceLT, Int.reduceNeg, Int.reduceMul, Int.reduceEq, Int.reduceNe, Nat.reduceLeDiff, Nat.reduceSub, b0, hn1, o0, ort, c1, k1, k2, k3, keyL_ok, -splice_def, k4, hlk, ora, hz, Option.map_none, ansL, hT1.l.len]
    by_cases h120 : 120 ≤ tb.nodes.length
    · have h120' : (120 : Int) ≤ (tb.nodes.length : Int) := by omega
      simp only [XX, wC_seq, wC_seqj, splice_def, Nat.reduceEqDiff, ↓reduceIte, reduceCtorEq, Int.reduceToNat, Nat.reduceAdd, Nat.reduceMul, Int.reduceAdd, Int.reduceSub, Int.reduceLE, Int.reduceLT, Int.reduceNeg, Int.reduceMul, Int.reduceEq, Int.reduceNe, Nat.reduceLeDiff, Nat.reduceSub, h120']
      rw [hlay, if_pos h120]
      have G3 := G1.trans g2
      exact ⟨fun r h _ => by have := G3.same r h; simpa only [row_newI, row_wrI, hn1] using this, ⟨W, _, fun _ h => h, fun _ h => .inl h, fun _ h => .inl h.1, lv, ra, rn, rs, es, sv, hT.gr G3⟩, rfl⟩
    have h120' : ¬ (120 : Int) ≤ (tb.nodes.length : Int) := by omega
    simp only [XX, wC_seq, wC_seqj, splice_def, Nat.reduceEqDiff, ↓reduceIte, reduceCtorEq, Int.reduceToNat, Nat.reduceAdd, Nat.reduceMul, Int.reduceAdd, Int.reduceSub, Int.reduceLE, Int.reduceLT, Int.reduceNeg, Int.reduceMul, Int.reduceEq, Int.reduceNe, Nat.reduceLeDiff, Nat.reduceSub, h120', b0, o0, hn1]
    refine wCall_marked (clone_string (Q := fun r => st.row r = .none ∧ ¬ W r ∧ r ≠ up 0 n) (wf_low g2.wf _) (((h1.gr G1).gr g2).low _) (strs_ok _) (by rw [strs_len]; have := hf.1; omega) ?_) ?_
    · exact fun r hr => ⟨Ch.fresh (Ch.of W (G1.trans g2)) hr, fun w => hT.own r w (by rw [← (G1.trans g2).same r (hT.own r w)]; exact hr), fun e => ne_cells (g2.cells b0) (by rw [← e]; exact hr)⟩
    rintro nv' st3 g3 c3
    have c3 := c3.unlow
    have b3 : st3.row (up 0 n) = .cells _ _ := g3.cells (g2.cells b0)
    simp only [XX, wC_seq, wC_seqj, splice_def, Nat.reduceEqDiff, ↓reduceIte, reduceCtorEq, Int.reduceToNat, Nat.reduceAdd, Nat.reduceMul, Int.reduceAdd, Int.reduceSub, Int.reduceLE, Int.reduceLT, Int.reduceNeg, Int.reduceMul, Int.reduceEq, Int.reduceNe, Nat.reduceLeDiff, Nat.reduceSub, b3]
    refine wCall_marked (clone_int (Q := fun r => st.row r = .none ∧ ¬ W r ∧ r ≠ up 0 n) (wf_low g3.wf _) ((((h2.gr G1).gr g2).gr g3).low _) (ints_ok _) (by rw [ints_len]; have := hf.2; omega) ?_) ?_
    · exact fun r hr => ⟨Ch.fresh (Ch.of W ((G1.trans g2).trans g3)) hr, fun w => hT.own r w (by rw [← ((G1.trans g2).trans g3).same r (hT.own r w)]; exact hr), fun e => ne_cells b3 (by rw [← e]; exact hr)⟩
    rintro kv' st4 g4 c4
    have c4 := c4.unlow
    have c3 := c3.gr g4
    have b4 : st4.row (up 0 n) = .cells _ _ := g4.cells b3
    have kk : st4.row (up 0 n1) = .cells _ (keyL nd) := g4.cells (g3.cells (by simp only [XX, wC_seq, wC_seqj, splice_def, Nat.reduceEqDiff, ↓reduceIte, reduceCtorEq, Int.reduceToNat, Nat.reduceAdd, Nat.reduceMul, Int.reduceAdd, Int.reduceSub, Int.reduceLE, Int.reduceLT, Int.reduceNeg, Int.reduceMul, Int.reduceEq, Int.reduceNe, Nat.reduceLeDiff, Nat.reduceSub, hn1]; rfl))
    have G4 : Gr st st4 := ((G1.trans g2).trans g3).trans g4
    have hT4 := hT.gr G4
    obtain ⟨t4, d4⟩ := hT4.cell
    obtain ⟨t5, m5⟩ := hT4.key
    have hne1 := nes (ne_up hw hn0 hT.rt_ne 0)
    have hne2 := nes (ne_up w1 hn1 hT1.rt_ne 0)
    have hne3 := nes (ne_up hw hn0 hT.key.ne 0)
    have hne4 := nes (ne_up w1 hn1 (ne_cells b0) 0)
    have hne5 := nes (show rt ≠ ra from fun e => by rw [e, m5] at d4; cases d4)
    have hne6 := nes (ne_up w1 hn1 hT1.key.ne 0)
    have hmu : ∀ (S : St) (v : V), S.row ra = st4.row ra → mupdV S ekN (.map ra) (.agg (keyL nd)) v = _ := fun S v hS => mupd_at (enc := encN) (hS.trans m5) nd v heq hfit
    obtain ⟨n4, hn4⟩ : ∃ n, st4.nx = up 0 n := ⟨_, up0 _⟩
    have w4 := g4.wf
    have hold4 := fun r (h : st4.row r ≠ .none) => old_up w4 hn4 h
    have o4a := nes (ne_up w4 hn4 hT4.rt_ne 0)
    have o4b := nes (ne_up w4 hn4 (ne_cells b4) 0)
    have o4c := nes (ne_up w4 hn4 hT4.key.ne 0)
    have o4d := nes (ne_up w4 hn4 hT4.rt_ne 1)
    have gw : Gr st1 st1 := Gr.refl w1
    have wS : WF ((((st4.wr (up 0 n) st.t fun u => Row.cells u [V.int IntKind.i64 nd.kind, ofL nd.name, nv', kv]).wr (up 0 n) st4.t fun u => Row.cells u [V.int IntKind.i64 nd.kind, ofL nd.name, nv', kv']).wr ra t5 fun u => Row.mob u
              (List.map (fun p => (encN p.fst, p.snd)) (set_ nd (V.int IntKind.i64 ↑tb.nodes.length) (List.map (fun p => (p.fst, V.int IntKind.i64 ↑p.snd)) tb.nodes.zipIdx)))).new fun u => Row.cells u [V.int IntKind.i64 nd.kind, ofL nd.name, nv', kv']) := by
      refine (mono_new (mono_wr (mono_wr (mono_wr w4 (ne_cells b4) (by rw [b4]; rfl) (good_cells _)).wf ?_ ?_ (good_cells _)).wf ?_ ?_ (good_mob _)).wf (good_cells _)).wf
      all_goals simp only [row_wrI, hne3, if_true, if_false, m5]
      · exact fun e => by cases e
      · rfl
      · exact fun e => by cases e
      · rfl
    have hm5 : st4.row ra ≠ .none := hT4.key.ne
    simp only [XX, wC_seq, wC_seqj, splice_def, Nat.reduceEqDiff, ↓reduceIte, reduceCtorEq, Int.reduceToNat, Nat.reduceAdd, Nat.reduceMul, Int.reduceAdd, Int.reduceSub, Int.reduceLE, Int.reduceLT, Int.reduceNeg, Int.reduceMul, Int.reduceEq, Int.reduceNe, Nat.reduceLeDiff, Nat.reduceSub, b4, kk, d4, c3.cells, c4.cells, c3.sc, c4.sc, hne1, hne2, hne3, hne4, hne5, hne6, k2, k3, hT4.l.len, hmu, hn4]
    refine wW_app (rt := rt) (hT4.l.imp fun r t hr1 hr2 hr3 => ?_) (tq := ?tq) (new := [V.int IntKind.i64 nd.kind, ofL nd.name, nv', kv']) ?hq rfl ?hsc (by omega) wS ?_
    · have e1 := nes (ne_up w4 hn4 (ne_cells hr3) 0)
      have e2 := nes (ne_up hw hn0 (hT.own r hr1) 0)
      have e3 := nes (show r ≠ ra from fun e => by rw [e, m5] at hr3; cases hr3)
      simp only [row_newI, row_wrI, nx_wr, hn4, e1, e2, e3, if_false]
    case hq => simp only [row_newI, row_wrI, nx_wr, hn4, if_true]; rfl
    case hsc => simp only [XX, wC_seq, wC_seqj, splice_def, Nat.reduceEqDiff, ↓reduceIte, reduceCtorEq, Int.reduceToNat, Nat.reduceAdd, Nat.reduceMul, Int.reduceAdd, Int.reduceSub, Int.reduceLE, Int.reduceLT, Int.reduceNeg, Int.reduceMul, Int.reduceEq, Int.reduceNe, Nat.reduceLeDiff, Nat.reduceSub, c3.sc, c4.sc]
    intro S5 t6 r5 n5 s5 x5 _
    simp only [nx_new, nx_wr, hn4, up_suc, Nat.reduceAdd, Nat.zero_add] at r5 n5
    have f5 : ∀ r, r ≠ up 1 n4 → rowOf lv ≠ some r → r ≠ up 0 n4 → r ≠ ra → r ≠ up 0 n → S5.row r = st4.row r := fun r a1 a2 a3 a4 a5 => by
      rw [s5 r (by simp only [nx_new, nx_wr, hn4, up_suc]; exact a1) a2]
      simp only [row_newI, row_wrI, nx_wr, hn4, a3, a4, a5, if_false]
    have hlr : rowOf lv ≠ some rt := fun e => (hT.l.row e).2.1 rfl
    have d5 : S5.row rt = .cells t4 [lv, .map ra, .map rn, .int .i64 tb.main, .map rs] := by
      rw [f5 rt (ne_up w4 hn4 hT4.rt_ne 1) hlr (ne_up w4 hn4 hT4.rt_ne 0) (by have := hne5.1; simpa using this) (ne_up hw hn0 hT.rt_ne 0), d4]
    simp only [XX, wC_seq, wC_seqj, splice_def, Nat.reduceEqDiff, ↓reduceIte, reduceCtorEq, Int.reduceToNat, Nat.reduceAdd, Nat.reduceMul, Int.reduceAdd, Int.reduceSub, Int.reduceLE, Int.reduceLT, Int.reduceNeg, Int.reduceMul, Int.reduceEq, Int.reduceNe, Nat.reduceLeDiff, Nat.reduceSub, d5, hn4, lenL_sl]
    rw [hlay, if_neg h120]
    have q1 : st4.row (up 1 n4) = .none := nx0 w4 hn4 1
    have q2 : st.row (up 1 n4) = .none := Classical.byContradiction fun e => by rw [G4.same _ e] at q1; exact e q1
    refine ⟨fun r hr hW => ?_, ⟨fun r => W r ∨ r = up 1 n4, fun r => (F r ∧ st.row r ≠ .none) ∨ (st.row r = .none ∧ ¬ W r ∧ r ≠ up 1 n4), fun r w => .inl w, ?_, ?_, .sl (up 1 n4) 0 (tb.nodes.length + 1) 4, ra, rn, rs, es ++ [[.int .i64 nd.kind, ofL nd.name, nv', kv']], sv, hT.push q2 ⟨S5.t, ?_⟩ ⟨t6, ?_⟩ ⟨(((st4.wr (up 0 n) st.t fun u => Row.cells u [V.int IntKind.i64 nd.kind, ofL nd.name, nv', kv]).wr (up 0 n) st4.t fun u => Row.cells u [V.int IntKind.i64 nd.kind, ofL nd.name, nv', kv'])).t, ?_⟩ ?_ ?_ (fun r f => .inl f) ?_ ?_ hf hi (by omega)⟩, ?_⟩
    · have e1 : r ≠ rt := fun e => hW (by rw [e]; exact hT.w.1)
      have e4 : st4.row r ≠ .none := by rw [G4.same r hr]; exact hr
      simp only [e1, if_false]
      rw [f5 r (ne_up w4 hn4 e4 1) (fun e => hW (hT.l.row e).1) (ne_up w4 hn4 e4 0) (fun e => hW (by rw [e]; exact hT.w.2.1)) (ne_up hw hn0 hr 0), G4.same r hr]
    · rintro r (w | rfl)
      · exact .inl w
      · exact .inr q2
    · rintro r (f | f)
      · exact .inl f.1
      · exact .inr f.1
    · simp only [row_wrI, if_true]
    · simp only [row_wrI, o4d, if_false]; exact r5
    · simp only [row_wrI, hne5, if_false]
      rw [s5 ra (by simp only [nx_new, nx_wr, hn4, up_suc]; exact ne_up w4 hn4 hm5 1) (fun e => by obtain ⟨_, _, t2, h2⟩ := hT4.l.row e; rw [h2] at m5; cases m5)]
      simp only [row_newI, row_wrI, nx_wr, hn4, o4c, if_true, if_false]
    · intro r hr a1 a2 a3
      have hr4 : st4.row r ≠ .none := by rw [G4.same r hr]; exact hr
      simp only [row_wrI, a1, if_false]
      rw [f5 r (ne_up w4 hn4 hr4 1) a3 (ne_up w4 hn4 hr4 0) a2 (ne_up hw hn0 hr 0), G4.same r hr]
    · intro r hr
      have hr4 : st4.row r ≠ .none := by rw [G4.same r hr]; exact hr
      simp only [row_wrI]
      split
      · exact fun e => by cases e
      · refine x5 r ?_
        simp only [row_newI, row_wrI, nx_wr, hn4]
        repeat' split
        all_goals first | exact hr4 | exact fun e => by cases e
    · rintro r (f | f)
      · exact ⟨hT.fw r f, fun e => f.2 (by rw [e]; exact q2)⟩
      · exact f.2
    · refine ⟨nv', kv', rfl, c3.imp fun r p e => ?_, c4.imp fun r p e => ?_⟩
      all_goals
        refine ⟨.inr ⟨p.1, p.2.1, ne_up w4 hn4 e 1⟩, ?_⟩
        have e1 : r ≠ rt := fun k => p.2.1 (by rw [k]; exact hT.w.1)
        simp only [row_wrI, e1, if_false]
        exact f5 r (ne_up w4 hn4 e 1) (fun k => p.2.1 (hT.l.row k).1) (ne_up w4 hn4 e 0) (fun k => p.2.1 (by rw [k]; exact hT.w.2.1)) p.2.2
    · rw [i64_in (by omega) (by omega)]
      simp
end Go.Proofs.Ytajifckdgaoncaa
