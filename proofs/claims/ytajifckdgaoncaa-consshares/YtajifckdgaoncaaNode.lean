/- Nodes of a table, opened. -/
import Derived.Test.YtajifckdgaoncaaAdd
namespace Go.Proofs.Ytajifckdgaoncaa
open Eva Go.RowKit
set_option maxRecDepth 100000
set_option linter.unusedSimpArgs false
set_option linter.unusedVariables false
theorem lenC {W F : Pt → Prop} {st : St} {rt : Pt} {tb : Tb} (hT : Tab W F st rt tb) : Does (tabT tabD) n_cons_Table_Len [.ptr rt 0] st fun v st' => v = .int .i64 tb.nodes.length ∧ st = st' := by
  refine does_fn at_cons_Table_Len rfl ?_
  obtain ⟨lv, ra, rn, rs, es, sv, hT⟩ := hT
  obtain ⟨t, c⟩ := hT.cell
  simp only [cf_cons_Table_Len, XX, wC_seq, wC_seqj, splice_def, Nat.reduceEqDiff, ↓reduceIte, reduceCtorEq, Int.reduceToNat, Nat.reduceAdd, Nat.reduceMul, Int.reduceAdd, Int.reduceSub, Int.reduceLE, Int.reduceLT, Int.reduceNeg, Int.reduceMul, Int.reduceEq, Int.reduceNe, Nat.reduceLeDiff, Nat.reduceSub, c, hT.l.len]
theorem mainC {W F : Pt → Prop} {st : St} {rt : Pt} {tb : Tb} (hT : Tab W F st rt tb) : Does (tabT tabD) n_cons_Table_Main [.ptr rt 0] st fun v st' => v = .int .i64 tb.main ∧ st = st' := by
  refine does_fn at_cons_Table_Main rfl ?_
  obtain ⟨lv, ra, rn, rs, es, sv, hT⟩ := hT
  obtain ⟨t, c⟩ := hT.cell
  simp only [cf_cons_Table_Main, XX, wC_seq, wC_seqj, splice_def, Nat.reduceEqDiff, ↓reduceIte, reduceCtorEq, Int.reduceToNat, Nat.reduceAdd, Nat.reduceMul, Int.reduceAdd, Int.reduceSub, Int.reduceLE, Int.reduceLT, Int.reduceNeg, Int.reduceMul, Int.reduceEq, Int.reduceNe, Nat.reduceLeDiff, Nat.reduceSub, c]
set_option maxHeartbeats 1000000 in
theorem addTop {W F P : Pt → Prop} {st : St} {rt : Pt} {tb : Tb} {e : List V} {ty : Ty} (hw : WF st) (hT : Tab W F st rt tb) (hx : TyC P st e ty) (hP : ∀ r, P r → ¬ W r) :
    Does (tabT tabD) n_cons_Table_Add [.ptr rt 0, .agg e] st fun v st' => Ch W st st' ∧ (∃ W' F' : Pt → Prop, (∀ r, W r → W' r) ∧ (∀ r, W' r → W r ∨ st.row r = .none) ∧ (∀ r, F' r → F r ∨ st.row r = .none) ∧ Tab W' F' st' rt (addT ty 400 tb).1) ∧ v = .tup [.int .i64 ((addT ty 400 tb).2.1 : Nat), .int .i64 (addT ty 400 tb).2.2.1] := by
  refine does_fn at_cons_Table_Add rfl ?_
  obtain ⟨n, hn0⟩ : ∃ n, st.nx = up 0 n := ⟨_, up0 _⟩
  have e4 := hx.four
  have etk : e.take 4 = e := by rw [← e4, List.take_length]
  have edl : 4 ≤ e.length := by omega
  have hsp : splice [V.int .i64 0] 0 [.int .i64 400] = [.int .i64 400] := rfl
  simp only [cf_cons_Table_Add, XX, wC_seq, wC_seqj, splice_def, Nat.reduceEqDiff, ↓reduceIte, reduceCtorEq, Int.reduceToNat, Nat.reduceAdd, Nat.reduceMul, Int.reduceAdd, Int.reduceSub, Int.reduceLE, Int.reduceLT, Int.reduceNeg, Int.reduceMul, Int.reduceEq, Int.reduceNe, Nat.reduceLeDiff, Nat.reduceSub, hn0, hx.ok, e4, etk, -splice_def, hsp]
  have gS : Gr st (((st.new fun t => .cells t e).new fun t => .cells t [.int .i64 0]).wr (up 1 n) (st.new fun t => .cells t e).t fun u => .cells u [.int .i64 400]) := (Gr.new hw (good_cells _)).nw (by simp only [nx_new, hn0, up_suc, Nat.zero_add]) (good_cells _) (good_cells _)
  obtain ⟨lv, ra, rn, rs, es, sv, hT0⟩ := hT.live
  have hT1 : Tab W (fun r => F r ∧ st.row r ≠ .none) _ rt tb := Tab.gr ⟨lv, ra, rn, rs, es, sv, hT0⟩ gS
  have q1 := nx0 hw hn0 1
  refine wCall_plain (add _ ty (Nat.lt_succ_self _) W _ (fun r => P r ∧ st.row r ≠ .none) _ rt (up 1 n) tb e 400 _ gS.wf hT1 ((hx.imp fun r p e => ⟨⟨p, e⟩, rfl⟩).gr gS) (fun r p => ⟨hP r p.1, fun k => p.2 (by rw [k]; exact q1)⟩) (by rw [row_wr_same]) (fun w => hT0.own _ w q1) (fun w => w.2 q1) (by decide) (by decide)) ?_
  rintro _ S2 ⟨⟨c2, ⟨W2, F2, b1, b2, b3, T2⟩, _⟩, rfl⟩
  simp only [XX, wC_seq, wC_seqj, splice_def, Nat.reduceEqDiff, ↓reduceIte, reduceCtorEq, Int.reduceToNat, Nat.reduceAdd, Nat.reduceMul, Int.reduceAdd, Int.reduceSub, Int.reduceLE, Int.reduceLT, Int.reduceNeg, Int.reduceMul, Int.reduceEq, Int.reduceNe, Nat.reduceLeDiff, Nat.reduceSub]
  refine ⟨(Ch.of W gS).trans c2 fun r w => ?_, W2, F2, b1, fun r w => ?_, fun r w => ?_, T2⟩
  · rcases w with w | w
    · exact .inl w
    · exact .inr (by rw [w]; exact q1)
  · rcases b2 r w with w | w; exact .inl w; exact .inr (Ch.fresh (Ch.of W gS) w)
  · rcases b3 r w with w | w; exact .inl w.1; exact .inr (Ch.fresh (Ch.of W gS) w)
set_option maxHeartbeats 1000000 in
theorem nodeC {W F Q : Pt → Prop} {st : St} {rt : Pt} {tb : Tb} {id : Nat} (hw : WF st) (hT : Tab W F st rt tb) (hi : id < tb.nodes.length) (hQ : ∀ r, st.row r = .none → Q r) :
    Does (tabT tabD) n_cons_Table_Node [.ptr rt 0, .int .i64 id] st fun v st' => Gr st st' ∧ ∃ e, v = .tup [.agg e, .bool true] ∧ NdC Q st' e tb.nodes[id] := by
  refine does_fnG tabM at_cons_Table_Node rfl hw fun K fin => ?_
  obtain ⟨lv, ra, rn, rs, es, sv, hT⟩ := hT
  obtain ⟨n, hn0⟩ : ∃ n, st.nx = up 0 n := ⟨_, up0 _⟩
  have hold := fun r (h : st.row r ≠ .none) => old_up hw hn0 h
  obtain ⟨t, c⟩ := hT.cell
  have hie : id < es.length := by rw [hT.len]; exact hi
  obtain ⟨q, qo, a1, a2, a3, a4, a5, a6⟩ := hT.elem hie
  have hnd := hT.nd id hie hi
  have hfit := hT.fit _ (List.getElem_mem hi)
  obtain ⟨E, hE⟩ : ∃ E, E = es[id] := ⟨_, rfl⟩
  rw [← hE] at a5 hnd
  obtain ⟨nv, kv, rfl, h1, h2⟩ := hnd
  have ort := fun k => nes (ne_up hw hn0 hT.rt_ne k)
  have oq := fun k => nes (ne_up hw hn0 a2 k)
  have i0 : ¬ (id : Int) < 0 := by omega
  have i1 : ¬ (tb.nodes.length : Int) ≤ (id : Int) := by omega
  have g1 : Gr st (((st.new fun t => .cells t [.int .i64 0, ofL [], .snil, .snil]).new fun t => .cells t [.int .i64 0, ofL [], .snil, .snil]).wr (up 1 n) (st.new fun t => .cells t [.int .i64 0, ofL [], .snil, .snil]).t fun u => .cells u [.int .i64 tb.nodes[id].kind, ofL tb.nodes[id].name, nv, kv]) := (Gr.new hw (good_cells _)).nw (by simp only [nx_new, hn0, up_suc, Nat.zero_add]) (good_cells _) (good_cells _)
  have r0 : St.row (((st.new fun t => .cells t [.int .i64 0, ofL [], .snil, .snil]).new fun t => .cells t [.int .i64 0, ofL [], .snil, .snil]).wr (up 1 n) (st.new fun t => .cells t [.int .i64 0, ofL [], .snil, .snil]).t fun u => .cells u [.int .i64 tb.nodes[id].kind, ofL tb.nodes[id].name, nv, kv]) (up 0 n) = .cells st.t [.int .i64 0, ofL [], .snil, .snil] := by simp only [XX, wC_seq, wC_seqj, splice_def, Nat.reduceEqDiff, ↓reduceIte, reduceCtorEq, Int.reduceToNat, Nat.reduceAdd, Nat.reduceMul, Int.reduceAdd, Int.reduceSub, Int.reduceLE, Int.reduceLT, Int.reduceNeg, Int.reduceMul, Int.reduceEq, Int.reduceNe, Nat.reduceLeDiff, Nat.reduceSub, hn0]
  have r1 : St.row (((st.new fun t => .cells t [.int .i64 0, ofL [], .snil, .snil]).new fun t => .cells t [.int .i64 0, ofL [], .snil, .snil]).wr (up 1 n) (st.new fun t => .cells t [.int .i64 0, ofL [], .snil, .snil]).t fun u => .cells u [.int .i64 tb.nodes[id].kind, ofL tb.nodes[id].name, nv, kv]) (up 1 n) = .cells _ [.int .i64 tb.nodes[id].kind, ofL tb.nodes[id].name, nv, kv] := row_wr_same _ _ _ _
  simp only [cf_cons_Table_Node, XX, wC_seq, wC_seqj, splice_def, Nat.reduceEqDiff, ↓reduceIte, reduceCtorEq, Int.reduceToNat, Nat.reduceAdd, Nat.reduceMul, Int.reduceAdd, Int.reduceSub, Int.reduceLE, Int.reduceLT, Int.reduceNeg, Int.reduceMul, Int.reduceEq, Int.reduceNe, Nat.reduceLeDiff, Nat.reduceSub, hn0, ort, oq, c, hT.l.len, i0, i1, a1, a5, h1.cells, h2.cells, h1.sc, h2.sc]
  refine wCall_marked (clone_string (Q := fun r => st.row r = .none ∧ r ≠ up 0 n ∧ r ≠ up 1 n) (wf_low g1.wf _) ((h1.gr g1).low _) (strs_ok _) (by rw [strs_len]; have := hfit.1; omega) ?_) ?_
  · exact fun r hr => ⟨Ch.fresh (Ch.of (fun _ => False) g1) hr, (fun e => ne_cells r0 ((congrArg (St.row _) e).symm.trans hr)), (fun e => ne_cells r1 ((congrArg (St.row _) e).symm.trans hr))⟩
  rintro nv' S2 g2 c2
  have c2 := c2.unlow
  have b1 : S2.row (up 1 n) = .cells _ [.int .i64 tb.nodes[id].kind, ofL tb.nodes[id].name, nv, kv] := g2.cells r1
  have b0 : S2.row (up 0 n) = .cells _ [.int .i64 0, ofL [], .snil, .snil] := g2.cells r0
  simp only [XX, wC_seq, wC_seqj, splice_def, Nat.reduceEqDiff, ↓reduceIte, reduceCtorEq, Int.reduceToNat, Nat.reduceAdd, Nat.reduceMul, Int.reduceAdd, Int.reduceSub, Int.reduceLE, Int.reduceLT, Int.reduceNeg, Int.reduceMul, Int.reduceEq, Int.reduceNe, Nat.reduceLeDiff, Nat.reduceSub, b1]
  refine wCall_marked (clone_int (Q := fun r => st.row r = .none ∧ r ≠ up 0 n ∧ r ≠ up 1 n) (wf_low g2.wf _) (((h2.gr g1).gr g2).low _) (ints_ok _) (by rw [ints_len]; have := hfit.2; omega) ?_) ?_
  · exact fun r hr => ⟨Ch.fresh (Ch.of (fun _ => False) (g1.trans g2)) hr, fun e => ne_cells b0 (by rw [← e]; exact hr), fun e => ne_cells b1 (by rw [← e]; exact hr)⟩
  rintro kv' S3 g3 c3
  have c3 := c3.unlow
  have c2 := c2.gr g3
  have b1 := g3.cells b1
  have b0 := g3.cells b0
  have G3 := (g1.trans g2).trans g3
  simp only [XX, wC_seq, wC_seqj, splice_def, Nat.reduceEqDiff, ↓reduceIte, reduceCtorEq, Int.reduceToNat, Nat.reduceAdd, Nat.reduceMul, Int.reduceAdd, Int.reduceSub, Int.reduceLE, Int.reduceLT, Int.reduceNeg, Int.reduceMul, Int.reduceEq, Int.reduceNe, Nat.reduceLeDiff, Nat.reduceSub, b1, b0, c2.cells, c3.cells, c2.sc, c3.sc]
  refine fin _ _ (fun r e => by simp only [row_wrI, hold r e, if_false]; exact G3.same r e) fun _ => ⟨_, rfl, nv', kv', rfl, c2.imp fun r p e => ⟨hQ r p.1, ?_⟩, c3.imp fun r p e => ⟨hQ r p.1, ?_⟩⟩
  · simp only [row_wrI, p.2.1, p.2.2, if_false]
  · simp only [row_wrI, p.2.1, p.2.2, if_false]
end Go.Proofs.Ytajifckdgaoncaa
