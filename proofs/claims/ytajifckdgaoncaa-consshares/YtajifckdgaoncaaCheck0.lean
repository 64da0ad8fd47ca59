/- What is wrong with a schema of one type. -/
import Derived.Test.YtajifckdgaoncaaOpts
namespace Go.Proofs.Ytajifckdgaoncaa
open Eva Go.RowKit
set_option maxRecDepth 100000
set_option linter.unusedSimpArgs false
set_option linter.unusedVariables false
theorem types0 {P : Pt → Prop} {st : St} {v : V} (h : LstAt (NmC P st) P st v 5 []) : Does (tabT tabD) n_shape_types [v] st fun v' st' => v' = .int .i64 0 ∧ st = st' := by
  refine does_fn at_shape_types rfl ?_
  simp only [cf_shape_types, XX, wC_seq, wC_seqj, splice_def, Nat.reduceEqDiff, ↓reduceIte, reduceCtorEq, Int.reduceToNat, Nat.reduceAdd, Nat.reduceMul, Int.reduceAdd, Int.reduceSub, Int.reduceLE, Int.reduceLT, Int.reduceNeg, Int.reduceMul, Int.reduceEq, Int.reduceNe, Nat.reduceLeDiff, Nat.reduceSub, h.nil_len]
  refine wC_loop1 (by decide) ?_
  simp only [XX, wC_seq, wC_seqj, splice_def, Nat.reduceEqDiff, ↓reduceIte, reduceCtorEq, Int.reduceToNat, Nat.reduceAdd, Nat.reduceMul, Int.reduceAdd, Int.reduceSub, Int.reduceLE, Int.reduceLT, Int.reduceNeg, Int.reduceMul, Int.reduceEq, Int.reduceNe, Nat.reduceLeDiff, Nat.reduceSub]
theorem sigs0 {P : Pt → Prop} {st : St} {v : V} {kr : Pt} (h : LstAt (SgC P st) P st v 6 []) : Does (tabT tabD) n_shape_looker_sigs [.ptr kr 0, v] st fun v' st' => v' = .int .i64 0 ∧ st = st' := by
  refine does_fn at_shape_looker_sigs rfl ?_
  simp only [cf_shape_looker_sigs, XX, wC_seq, wC_seqj, splice_def, Nat.reduceEqDiff, ↓reduceIte, reduceCtorEq, Int.reduceToNat, Nat.reduceAdd, Nat.reduceMul, Int.reduceAdd, Int.reduceSub, Int.reduceLE, Int.reduceLT, Int.reduceNeg, Int.reduceMul, Int.reduceEq, Int.reduceNe, Nat.reduceLeDiff, Nat.reduceSub, h.nil_len]
  refine wC_loop1 (by decide) ?_
  simp only [XX, wC_seq, wC_seqj, splice_def, Nat.reduceEqDiff, ↓reduceIte, reduceCtorEq, Int.reduceToNat, Nat.reduceAdd, Nat.reduceMul, Int.reduceAdd, Int.reduceSub, Int.reduceLE, Int.reduceLT, Int.reduceNeg, Int.reduceMul, Int.reduceEq, Int.reduceNe, Nat.reduceLeDiff, Nat.reduceSub]
theorem named0 {P : Pt → Prop} {st : St} {e : List V} {s : Sch} (hw : WF st) (h : SchC P st e s) (h0 : s.types = []) : Does (tabT tabD) n_shape_named [.agg e] st fun v' st' => Gr st st' ∧ ∃ r, v' = .map r ∧ st.row r = .none ∧ ∃ t, st'.row r = .mob t [] := by
  refine does_fnG tabM at_shape_named rfl hw fun K fin => ?_
  obtain ⟨n, hn0⟩ : ∃ n, st.nx = up 0 n := ⟨_, up0 _⟩
  have hold := fun r (h : st.row r ≠ .none) => old_up hw hn0 h
  obtain ⟨c, tv, sv, rfl, h1, h2, h3⟩ := h
  obtain ⟨k, nm, ns, ks⟩ := s.main
  obtain ⟨nv, kv, es, rfl, x1, x2, x3, x4⟩ := h1.inv
  rw [h0] at h2
  simp only [cf_shape_named, XX, wC_seq, wC_seqj, splice_def, Nat.reduceEqDiff, ↓reduceIte, reduceCtorEq, Int.reduceToNat, Nat.reduceAdd, Nat.reduceMul, Int.reduceAdd, Int.reduceSub, Int.reduceLE, Int.reduceLT, Int.reduceNeg, Int.reduceMul, Int.reduceEq, Int.reduceNe, Nat.reduceLeDiff, Nat.reduceSub, hn0, x1.sc, x2.sc, h2.sc.1, h3.sc.1, h2.nil_len]
  refine wC_loop1 (by decide) ?_
  simp only [XX, wC_seq, wC_seqj, splice_def, Nat.reduceEqDiff, ↓reduceIte, reduceCtorEq, Int.reduceToNat, Nat.reduceAdd, Nat.reduceMul, Int.reduceAdd, Int.reduceSub, Int.reduceLE, Int.reduceLT, Int.reduceNeg, Int.reduceMul, Int.reduceEq, Int.reduceNe, Nat.reduceLeDiff, Nat.reduceSub]
  refine fin _ _ (fun r e => by simp only [row_newI, nx_new, hn0, up_suc, hold r e, if_false]) fun _ => ⟨up 1 n, rfl, nx0 hw hn0 1, _, by simp only [XX, wC_seq, wC_seqj, splice_def, Nat.reduceEqDiff, ↓reduceIte, reduceCtorEq, Int.reduceToNat, Nat.reduceAdd, Nat.reduceMul, Int.reduceAdd, Int.reduceSub, Int.reduceLE, Int.reduceLT, Int.reduceNeg, Int.reduceMul, Int.reduceEq, Int.reduceNe, Nat.reduceLeDiff, Nat.reduceSub, hn0]; rfl⟩
theorem every0 {P Q : Pt → Prop} {st : St} {e : List V} {s : Sch} (hw : WF st) (h : SchC P st e s) (h0 : s.types = []) (h00 : s.sigs = []) (hQ : ∀ r, P r → Q r) (hN : ∀ r, st.row r = .none → Q r) : Does (tabT tabD) n_shape_every [.agg e] st fun v' st' => Gr st st' ∧ LstAt (TyC Q st') Q st' v' 4 [s.main] := by
  refine does_fnG tabM at_shape_every rfl hw fun K fin => ?_
  obtain ⟨n, hn0⟩ : ∃ n, st.nx = up 0 n := ⟨_, up0 _⟩
  have hold := fun r (h : st.row r ≠ .none) => old_up hw hn0 h
  obtain ⟨c, tv, sv, rfl, h1, h2, h3⟩ := h
  obtain ⟨M, hM⟩ : ∃ M, M = s.main := ⟨_, rfl⟩
  rw [← hM] at h1
  simp only [← hM] at fin
  obtain ⟨k, nm, ns, ks⟩ := M
  have h1' := h1
  obtain ⟨nv, kv, es, rfl, x1, x2, x3, x4⟩ := h1.inv'
  rw [h0] at h2
  rw [h00] at h3
  simp only [cf_shape_every, XX, wC_seq, wC_seqj, splice_def, Nat.reduceEqDiff, ↓reduceIte, reduceCtorEq, Int.reduceToNat, Nat.reduceAdd, Nat.reduceMul, Int.reduceAdd, Int.reduceSub, Int.reduceLE, Int.reduceLT, Int.reduceNeg, Int.reduceMul, Int.reduceEq, Int.reduceNe, Nat.reduceLeDiff, Nat.reduceSub, hn0, x1.sc, x2.sc, x1.cells, x2.cells, h2.sc.1, h3.sc.1, h2.nil_len]
  refine wC_loop1 (by decide) ?_
  simp only [XX, wC_seq, wC_seqj, splice_def, Nat.reduceEqDiff, ↓reduceIte, reduceCtorEq, Int.reduceToNat, Nat.reduceAdd, Nat.reduceMul, Int.reduceAdd, Int.reduceSub, Int.reduceLE, Int.reduceLT, Int.reduceNeg, Int.reduceMul, Int.reduceEq, Int.reduceNe, Nat.reduceLeDiff, Nat.reduceSub, hn0, x1.sc, x2.sc, x1.cells, x2.cells]
  have g : Gr st ((st.new fun t => .cells t [.int .i64 k, ofL nm, nv, kv, tv, sv]).new fun t => .cells t [.int .i64 k, ofL nm, nv, kv]) := (Gr.new hw (good_cells _)).nn (good_cells _)
  have happ : ∀ S : St, S.row (up 1 n) = .cells (st.t + 1) [.int .i64 k, ofL nm, nv, kv] → appV S 4 .snil (.slx (up 1 n) 0 1 4 1) = some (.sl S.nx 0 1 4, .new fun t => .cells t [.int .i64 k, ofL nm, nv, kv]) := fun S hS => by
    simp only [appV, slen, sliceCells, loadN, hS]
    simp only [Nat.le_refl, true_and, if_true, Nat.one_mul, List.length_cons, List.length_nil, Nat.zero_add, Nat.reduceAdd, List.drop_zero]
    rw [show ([V.int .i64 k, ofL nm, nv, kv].take 4) = [.int .i64 k, ofL nm, nv, kv] from rfl]
    simp only [allSc_cons, sc_int, sc_str, x1.sc, x2.sc, allSc_nil, Bool.and_self]
    rfl
  have hrow : ((st.new fun t => .cells t [.int .i64 k, ofL nm, nv, kv, tv, sv]).new fun t => .cells t [.int .i64 k, ofL nm, nv, kv]).row (up 1 n) = .cells (st.t + 1) [.int .i64 k, ofL nm, nv, kv] := by simp only [row_newI, nx_new, hn0, up_suc, Nat.zero_add, if_true]; rfl
  simp only [happ _ hrow, XX, wC_seq, wC_seqj, splice_def, Nat.reduceEqDiff, ↓reduceIte, reduceCtorEq, Int.reduceToNat, Nat.reduceAdd, Nat.reduceMul, Int.reduceAdd, Int.reduceSub, Int.reduceLE, Int.reduceLT, Int.reduceNeg, Int.reduceMul, Int.reduceEq, Int.reduceNe, Nat.reduceLeDiff, Nat.reduceSub, hn0, h3.nil_len]
  refine wC_loop1 (by decide) ?_
  simp only [XX, wC_seq, wC_seqj, splice_def, Nat.reduceEqDiff, ↓reduceIte, reduceCtorEq, Int.reduceToNat, Nat.reduceAdd, Nat.reduceMul, Int.reduceAdd, Int.reduceSub, Int.reduceLE, Int.reduceLT, Int.reduceNeg, Int.reduceMul, Int.reduceEq, Int.reduceNe, Nat.reduceLeDiff, Nat.reduceSub]
  have g3 : Gr st (((st.new fun t => .cells t [.int .i64 k, ofL nm, nv, kv, tv, sv]).new fun t => .cells t [.int .i64 k, ofL nm, nv, kv]).new fun t => .cells t [.int .i64 k, ofL nm, nv, kv]) := g.nn (good_cells _)
  refine fin _ _ (fun r e => g3.same r e) fun _ => ⟨[[.int .i64 k, ofL nm, nv, kv]], ?_, rfl, fun i a b => ?_⟩
  · exact ⟨fun e he => by rw [List.mem_singleton.1 he]; rfl, .inr ⟨up 2 n, 0, hN _ (nx0 hw hn0 2), .inl rfl, [.int .i64 k, ofL nm, nv, kv], .inl ⟨_, by simp only [XX, wC_seq, wC_seqj, splice_def, Nat.reduceEqDiff, ↓reduceIte, reduceCtorEq, Int.reduceToNat, Nat.reduceAdd, Nat.reduceMul, Int.reduceAdd, Int.reduceSub, Int.reduceLE, Int.reduceLT, Int.reduceNeg, Int.reduceMul, Int.reduceEq, Int.reduceNe, Nat.reduceLeDiff, Nat.reduceSub, hn0]; rfl⟩, by simp, by simp⟩⟩
  · have : i = 0 := by simp at b; omega
    subst this
    exact (h1'.imp fun r p e => ⟨hQ r p, g3.same r e⟩)
theorem checkS0 {s : Sch} (h0 : s.types = []) (h00 : s.sigs = []) : checkS s = if (mayS (hasN []) s.main 1 0).1 ≠ 0 then (mayS (hasN []) s.main 1 0).1 else if optssS [] [s.main] then 17 else 0 := by
  unfold checkS everyS
  rw [h0, h00]
  simp only [List.length_nil, List.map_nil, typesS, maysS_nil, sigsS]
  simp
set_option maxHeartbeats 4000000 in
theorem check0 {P : Pt → Prop} {st : St} {e : List V} {s : Sch} (hw : WF st) (h : SchC P st e s) (h0 : s.types = []) (h00 : s.sigs = []) : Does (tabT tabD) n_shape_Check [.agg e] st fun v' st' => Gr st st' ∧ v' = .int .i64 (checkS s) := by
  refine does_fnG tabM at_shape_Check rfl hw fun K fin => ?_
  obtain ⟨n, hn0⟩ : ∃ n, st.nx = up 0 n := ⟨_, up0 _⟩
  have hchk := checkS0 h0 h00
  have hsch := h
  obtain ⟨c, tv, sv, rfl, h1, h2, h3⟩ := h
  obtain ⟨M, hM⟩ : ∃ M, M = s.main := ⟨_, rfl⟩
  rw [← hM] at h1 hchk
  obtain ⟨k, nm, ns, ks⟩ := M
  have h1' := h1
  obtain ⟨nv, kv, es, rfl, x1, x2, x3, x4⟩ := h1.inv'
  rw [h0] at h2
  rw [h00] at h3
  have g0 : Gr st (st.new fun t => .cells t [.int .i64 k, ofL nm, nv, kv, tv, sv]) := Gr.new hw (good_cells _)
  have r0 : (st.new fun t => .cells t [.int .i64 k, ofL nm, nv, kv, tv, sv]).row (up 0 n) = .cells st.t [.int .i64 k, ofL nm, nv, kv, tv, sv] := by simp only [XX, wC_seq, wC_seqj, splice_def, Nat.reduceEqDiff, ↓reduceIte, reduceCtorEq, Int.reduceToNat, Nat.reduceAdd, Nat.reduceMul, Int.reduceAdd, Int.reduceSub, Int.reduceLE, Int.reduceLT, Int.reduceNeg, Int.reduceMul, Int.reduceEq, Int.reduceNe, Nat.reduceLeDiff, Nat.reduceSub, hn0]
  have ft : ∀ {S : St}, Gr st S → LstAt (NmC P S) P S tv 5 [] := fun g => h2.imp (fun e x h => h.imp fun r p e => ⟨p, g.same r e⟩) fun r p e => ⟨p, g.same r e⟩
  have fs : ∀ {S : St}, Gr st S → LstAt (SgC P S) P S sv 6 [] := fun g => h3.imp (fun e x h => h.imp fun r p e => ⟨p, g.same r e⟩) fun r p e => ⟨p, g.same r e⟩
  have fsch : ∀ {S : St}, Gr st S → SchC P S ([.int .i64 k, ofL nm, nv, kv] ++ [tv, sv]) s := fun g => hsch.imp fun r p e => ⟨p, g.same r e⟩
  simp only [cf_shape_Check, XX, wC_seq, wC_seqj, splice_def, Nat.reduceEqDiff, ↓reduceIte, reduceCtorEq, Int.reduceToNat, Nat.reduceAdd, Nat.reduceMul, Int.reduceAdd, Int.reduceSub, Int.reduceLE, Int.reduceLT, Int.reduceNeg, Int.reduceMul, Int.reduceEq, Int.reduceNe, Nat.reduceLeDiff, Nat.reduceSub, hn0, x1.sc, x2.sc, h2.sc.1, h3.sc.1, h2.nil_len, h3.nil_len]
  refine wCall_plain (types0 (ft g0)) ?_
  rintro _ _ ⟨rfl, rfl⟩
  simp only [XX, wC_seq, wC_seqj, splice_def, Nat.reduceEqDiff, ↓reduceIte, reduceCtorEq, Int.reduceToNat, Nat.reduceAdd, Nat.reduceMul, Int.reduceAdd, Int.reduceSub, Int.reduceLE, Int.reduceLT, Int.reduceNeg, Int.reduceMul, Int.reduceEq, Int.reduceNe, Nat.reduceLeDiff, Nat.reduceSub, hn0]
  refine wCall_plain (named0 g0.wf (fsch g0) h0) ?_
  rintro _ S1 ⟨g1, rm, rfl, hrm, tm, mrm⟩
  have G1 := g0.trans g1
  have b1 := g1.cells r0
  obtain ⟨n1, hn1⟩ : ∃ n, S1.nx = up 0 n := ⟨_, up0 _⟩
  have w1 := g1.wf
  have o10 := fun k => nes (ne_up w1 hn1 (ne_cells b1) k)
  have hrm1 : S1.row rm ≠ .none := by rw [mrm]; exact fun e => by cases e
  have spl : splice [.mnil, .int .i64 0] 0 [.map rm] = [.map rm, .int .i64 0] := rfl
  simp only [XX, wC_seq, wC_seqj, splice_def, Nat.reduceEqDiff, ↓reduceIte, reduceCtorEq, Int.reduceToNat, Nat.reduceAdd, Nat.reduceMul, Int.reduceAdd, Int.reduceSub, Int.reduceLE, Int.reduceLT, Int.reduceNeg, Int.reduceMul, Int.reduceEq, Int.reduceNe, Nat.reduceLeDiff, Nat.reduceSub, hn1, o10, b1, sc_mnil, cells_mnil, h2.nil_len]
  refine wC_loop1 (by decide) ?_
  have gL : Gr S1 (S1.new fun t => .cells t [.map rm, .int .i64 0]) := Gr.new w1 (good_cells _)
  have hL0 : LookAt (fun r => P r ∧ st.row r ≠ .none) (S1.new fun t => .cells t [.map rm, .int .i64 0]) (up 0 n1) rm [] 0 := by
    refine ⟨⟨[], ⟨tm, ?_⟩, rfl, fun i h => absurd h (by simp)⟩, ⟨S1.t, ?_⟩, fun r p => ?_, ne_up w1 hn1 hrm1 0⟩
    · rw [gL.same rm hrm1, mrm]; rfl
    · simp only [XX, wC_seq, wC_seqj, splice_def, Nat.reduceEqDiff, ↓reduceIte, reduceCtorEq, Int.reduceToNat, Nat.reduceAdd, Nat.reduceMul, Int.reduceAdd, Int.reduceSub, Int.reduceLE, Int.reduceLT, Int.reduceNeg, Int.reduceMul, Int.reduceEq, Int.reduceNe, Nat.reduceLeDiff, Nat.reduceSub, hn1]; rfl
    · exact ne_up w1 hn1 (by rw [G1.same r p.2]; exact p.2) 0
  have lv : ∀ {S : St} {T : Ty} {E : List V}, Gr st S → TyC P st E T → TyC (fun r => P r ∧ st.row r ≠ .none) S E T := fun g h => h.imp fun r p e => ⟨⟨p, e⟩, g.same r e⟩
  have b2 := gL.cells b1
  have G2 := G1.trans gL
  simp only [XX, wC_seq, wC_seqj, splice_def, Nat.reduceEqDiff, ↓reduceIte, reduceCtorEq, Int.reduceToNat, Nat.reduceAdd, Nat.reduceMul, Int.reduceAdd, Int.reduceSub, Int.reduceLE, Int.reduceLT, Int.reduceNeg, Int.reduceMul, Int.reduceEq, Int.reduceNe, Nat.reduceLeDiff, Nat.reduceSub, hn1, o10, b1]
  refine wCall_plain (mayD (deep := 1) gL.wf hL0 (lv G2 h1') (by decide) (by decide)) ?_
  rintro _ S2 ⟨c2, L2, rfl⟩
  have q1 : st.row (up 0 n1) = .none := Ch.fresh (Ch.of (fun _ => False) G1) (nx0 w1 hn1 0)
  have G3 : Ch (fun _ => False) st S2 := (Ch.of _ G2).trans c2 fun r w => .inr (by rw [w]; exact q1)
  have b3 : S2.row (up 0 n) = .cells st.t [.int .i64 k, ofL nm, nv, kv, tv, sv] := by rw [c2.same _ (ne_cells b2) (ne_up w1 hn1 (ne_cells b1) 0), b2]
  have w2 := c2.wf
  have ft' : ∀ {S : St}, Ch (fun _ => False) st S → LstAt (NmC P S) P S tv 5 [] := fun g => h2.imp (fun e x h => h.imp fun r p e => ⟨p, g.same r e id⟩) fun r p e => ⟨p, g.same r e id⟩
  have fs' : ∀ {S : St}, Ch (fun _ => False) st S → LstAt (SgC P S) P S sv 6 [] := fun g => h3.imp (fun e x h => h.imp fun r p e => ⟨p, g.same r e id⟩) fun r p e => ⟨p, g.same r e id⟩
  have fsch' : ∀ {S : St}, Ch (fun _ => False) st S → SchC (fun r => P r ∧ st.row r ≠ .none) S ([.int .i64 k, ofL nm, nv, kv] ++ [tv, sv]) s := fun g => hsch.imp fun r p e => ⟨⟨p, e⟩, g.same r e id⟩
  have hcnt := mayS_cnt (hasN []) (.mk k nm ns ks) 1 0
  have hm4 := mayS_met (hasN []) (.mk k nm ns ks) 1 0 (by decide)
  by_cases he : (mayS (hasN []) (.mk k nm ns ks) 1 0).1 = 0
  · have he' : ((mayS (hasN []) (.mk k nm ns ks) 1 0).1 = 0) = True := eq_true he
    rw [if_neg (fun h => h he)] at hchk
    simp only [XX, wC_seq, wC_seqj, splice_def, Nat.reduceEqDiff, ↓reduceIte, reduceCtorEq, Int.reduceToNat, Nat.reduceAdd, Nat.reduceMul, Int.reduceAdd, Int.reduceSub, Int.reduceLE, Int.reduceLT, Int.reduceNeg, Int.reduceMul, Int.reduceEq, Int.reduceNe, Nat.reduceLeDiff, Nat.reduceSub, he', b3]
    refine wCall_plain (sigs0 (fs' G3)) ?_
    rintro _ _ ⟨rfl, rfl⟩
    simp only [XX, wC_seq, wC_seqj, splice_def, Nat.reduceEqDiff, ↓reduceIte, reduceCtorEq, Int.reduceToNat, Nat.reduceAdd, Nat.reduceMul, Int.reduceAdd, Int.reduceSub, Int.reduceLE, Int.reduceLT, Int.reduceNeg, Int.reduceMul, Int.reduceEq, Int.reduceNe, Nat.reduceLeDiff, Nat.reduceSub, b3, (ft' G3).nil_len]
    refine wC_loop1 (by decide) ?_
    simp only [XX, wC_seq, wC_seqj, splice_def, Nat.reduceEqDiff, ↓reduceIte, reduceCtorEq, Int.reduceToNat, Nat.reduceAdd, Nat.reduceMul, Int.reduceAdd, Int.reduceSub, Int.reduceLE, Int.reduceLT, Int.reduceNeg, Int.reduceMul, Int.reduceEq, Int.reduceNe, Nat.reduceLeDiff, Nat.reduceSub, b3]
    refine wCall_plain (every0 (Q := fun r => (P r ∧ st.row r ≠ .none) ∨ S2.row r = .none) w2 (fsch' G3) h0 h00 (fun r p => .inl p) (fun r p => .inr p)) ?_
    rintro ev S4 ⟨g4, hev⟩
    rw [← hM] at hev
    have hcn : cntT (.mk k nm ns ks) < 1000000 := by have h1 := hcnt he; have h2 := hm4.2 he; omega
    have hL4 : LookAt (fun r => (P r ∧ st.row r ≠ .none) ∨ S2.row r = .none) S2 (up 0 n1) rm [] (mayS (hasN []) (.mk k nm ns ks) 1 0).2 := by
      refine ⟨⟨[], ?_, rfl, fun i h => absurd h (by simp)⟩, L2.cell, fun r p => ?_, L2.ne⟩
      · obtain ⟨es', h5, h6, _⟩ := L2.map
        rw [List.length_eq_zero_iff.1 h6] at h5
        exact h5
      · rcases p with p | p
        · exact L2.sep r p
        · exact fun e => L2.krne (by rw [← e]; exact p)
    simp only [XX, wC_seq, wC_seqj, splice_def, Nat.reduceEqDiff, ↓reduceIte, reduceCtorEq, Int.reduceToNat, Nat.reduceAdd, Nat.reduceMul, Int.reduceAdd, Int.reduceSub, Int.reduceLE, Int.reduceLT, Int.reduceNeg, Int.reduceMul, Int.reduceEq, Int.reduceNe, Nat.reduceLeDiff, Nat.reduceSub]
    refine wCall_plain (containsFuncC (fa := [.ptr (up 0 n1) 0]) (fb := []) (optsS []) g4.wf hev (by simp) fun i hi S' E' g' hE' => ?_) ?_
    · have : i = 0 := by simp at hi; omega
      subst this
      exact optsC _ _ (Nat.lt_succ_self _) _ S' (up 0 n1) rm [] _ E' g'.wf (hL4.gr (g4.trans g')) hE' (by decide) hcn
    · rintro _ S5 ⟨g5, rfl⟩
      have GF : ∀ r, st.row r ≠ .none → S5.row r = st.row r := fun r e => by
        have e2 := G3.same r e id
        rw [(g4.trans g5).same r (by rw [e2]; exact e), e2]
      cases ho : [Ty.mk k nm ns ks].any (optsS []) with
      | true =>
        simp only [XX, wC_seq, wC_seqj, splice_def, Nat.reduceEqDiff, ↓reduceIte, reduceCtorEq, Int.reduceToNat, Nat.reduceAdd, Nat.reduceMul, Int.reduceAdd, Int.reduceSub, Int.reduceLE, Int.reduceLT, Int.reduceNeg, Int.reduceMul, Int.reduceEq, Int.reduceNe, Nat.reduceLeDiff, Nat.reduceSub]
        refine fin _ _ GF fun _ => ?_
        rw [hchk, optssS_any, ho]; rfl
      | false =>
        simp only [XX, wC_seq, wC_seqj, splice_def, Nat.reduceEqDiff, ↓reduceIte, reduceCtorEq, Int.reduceToNat, Nat.reduceAdd, Nat.reduceMul, Int.reduceAdd, Int.reduceSub, Int.reduceLE, Int.reduceLT, Int.reduceNeg, Int.reduceMul, Int.reduceEq, Int.reduceNe, Nat.reduceLeDiff, Nat.reduceSub]
        refine fin _ _ GF fun _ => ?_
        rw [hchk, optssS_any, ho]; rfl
  · have he' : ((mayS (hasN []) (.mk k nm ns ks) 1 0).1 = 0) = False := eq_false he
    rw [if_pos he] at hchk
    simp only [XX, wC_seq, wC_seqj, splice_def, Nat.reduceEqDiff, ↓reduceIte, reduceCtorEq, Int.reduceToNat, Nat.reduceAdd, Nat.reduceMul, Int.reduceAdd, Int.reduceSub, Int.reduceLE, Int.reduceLT, Int.reduceNeg, Int.reduceMul, Int.reduceEq, Int.reduceNe, Nat.reduceLeDiff, Nat.reduceSub, he']
    refine fin _ _ (fun r e => G3.same r e id) fun _ => ?_
    rw [hchk]
end Go.Proofs.Ytajifckdgaoncaa
