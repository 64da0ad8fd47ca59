/- Opts in Opts. -/
import Derived.Test.YtajifckdgaoncaaAll
namespace Go.Proofs.Ytajifckdgaoncaa
open Eva Go.RowKit
set_option maxRecDepth 100000
set_option linter.unusedSimpArgs false
set_option linter.unusedVariables false
theorem indexFuncC {P : Pt → Prop} {st : St} {v : V} {ts : List Ty} {g : Nat} {fa fb : List V} (p : Ty → Bool) (hw : WF st) (h : LstAt (TyC P st) P st v 4 ts) (hl : ts.length < 1000000)
    (hc : ∀ i (hi : i < ts.length) (S : St) (e : List V), Gr st S → TyC P S e ts[i] → Does (tabT tabD) g (fa ++ [.agg e] ++ fb) S fun v S' => Gr S S' ∧ v = .bool (p ts[i])) :
    Does (tabT tabD) n_slices_IndexFunc_Type [v, .fn g fa fb] st fun v' st' => Gr st st' ∧ v' = .int .i64 (match firstI p ts 0 with | some j => (j : Int) | none => -1) := by
  refine does_fnG tabM at_slices_IndexFunc_Type rfl hw fun K fin => ?_
  have l1 := h.len
  simp only [cf_slices_IndexFunc_Type, XX, wC_seq, wC_seqj, splice_def, Nat.reduceEqDiff, ↓reduceIte, reduceCtorEq, Int.reduceToNat, Nat.reduceAdd, Nat.reduceMul, Int.reduceAdd, Int.reduceSub, Int.reduceLE, Int.reduceLT, Int.reduceNeg, Int.reduceMul, Int.reduceEq, Int.reduceNe, Nat.reduceLeDiff, Nat.reduceSub, l1]
  obtain ⟨L, hL⟩ : ∃ L : Nat → Fr → St → Prop, ∀ j fr S, L j fr S ↔ ∃ (i : Nat), Gr st S ∧ j + i = ts.length ∧ fr 0 = v ∧ fr 1 = .fn g fa fb ∧ fr 7 = .int .i64 ts.length ∧ fr 8 = .int .i64 i ∧ firstI p ts 0 = firstI p (ts.drop i) i := ⟨_, fun _ _ _ => Iff.rfl⟩
  refine wC_loop L ts.length hl ((hL _ _ _).2 ⟨0, Gr.refl hw, by omega, by simp only [XX, wC_seq, wC_seqj, splice_def, Nat.reduceEqDiff, ↓reduceIte, reduceCtorEq, Int.reduceToNat, Nat.reduceAdd, Nat.reduceMul, Int.reduceAdd, Int.reduceSub, Int.reduceLE, Int.reduceLT, Int.reduceNeg, Int.reduceMul, Int.reduceEq, Int.reduceNe, Nat.reduceLeDiff, Nat.reduceSub], by simp only [XX, wC_seq, wC_seqj, splice_def, Nat.reduceEqDiff, ↓reduceIte, reduceCtorEq, Int.reduceToNat, Nat.reduceAdd, Nat.reduceMul, Int.reduceAdd, Int.reduceSub, Int.reduceLE, Int.reduceLT, Int.reduceNeg, Int.reduceMul, Int.reduceEq, Int.reduceNe, Nat.reduceLeDiff, Nat.reduceSub], by simp only [XX, wC_seq, wC_seqj, splice_def, Nat.reduceEqDiff, ↓reduceIte, reduceCtorEq, Int.reduceToNat, Nat.reduceAdd, Nat.reduceMul, Int.reduceAdd, Int.reduceSub, Int.reduceLE, Int.reduceLT, Int.reduceNeg, Int.reduceMul, Int.reduceEq, Int.reduceNe, Nat.reduceLeDiff, Nat.reduceSub], by simp only [XX, wC_seq, wC_seqj, splice_def, Nat.reduceEqDiff, ↓reduceIte, reduceCtorEq, Int.reduceToNat, Nat.reduceAdd, Nat.reduceMul, Int.reduceAdd, Int.reduceSub, Int.reduceLE, Int.reduceLT, Int.reduceNeg, Int.reduceMul, Int.reduceEq, Int.reduceNe, Nat.reduceLeDiff, Nat.reduceSub]; rfl, rfl⟩) ?_
  intro j fr S hLj
  obtain ⟨i, hg, hj, f0, f1, f7, f8, hrec⟩ := (hL _ _ _).1 hLj
  by_cases hi : i < ts.length
  · have hi' : (i : Int) < ts.length := by omega
    obtain ⟨q, qo, E, a1, a2, a3, a4, hx4, e4, a5⟩ := (h.imp (fun e x h => h.gr hg) (fun r p e => ⟨p, hg.same r e⟩) : LstAt (TyC P S) P S v 4 ts).elem hi
    have hadd1 : IntKind.i64.wrap ((i : Int) + 1) = ((i + 1 : Nat) : Int) := by rw [i64_in (by omega) (by omega)]; rfl
    simp only [XX, wC_seq, wC_seqj, splice_def, Nat.reduceEqDiff, ↓reduceIte, reduceCtorEq, Int.reduceToNat, Nat.reduceAdd, Nat.reduceMul, Int.reduceAdd, Int.reduceSub, Int.reduceLE, Int.reduceLT, Int.reduceNeg, Int.reduceMul, Int.reduceEq, Int.reduceNe, Nat.reduceLeDiff, Nat.reduceSub, f0, f1, f7, f8, hi', a1, a4]
    refine wCall_plain (by simpa using hc i hi S E hg hx4) ?_
    rintro _ S2 ⟨g2, rfl⟩
    rw [List.drop_eq_getElem_cons hi, firstI] at hrec
    cases hp : p ts[i] with
    | true =>
      rw [if_pos hp] at hrec
      simp only [XX, wC_seq, wC_seqj, splice_def, Nat.reduceEqDiff, ↓reduceIte, reduceCtorEq, Int.reduceToNat, Nat.reduceAdd, Nat.reduceMul, Int.reduceAdd, Int.reduceSub, Int.reduceLE, Int.reduceLT, Int.reduceNeg, Int.reduceMul, Int.reduceEq, Int.reduceNe, Nat.reduceLeDiff, Nat.reduceSub, f0, f1, f7, f8]
      refine fin _ _ (fun r e => (hg.trans g2).same r e) fun _ => ?_
      rw [hrec]
    | false =>
      rw [if_neg (by rw [hp]; simp)] at hrec
      simp only [XX, wC_seq, wC_seqj, splice_def, Nat.reduceEqDiff, ↓reduceIte, reduceCtorEq, Int.reduceToNat, Nat.reduceAdd, Nat.reduceMul, Int.reduceAdd, Int.reduceSub, Int.reduceLE, Int.reduceLT, Int.reduceNeg, Int.reduceMul, Int.reduceEq, Int.reduceNe, Nat.reduceLeDiff, Nat.reduceSub, f0, f1, f7, f8, hadd1]
      exact ⟨ts.length - (i + 1), by omega, (hL _ _ _).2 ⟨i + 1, hg.trans g2, by omega, by simp only [XX, wC_seq, wC_seqj, splice_def, Nat.reduceEqDiff, ↓reduceIte, reduceCtorEq, Int.reduceToNat, Nat.reduceAdd, Nat.reduceMul, Int.reduceAdd, Int.reduceSub, Int.reduceLE, Int.reduceLT, Int.reduceNeg, Int.reduceMul, Int.reduceEq, Int.reduceNe, Nat.reduceLeDiff, Nat.reduceSub, f0], by simp only [XX, wC_seq, wC_seqj, splice_def, Nat.reduceEqDiff, ↓reduceIte, reduceCtorEq, Int.reduceToNat, Nat.reduceAdd, Nat.reduceMul, Int.reduceAdd, Int.reduceSub, Int.reduceLE, Int.reduceLT, Int.reduceNeg, Int.reduceMul, Int.reduceEq, Int.reduceNe, Nat.reduceLeDiff, Nat.reduceSub, f1], by simp only [XX, wC_seq, wC_seqj, splice_def, Nat.reduceEqDiff, ↓reduceIte, reduceCtorEq, Int.reduceToNat, Nat.reduceAdd, Nat.reduceMul, Int.reduceAdd, Int.reduceSub, Int.reduceLE, Int.reduceLT, Int.reduceNeg, Int.reduceMul, Int.reduceEq, Int.reduceNe, Nat.reduceLeDiff, Nat.reduceSub, f7], by simp only [XX, wC_seq, wC_seqj, splice_def, Nat.reduceEqDiff, ↓reduceIte, reduceCtorEq, Int.reduceToNat, Nat.reduceAdd, Nat.reduceMul, Int.reduceAdd, Int.reduceSub, Int.reduceLE, Int.reduceLT, Int.reduceNeg, Int.reduceMul, Int.reduceEq, Int.reduceNe, Nat.reduceLeDiff, Nat.reduceSub], hrec⟩⟩
  · have hi' : ¬ (i : Int) < ts.length := by omega
    have hie : i = ts.length := by omega
    rw [hie, List.drop_length, firstI] at hrec
    simp only [XX, wC_seq, wC_seqj, splice_def, Nat.reduceEqDiff, ↓reduceIte, reduceCtorEq, Int.reduceToNat, Nat.reduceAdd, Nat.reduceMul, Int.reduceAdd, Int.reduceSub, Int.reduceLE, Int.reduceLT, Int.reduceNeg, Int.reduceMul, Int.reduceEq, Int.reduceNe, Nat.reduceLeDiff, Nat.reduceSub, f0, f1, f7, f8, hi']
    refine fin _ _ (fun r e => hg.same r e) fun _ => ?_
    rw [hrec]
theorem containsFuncC {P : Pt → Prop} {st : St} {v : V} {ts : List Ty} {g : Nat} {fa fb : List V} (p : Ty → Bool) (hw : WF st) (h : LstAt (TyC P st) P st v 4 ts) (hl : ts.length < 1000000)
    (hc : ∀ i (hi : i < ts.length) (S : St) (e : List V), Gr st S → TyC P S e ts[i] → Does (tabT tabD) g (fa ++ [.agg e] ++ fb) S fun v S' => Gr S S' ∧ v = .bool (p ts[i])) :
    Does (tabT tabD) n_slices_ContainsFunc_Type [v, .fn g fa fb] st fun v' st' => Gr st st' ∧ v' = .bool (ts.any p) := by
  refine does_fnG tabM at_slices_ContainsFunc_Type rfl hw fun K fin => ?_
  simp only [cf_slices_ContainsFunc_Type, XX, wC_seq, wC_seqj, splice_def, Nat.reduceEqDiff, ↓reduceIte, reduceCtorEq, Int.reduceToNat, Nat.reduceAdd, Nat.reduceMul, Int.reduceAdd, Int.reduceSub, Int.reduceLE, Int.reduceLT, Int.reduceNeg, Int.reduceMul, Int.reduceEq, Int.reduceNe, Nat.reduceLeDiff, Nat.reduceSub]
  refine wCall_plain (indexFuncC p hw h hl hc) ?_
  rintro _ S2 ⟨g2, rfl⟩
  have ha := firstI_any p ts 0
  cases hf : firstI p ts 0 with
  | none =>
    rw [hf] at ha
    simp only [XX, wC_seq, wC_seqj, splice_def, Nat.reduceEqDiff, ↓reduceIte, reduceCtorEq, Int.reduceToNat, Nat.reduceAdd, Nat.reduceMul, Int.reduceAdd, Int.reduceSub, Int.reduceLE, Int.reduceLT, Int.reduceNeg, Int.reduceMul, Int.reduceEq, Int.reduceNe, Nat.reduceLeDiff, Nat.reduceSub]
    refine fin _ _ (fun r e => g2.same r e) fun _ => ?_
    rw [← ha]; rfl
  | some j =>
    rw [hf] at ha
    have h0 : (0 : Int) ≤ (j : Int) := by omega
    simp only [XX, wC_seq, wC_seqj, splice_def, Nat.reduceEqDiff, ↓reduceIte, reduceCtorEq, Int.reduceToNat, Nat.reduceAdd, Nat.reduceMul, Int.reduceAdd, Int.reduceSub, Int.reduceLE, Int.reduceLT, Int.reduceNeg, Int.reduceMul, Int.reduceEq, Int.reduceNe, Nat.reduceLeDiff, Nat.reduceSub, h0]
    refine fin _ _ (fun r e => g2.same r e) fun _ => ?_
    rw [← ha]; rfl
set_option maxHeartbeats 4000000 in
theorem optsC : ∀ (m : Nat) (ty : Ty), tsz ty < m → ∀ (P : Pt → Prop) (st : St) (kr rm : Pt) (l : List (Str × Ty)) (met : Nat) (e : List V), WF st → LookAt P st kr rm l met → TyC P st e ty → l.length < 1000000 → cntT ty < 1000000 →
    Does (tabT tabD) n_shape_looker_opts [.ptr kr 0, .agg e] st fun v st' => Gr st st' ∧ v = .bool (optsS l ty)
  | 0, _, h => absurd h (by omega)
  | m + 1, .mk k nm ns ks, hm => by
    intro P st kr rm l met e hw hL hx hl hsz
    refine does_fnG tabM at_shape_looker_opts rfl hw fun K fin => ?_
    obtain ⟨n, hn0⟩ : ∃ n, st.nx = up 0 n := ⟨_, up0 _⟩
    obtain ⟨nv, kv, es, rfl, x1, x2, x3, x4⟩ := hx.inv'
    have l2 := x2.len
    rw [x3] at l2
    have hS := optsS_mk l k nm ns ks
    have g0 : Gr st (st.new fun t => .cells t [.int .i64 k, ofL nm, nv, kv]) := Gr.new hw (good_cells _)
    have ok0 := fun k => nes (ne_up hw hn0 hL.krne k)
    have orm := fun k => nes (ne_up hw hn0 hL.mapne k)
    have hlen : ks.length < 1000000 := by have h1 := cnt_len ks; rw [cntT_mk] at hsz; omega
    have cl1 : (ks.length = 1) → ((ks.length : Int) = 1) = True := fun h => eq_true (by omega)
    have cl2 : ¬ (ks.length = 1) → ((ks.length : Int) = 1) = False := fun h => eq_false (by omega)
    have hx2 : LstAt (TyC P st) P st kv 4 ks := ⟨es, x2, x3, x4⟩
    obtain ⟨B, hB⟩ : ∃ B : Bool, B = (if k = 6 ∧ ks.length = 1 then decide ((openT l l.length (ks.headD zeroTy)).kind = 6) else false) := ⟨_, rfl⟩
    rw [← hB] at hS
    obtain ⟨I, hI⟩ : ∃ I : Fr → St → Prop, ∀ fr S, I fr S ↔ (Gr st S ∧ fr 0 = .ptr kr 0 ∧ fr 3 = .ptr (up 0 n) 0 ∧ S.row (up 0 n) = .cells st.t [.int .i64 k, ofL nm, nv, kv] ∧ B = false) := ⟨_, fun _ _ => Iff.rfl⟩
    simp only [cf_shape_looker_opts, XX, splice_def, Nat.reduceEqDiff, ↓reduceIte, reduceCtorEq, Int.reduceToNat, Nat.reduceAdd, Nat.reduceMul, Int.reduceAdd, Int.reduceSub, Int.reduceLE, Int.reduceLT, Int.reduceNeg, Int.reduceMul, Int.reduceEq, Int.reduceNe, Nat.reduceLeDiff, Nat.reduceSub]
    rw [wC_seq]
    simp only [XX, splice_def, Nat.reduceEqDiff, ↓reduceIte, reduceCtorEq, Int.reduceToNat, Nat.reduceAdd, Nat.reduceMul, Int.reduceAdd, Int.reduceSub, Int.reduceLE, Int.reduceLT, Int.reduceNeg, Int.reduceMul, Int.reduceEq, Int.reduceNe, Nat.reduceLeDiff, Nat.reduceSub, hn0, x1.cells, x2.cells, x1.sc, x2.sc]
    have r0 : (st.new fun t => .cells t [.int .i64 k, ofL nm, nv, kv]).row (up 0 n) = .cells st.t [.int .i64 k, ofL nm, nv, kv] := by simp only [XX, wC_seq, wC_seqj, splice_def, Nat.reduceEqDiff, ↓reduceIte, reduceCtorEq, Int.reduceToNat, Nat.reduceAdd, Nat.reduceMul, Int.reduceAdd, Int.reduceSub, Int.reduceLE, Int.reduceLT, Int.reduceNeg, Int.reduceMul, Int.reduceEq, Int.reduceNe, Nat.reduceLeDiff, Nat.reduceSub, hn0]
    refine wC_cut I ?_ ?_
    · by_cases k6 : k = 6
      · have k6' : (k = 6) = True := eq_true k6
        by_cases c1 : ks.length = 1
        · rw [if_pos ⟨k6, c1⟩] at hB
          have hi0 : 0 < ks.length := by omega
          obtain ⟨x, hx0⟩ : ∃ x, ks = [x] := List.length_eq_one_iff.1 c1
          obtain ⟨q, qo, E, a1, a2, a3, a4, hxE, e4, a5⟩ := hx2.elem hi0
          have a1 : iaddrSV 4 kv (.int .i64 0) = some (.ptr q qo, .no) := a1
          have hxE : TyC P st E x := by subst hx0; exact hxE
          have hhead : ks.headD zeroTy = x := by rw [hx0]; rfl
          rw [hhead] at hB
          have oq := fun k => nes (ne_up hw hn0 a3 k)
          have eok := hxE.ok
          have espl : splice [.int .i64 0, ofL [], .snil, .snil] 0 E = E := splice_all (by rw [e4]; rfl)
          obtain ⟨tk, ck⟩ := hL.cell
          obtain ⟨em, hmm, hml, _⟩ := hL.map
          obtain ⟨tm, hmm⟩ := hmm
          have hml' : ((em.map fun p => (p.1, V.agg p.2)).map fun p => (ofL p.1, p.2)).length = l.length := by simp [hml]
          have hrng : ∀ S : St, S.row rm = st.row rm → rngMV S (.map rm) = some (.ptr S.nx 0, .new fun t => .mit t (some rm) l.length 0) := fun S hS => by rw [rngM_at (hS.trans hmm), hml']
          simp only [XX, wC_seq, wC_seqj, splice_def, Nat.reduceEqDiff, ↓reduceIte, reduceCtorEq, Int.reduceToNat, Nat.reduceAdd, Nat.reduceMul, Int.reduceAdd, Int.reduceSub, Int.reduceLE, Int.reduceLT, Int.reduceNeg, Int.reduceMul, Int.reduceEq, Int.reduceNe, Nat.reduceLeDiff, Nat.reduceSub, hn0, l2, k6', cl1 c1, a1, oq, a4, e4, eok, espl, -splice_def, ok0, ck, wO_rngM, e_rngM, hrng, orm]
          obtain ⟨L, hLp⟩ : ∃ L : Nat → Fr → St → Prop, ∀ j fr S, L j fr S ↔ ∃ (i t1 t2 : Nat) (c : List V), j + i = l.length ∧ Gr st S ∧ fr 0 = .ptr kr 0 ∧ fr 3 = .ptr (up 0 n) 0 ∧ fr 5 = .ptr (up 1 n) 0 ∧ fr 23 = .ptr (up 2 n) 0 ∧ S.row (up 0 n) = .cells st.t [.int .i64 k, ofL nm, nv, kv] ∧ S.row (up 1 n) = .cells t1 c ∧ TyC (fun r => P r ∧ st.row r ≠ .none) S c (openT l i x) ∧ S.row (up 2 n) = .mit t2 (some rm) l.length i := ⟨_, fun _ _ _ => Iff.rfl⟩
          have gS : Gr st ((((st.new fun t => .cells t [.int .i64 k, ofL nm, nv, kv]).new fun t => .cells t [.int .i64 0, ofL [], .snil, .snil]).wr (up 1 n) (st.new fun t => .cells t [.int .i64 k, ofL nm, nv, kv]).t fun u => .cells u E).new fun t => .mit t (some rm) l.length 0) := (g0.nw (by simp only [nx_new, hn0, up_suc, Nat.zero_add]) (good_cells _) (good_cells _)).nn fun u => ⟨rfl, fun e => by cases e⟩
          refine wC_loop L l.length hl ((hLp _ _ _).2 ⟨0, _, _, E, by omega, gS, by simp only [XX, wC_seq, wC_seqj, splice_def, Nat.reduceEqDiff, ↓reduceIte, reduceCtorEq, Int.reduceToNat, Nat.reduceAdd, Nat.reduceMul, Int.reduceAdd, Int.reduceSub, Int.reduceLE, Int.reduceLT, Int.reduceNeg, Int.reduceMul, Int.reduceEq, Int.reduceNe, Nat.reduceLeDiff, Nat.reduceSub], by simp only [XX, wC_seq, wC_seqj, splice_def, Nat.reduceEqDiff, ↓reduceIte, reduceCtorEq, Int.reduceToNat, Nat.reduceAdd, Nat.reduceMul, Int.reduceAdd, Int.reduceSub, Int.reduceLE, Int.reduceLT, Int.reduceNeg, Int.reduceMul, Int.reduceEq, Int.reduceNe, Nat.reduceLeDiff, Nat.reduceSub], by simp only [XX, wC_seq, wC_seqj, splice_def, Nat.reduceEqDiff, ↓reduceIte, reduceCtorEq, Int.reduceToNat, Nat.reduceAdd, Nat.reduceMul, Int.reduceAdd, Int.reduceSub, Int.reduceLE, Int.reduceLT, Int.reduceNeg, Int.reduceMul, Int.reduceEq, Int.reduceNe, Nat.reduceLeDiff, Nat.reduceSub], by simp only [XX, wC_seq, wC_seqj, splice_def, Nat.reduceEqDiff, ↓reduceIte, reduceCtorEq, Int.reduceToNat, Nat.reduceAdd, Nat.reduceMul, Int.reduceAdd, Int.reduceSub, Int.reduceLE, Int.reduceLT, Int.reduceNeg, Int.reduceMul, Int.reduceEq, Int.reduceNe, Nat.reduceLeDiff, Nat.reduceSub], by simp only [XX, wC_seq, wC_seqj, splice_def, Nat.reduceEqDiff, ↓reduceIte, reduceCtorEq, Int.reduceToNat, Nat.reduceAdd, Nat.reduceMul, Int.reduceAdd, Int.reduceSub, Int.reduceLE, Int.reduceLT, Int.reduceNeg, Int.reduceMul, Int.reduceEq, Int.reduceNe, Nat.reduceLeDiff, Nat.reduceSub, hn0], by simp only [XX, wC_seq, wC_seqj, splice_def, Nat.reduceEqDiff, ↓reduceIte, reduceCtorEq, Int.reduceToNat, Nat.reduceAdd, Nat.reduceMul, Int.reduceAdd, Int.reduceSub, Int.reduceLE, Int.reduceLT, Int.reduceNeg, Int.reduceMul, Int.reduceEq, Int.reduceNe, Nat.reduceLeDiff, Nat.reduceSub, hn0]; rfl, (hxE.imp fun r p e => ⟨⟨p, e⟩, rfl⟩ : TyC (fun r => P r ∧ st.row r ≠ .none) st E x).gr gS, by simp only [XX, wC_seq, wC_seqj, splice_def, Nat.reduceEqDiff, ↓reduceIte, reduceCtorEq, Int.reduceToNat, Nat.reduceAdd, Nat.reduceMul, Int.reduceAdd, Int.reduceSub, Int.reduceLE, Int.reduceLT, Int.reduceNeg, Int.reduceMul, Int.reduceEq, Int.reduceNe, Nat.reduceLeDiff, Nat.reduceSub, hn0]; rfl⟩) ?_
          intro j fr S hLj
          obtain ⟨i, t1, t2, c, hj, hg, f0, f3, f5, f23, r0, r1, hc, r2⟩ := (hLp _ _ _).1 hLj
          have hmS : S.row rm = .mob tm ((em.map fun p => (p.1, V.agg p.2)).map fun p => (ofL p.1, p.2)) := (hg.same rm hL.mapne).trans hmm
          have ckS := hg.cells ck
          have c4 := hc.four
          obtain ⟨T, hT⟩ : ∃ T, T = openT l i x := ⟨_, rfl⟩
          rw [← hT] at hc
          have hlast := openT_last l i x
          rw [← hT] at hlast
          obtain ⟨k', n', ns', ks'⟩ := T
          have hlast : openT l (i + 1) x = if k' = 9 then (defN l n').getD zeroTy else .mk k' n' ns' ks' := hlast
          obtain ⟨nv', kv', es', rfl, y1, y2, y3, y4⟩ := hc.inv'
          have hq0 := nx0 hw hn0
          have rne2 := up_eq 2 1 n
          by_cases hi : i < l.length
          · have hnx := nextM_more (st := S) (q := up 2 n) (r := rm) (n := i) (t := t2) (es := ((em.map fun p => (p.1, V.agg p.2)).map fun p => (ofL p.1, p.2))) (by rw [hml']; exact r2) hmS (by rw [hml']; exact hi)
            rw [hml'] at hnx
            have g2 : Gr st (S.wr (up 2 n) t2 fun u => .mit u (some rm) l.length (i + 1)) := hg.wr (hq0 2) (by rw [r2]; exact fun e => by cases e) (by rw [r2]; rfl) fun u => ⟨rfl, fun e => by cases e⟩
            have o2m := nes (ne_up hw hn0 hL.mapne 2)
            have o2k := nes (ne_up hw hn0 hL.krne 2)
            by_cases k9 : k' = 9
            · have k9' : (k' = 9) = True := eq_true k9
              obtain ⟨zv, hz, hz2⟩ := hL.map.look (.agg [.int .i64 0, ofL [], .snil, .snil]) n'
              have hz' : ∃ c', zv = .agg c' ∧ TyC P st c' ((defN l n').getD zeroTy) := by
                cases hd : defN l n' with
                | none => rw [hd] at hz2; exact ⟨_, hz2, zTy_at P st⟩
                | some t => rw [hd] at hz2; obtain ⟨c', a, b⟩ := hz2; exact ⟨c', a, b⟩
              obtain ⟨c', rfl, hc'⟩ := hz'
              have hlk : ∀ S' : St, S'.row rm = S.row rm → lookupV S' (.one .s) (.agg [.int .i64 0, ofL [], .snil, .snil]) false (.map rm) (ofL n') = some (.agg c', .no) := fun S' hS' => by
                have := hz false S' (hS'.trans (hg.same rm hL.mapne)); simpa using this
              have c'4 := hc'.four
              have c'ok := hc'.ok
              have csp : splice [.int .i64 k', ofL n', nv', kv'] 0 c' = c' := splice_all (by rw [c'4]; rfl)
              simp only [XX, wC_seq, wC_seqj, splice_def, Nat.reduceEqDiff, ↓reduceIte, reduceCtorEq, Int.reduceToNat, Nat.reduceAdd, Nat.reduceMul, Int.reduceAdd, Int.reduceSub, Int.reduceLE, Int.reduceLT, Int.reduceNeg, Int.reduceMul, Int.reduceEq, Int.reduceNe, Nat.reduceLeDiff, Nat.reduceSub, f0, f3, f5, f23, wO_nextM, e_nextM, hnx, r1, k9', ckS, hlk, o2m, o2k, c'4, c'ok, csp, -splice_def]
              have r1' : (S.wr (up 2 n) t2 fun u => .mit u (some rm) l.length (i + 1)).row (up 1 n) = .cells t1 [.int .i64 k', ofL n', nv', kv'] := by rw [row_wrI, if_neg (by rw [up_eq]; decide)]; exact r1
              have g3 : Gr st ((S.wr (up 2 n) t2 fun u => .mit u (some rm) l.length (i + 1)).wr (up 1 n) t1 fun u => .cells u c') := g2.wr (hq0 1) (ne_cells r1') (by rw [r1']; rfl) (good_cells _)
              refine ⟨l.length - (i + 1), by omega, (hLp _ _ _).2 ⟨i + 1, _, _, c', by omega, g3, by simp only [XX, wC_seq, wC_seqj, splice_def, Nat.reduceEqDiff, ↓reduceIte, reduceCtorEq, Int.reduceToNat, Nat.reduceAdd, Nat.reduceMul, Int.reduceAdd, Int.reduceSub, Int.reduceLE, Int.reduceLT, Int.reduceNeg, Int.reduceMul, Int.reduceEq, Int.reduceNe, Nat.reduceLeDiff, Nat.reduceSub, f0], by simp only [XX, wC_seq, wC_seqj, splice_def, Nat.reduceEqDiff, ↓reduceIte, reduceCtorEq, Int.reduceToNat, Nat.reduceAdd, Nat.reduceMul, Int.reduceAdd, Int.reduceSub, Int.reduceLE, Int.reduceLT, Int.reduceNeg, Int.reduceMul, Int.reduceEq, Int.reduceNe, Nat.reduceLeDiff, Nat.reduceSub, f3], by simp only [XX, wC_seq, wC_seqj, splice_def, Nat.reduceEqDiff, ↓reduceIte, reduceCtorEq, Int.reduceToNat, Nat.reduceAdd, Nat.reduceMul, Int.reduceAdd, Int.reduceSub, Int.reduceLE, Int.reduceLT, Int.reduceNeg, Int.reduceMul, Int.reduceEq, Int.reduceNe, Nat.reduceLeDiff, Nat.reduceSub, f5], by simp only [XX, wC_seq, wC_seqj, splice_def, Nat.reduceEqDiff, ↓reduceIte, reduceCtorEq, Int.reduceToNat, Nat.reduceAdd, Nat.reduceMul, Int.reduceAdd, Int.reduceSub, Int.reduceLE, Int.reduceLT, Int.reduceNeg, Int.reduceMul, Int.reduceEq, Int.reduceNe, Nat.reduceLeDiff, Nat.reduceSub, f23], by simp only [XX, wC_seq, wC_seqj, splice_def, Nat.reduceEqDiff, ↓reduceIte, reduceCtorEq, Int.reduceToNat, Nat.reduceAdd, Nat.reduceMul, Int.reduceAdd, Int.reduceSub, Int.reduceLE, Int.reduceLT, Int.reduceNeg, Int.reduceMul, Int.reduceEq, Int.reduceNe, Nat.reduceLeDiff, Nat.reduceSub]; exact r0, by simp only [XX, wC_seq, wC_seqj, splice_def, Nat.reduceEqDiff, ↓reduceIte, reduceCtorEq, Int.reduceToNat, Nat.reduceAdd, Nat.reduceMul, Int.reduceAdd, Int.reduceSub, Int.reduceLE, Int.reduceLT, Int.reduceNeg, Int.reduceMul, Int.reduceEq, Int.reduceNe, Nat.reduceLeDiff, Nat.reduceSub]; rfl, ?_, by simp only [XX, wC_seq, wC_seqj, splice_def, Nat.reduceEqDiff, ↓reduceIte, reduceCtorEq, Int.reduceToNat, Nat.reduceAdd, Nat.reduceMul, Int.reduceAdd, Int.reduceSub, Int.reduceLE, Int.reduceLT, Int.reduceNeg, Int.reduceMul, Int.reduceEq, Int.reduceNe, Nat.reduceLeDiff, Nat.reduceSub]; rfl⟩⟩
              rw [hlast, if_pos k9]
              exact (hc'.imp fun r p e => ⟨⟨p, e⟩, rfl⟩ : TyC (fun r => P r ∧ st.row r ≠ .none) st c' _).gr g3
            · have k9' : (k' = 9) = False := eq_false k9
              simp only [XX, wC_seq, wC_seqj, splice_def, Nat.reduceEqDiff, ↓reduceIte, reduceCtorEq, Int.reduceToNat, Nat.reduceAdd, Nat.reduceMul, Int.reduceAdd, Int.reduceSub, Int.reduceLE, Int.reduceLT, Int.reduceNeg, Int.reduceMul, Int.reduceEq, Int.reduceNe, Nat.reduceLeDiff, Nat.reduceSub, f0, f3, f5, f23, wO_nextM, e_nextM, hnx, r1, k9']
              refine ⟨l.length - (i + 1), by omega, (hLp _ _ _).2 ⟨i + 1, t1, _, [.int .i64 k', ofL n', nv', kv'], by omega, g2, by simp only [XX, wC_seq, wC_seqj, splice_def, Nat.reduceEqDiff, ↓reduceIte, reduceCtorEq, Int.reduceToNat, Nat.reduceAdd, Nat.reduceMul, Int.reduceAdd, Int.reduceSub, Int.reduceLE, Int.reduceLT, Int.reduceNeg, Int.reduceMul, Int.reduceEq, Int.reduceNe, Nat.reduceLeDiff, Nat.reduceSub, f0], by simp only [XX, wC_seq, wC_seqj, splice_def, Nat.reduceEqDiff, ↓reduceIte, reduceCtorEq, Int.reduceToNat, Nat.reduceAdd, Nat.reduceMul, Int.reduceAdd, Int.reduceSub, Int.reduceLE, Int.reduceLT, Int.reduceNeg, Int.reduceMul, Int.reduceEq, Int.reduceNe, Nat.reduceLeDiff, Nat.reduceSub, f3], by simp only [XX, wC_seq, wC_seqj, splice_def, Nat.reduceEqDiff, ↓reduceIte, reduceCtorEq, Int.reduceToNat, Nat.reduceAdd, Nat.reduceMul, Int.reduceAdd, Int.reduceSub, Int.reduceLE, Int.reduceLT, Int.reduceNeg, Int.reduceMul, Int.reduceEq, Int.reduceNe, Nat.reduceLeDiff, Nat.reduceSub, f5], by simp only [XX, wC_seq, wC_seqj, splice_def, Nat.reduceEqDiff, ↓reduceIte, reduceCtorEq, Int.reduceToNat, Nat.reduceAdd, Nat.reduceMul, Int.reduceAdd, Int.reduceSub, Int.reduceLE, Int.reduceLT, Int.reduceNeg, Int.reduceMul, Int.reduceEq, Int.reduceNe, Nat.reduceLeDiff, Nat.reduceSub, f23], by simp only [XX, wC_seq, wC_seqj, splice_def, Nat.reduceEqDiff, ↓reduceIte, reduceCtorEq, Int.reduceToNat, Nat.reduceAdd, Nat.reduceMul, Int.reduceAdd, Int.reduceSub, Int.reduceLE, Int.reduceLT, Int.reduceNeg, Int.reduceMul, Int.reduceEq, Int.reduceNe, Nat.reduceLeDiff, Nat.reduceSub]; exact r0, by simp only [XX, wC_seq, wC_seqj, splice_def, Nat.reduceEqDiff, ↓reduceIte, reduceCtorEq, Int.reduceToNat, Nat.reduceAdd, Nat.reduceMul, Int.reduceAdd, Int.reduceSub, Int.reduceLE, Int.reduceLT, Int.reduceNeg, Int.reduceMul, Int.reduceEq, Int.reduceNe, Nat.reduceLeDiff, Nat.reduceSub]; exact r1, ?_, by simp only [XX, wC_seq, wC_seqj, splice_def, Nat.reduceEqDiff, ↓reduceIte, reduceCtorEq, Int.reduceToNat, Nat.reduceAdd, Nat.reduceMul, Int.reduceAdd, Int.reduceSub, Int.reduceLE, Int.reduceLT, Int.reduceNeg, Int.reduceMul, Int.reduceEq, Int.reduceNe, Nat.reduceLeDiff, Nat.reduceSub]; rfl⟩⟩
              rw [hlast, if_neg k9]
              exact hc.imp fun r p e => ⟨p, row_wr_ne _ _ _ (ne_up hw hn0 p.2 2)⟩
          · have hie : i = l.length := by omega
            have hnx := nextM_done (st := S) (q := up 2 n) (r := rm) (n := i) (t := t2) (es := ((em.map fun p => (p.1, V.agg p.2)).map fun p => (ofL p.1, p.2))) (by rw [hml']; exact r2) hmS (by rw [hml']; exact hi)
            rw [← hie, ← hT] at hB
            have hB : B = decide (k' = 6) := hB
            by_cases k6x : k' = 6
            · have k6x' : (k' = 6) = True := eq_true k6x
              simp only [XX, wC_seq, wC_seqj, splice_def, Nat.reduceEqDiff, ↓reduceIte, reduceCtorEq, Int.reduceToNat, Nat.reduceAdd, Nat.reduceMul, Int.reduceAdd, Int.reduceSub, Int.reduceLE, Int.reduceLT, Int.reduceNeg, Int.reduceMul, Int.reduceEq, Int.reduceNe, Nat.reduceLeDiff, Nat.reduceSub, f0, f3, f5, f23, wO_nextM, e_nextM, hnx, r1, k6x']
              refine fin _ _ (fun r e => hg.same r e) fun _ => ?_
              rw [hS, hB, decide_eq_true k6x]; rfl
            · have k6x' : (k' = 6) = False := eq_false k6x
              simp only [XX, wC_seq, wC_seqj, splice_def, Nat.reduceEqDiff, ↓reduceIte, reduceCtorEq, Int.reduceToNat, Nat.reduceAdd, Nat.reduceMul, Int.reduceAdd, Int.reduceSub, Int.reduceLE, Int.reduceLT, Int.reduceNeg, Int.reduceMul, Int.reduceEq, Int.reduceNe, Nat.reduceLeDiff, Nat.reduceSub, f0, f3, f5, f23, wO_nextM, e_nextM, hnx, r1, k6x']
              exact (hI _ _).2 ⟨hg, by simp only [XX, wC_seq, wC_seqj, splice_def, Nat.reduceEqDiff, ↓reduceIte, reduceCtorEq, Int.reduceToNat, Nat.reduceAdd, Nat.reduceMul, Int.reduceAdd, Int.reduceSub, Int.reduceLE, Int.reduceLT, Int.reduceNeg, Int.reduceMul, Int.reduceEq, Int.reduceNe, Nat.reduceLeDiff, Nat.reduceSub, f0], by simp only [XX, wC_seq, wC_seqj, splice_def, Nat.reduceEqDiff, ↓reduceIte, reduceCtorEq, Int.reduceToNat, Nat.reduceAdd, Nat.reduceMul, Int.reduceAdd, Int.reduceSub, Int.reduceLE, Int.reduceLT, Int.reduceNeg, Int.reduceMul, Int.reduceEq, Int.reduceNe, Nat.reduceLeDiff, Nat.reduceSub, f3], r0, by rw [hB]; exact decide_eq_false k6x⟩
        · rw [if_neg (fun h => c1 h.2)] at hB
          simp only [XX, wC_seq, wC_seqj, splice_def, Nat.reduceEqDiff, ↓reduceIte, reduceCtorEq, Int.reduceToNat, Nat.reduceAdd, Nat.reduceMul, Int.reduceAdd, Int.reduceSub, Int.reduceLE, Int.reduceLT, Int.reduceNeg, Int.reduceMul, Int.reduceEq, Int.reduceNe, Nat.reduceLeDiff, Nat.reduceSub, hn0, l2, k6', cl2 c1]
          exact (hI _ _).2 ⟨g0, by simp only [XX, wC_seq, wC_seqj, splice_def, Nat.reduceEqDiff, ↓reduceIte, reduceCtorEq, Int.reduceToNat, Nat.reduceAdd, Nat.reduceMul, Int.reduceAdd, Int.reduceSub, Int.reduceLE, Int.reduceLT, Int.reduceNeg, Int.reduceMul, Int.reduceEq, Int.reduceNe, Nat.reduceLeDiff, Nat.reduceSub], by simp only [XX, wC_seq, wC_seqj, splice_def, Nat.reduceEqDiff, ↓reduceIte, reduceCtorEq, Int.reduceToNat, Nat.reduceAdd, Nat.reduceMul, Int.reduceAdd, Int.reduceSub, Int.reduceLE, Int.reduceLT, Int.reduceNeg, Int.reduceMul, Int.reduceEq, Int.reduceNe, Nat.reduceLeDiff, Nat.reduceSub], r0, hB⟩
      · have k6' : (k = 6) = False := eq_false k6
        rw [if_neg (fun h => k6 h.1)] at hB
        simp only [XX, wC_seq, wC_seqj, splice_def, Nat.reduceEqDiff, ↓reduceIte, reduceCtorEq, Int.reduceToNat, Nat.reduceAdd, Nat.reduceMul, Int.reduceAdd, Int.reduceSub, Int.reduceLE, Int.reduceLT, Int.reduceNeg, Int.reduceMul, Int.reduceEq, Int.reduceNe, Nat.reduceLeDiff, Nat.reduceSub, hn0, l2, k6']
        exact (hI _ _).2 ⟨g0, by simp only [XX, wC_seq, wC_seqj, splice_def, Nat.reduceEqDiff, ↓reduceIte, reduceCtorEq, Int.reduceToNat, Nat.reduceAdd, Nat.reduceMul, Int.reduceAdd, Int.reduceSub, Int.reduceLE, Int.reduceLT, Int.reduceNeg, Int.reduceMul, Int.reduceEq, Int.reduceNe, Nat.reduceLeDiff, Nat.reduceSub], by simp only [XX, wC_seq, wC_seqj, splice_def, Nat.reduceEqDiff, ↓reduceIte, reduceCtorEq, Int.reduceToNat, Nat.reduceAdd, Nat.reduceMul, Int.reduceAdd, Int.reduceSub, Int.reduceLE, Int.reduceLT, Int.reduceNeg, Int.reduceMul, Int.reduceEq, Int.reduceNe, Nat.reduceLeDiff, Nat.reduceSub], r0, hB⟩
    · intro fr S hIf
      obtain ⟨hg, f0, f3, r0, hBf⟩ := (hI _ _).1 hIf
      simp only [XX, wC_seq, wC_seqj, splice_def, Nat.reduceEqDiff, ↓reduceIte, reduceCtorEq, Int.reduceToNat, Nat.reduceAdd, Nat.reduceMul, Int.reduceAdd, Int.reduceSub, Int.reduceLE, Int.reduceLT, Int.reduceNeg, Int.reduceMul, Int.reduceEq, Int.reduceNe, Nat.reduceLeDiff, Nat.reduceSub, f0, f3, r0]
      refine wCall_plain (containsFuncC (fa := [.ptr kr 0]) (fb := []) (optsS l) hg.wf (hx2.imp (fun e x h => h.gr hg) fun r p e => ⟨p, hg.same r e⟩) hlen fun i hi S' E' g' hE' => ?_) ?_
      · have h1 := cnt_kid hi
        have h2 := cntT_mk k nm ns ks
        exact optsC m ks[i] (by have := tsz_kid (k := k) (n := nm) (ns := ns) hi; omega) P S' kr rm l met E' g'.wf (hL.gr (hg.trans g')) hE' hl (by omega)
      · rintro _ S2 ⟨g2, rfl⟩
        simp only [XX, wC_seq, wC_seqj, splice_def, Nat.reduceEqDiff, ↓reduceIte, reduceCtorEq, Int.reduceToNat, Nat.reduceAdd, Nat.reduceMul, Int.reduceAdd, Int.reduceSub, Int.reduceLE, Int.reduceLT, Int.reduceNeg, Int.reduceMul, Int.reduceEq, Int.reduceNe, Nat.reduceLeDiff, Nat.reduceSub]
        refine fin _ _ (fun r e => (hg.trans g2).same r e) fun _ => ?_
        rw [hS, hBf, optssS_any]; rfl
end Go.Proofs.Ytajifckdgaoncaa
