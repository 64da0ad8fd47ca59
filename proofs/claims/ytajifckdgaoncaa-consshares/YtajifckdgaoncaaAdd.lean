/- A type added to a table. -/
import Derived.Test.YtajifckdgaoncaaLay
namespace Go.Proofs.Ytajifckdgaoncaa
open Eva Go.RowKit
set_option maxRecDepth 100000
set_option linter.unusedSimpArgs false
set_option linter.unusedVariables false
def AddPost (W F : Pt → Prop) (st st' : St) (rt lp : Pt) (tb' : Tb) (left' : Int) : Prop :=
  Ch (fun r => W r ∨ r = lp) st st' ∧ (∃ W' F' : Pt → Prop, (∀ r, W r → W' r) ∧ (∀ r, W' r → W r ∨ st.row r = .none) ∧ (∀ r, F' r → F r ∨ st.row r = .none) ∧ Tab W' F' st' rt tb') ∧ ∃ t, st'.row lp = .cells t [.int .i64 left']
theorem pre_nil (x : Tb × List Nat × Int × Int) : pre [] x = x := by simp [pre]
structure AddI (W F : Pt → Prop) (st : St) (rt lp : Pt) (n : Pt) (k : Int) (nm : Str) (nv kv : V) (ks : List Ty) (left : Int) (tb : Tb) (j : Nat) (fr : Fr) (S : St) (i : Nat) (Wi Fi : Pt → Prop) (tbi : Tb) (lefti : Int) (ids : List Nat) (kvi : V) (tli tp : Nat) : Prop where
  hj : j + i = ks.length
  f0 : fr 0 = .ptr rt 0
  f2 : fr 2 = .ptr lp 0
  f8 : fr 8 = .ptr (up 1 n) 0
  f42 : fr 42 = kv
  f43 : fr 43 = .int .i64 ks.length
  f44 : fr 44 = .int .i64 i
  ch : Ch (fun r => W r ∨ r = lp) st S
  w1 : ∀ r, W r → Wi r
  w2 : ∀ r, Wi r → W r ∨ st.row r = .none
  w3 : ∀ r, Fi r → F r ∨ st.row r = .none
  nw1 : ¬ Wi (up 1 n)
  nw2 : ¬ Wi lp
  nf1 : ¬ Fi (up 1 n)
  nf2 : ¬ Fi lp
  tab : Tab Wi Fi S rt tbi
  rlp : S.row lp = .cells tli [.int .i64 lefti]
  rn : S.row (up 1 n) = .cells tp [.int .i64 k, ofL nm, nv, kvi]
  ls : LsAt (fun r => ¬ Wi r ∧ ¬ Fi r ∧ st.row r = .none ∧ r ≠ up 1 n) S lp kvi 1 ids.length (ids.map fun a : Nat => V.int .i64 (a : Int))
  hids : ids.length = i
  l0 : 0 ≤ lefti
  l1 : lefti ≤ left
  rec_ : addTs ks (left - 1) tb = pre ids (addTs (ks.drop i) lefti tbi)
set_option maxHeartbeats 4000000 in
theorem add : ∀ (m : Nat) (ty : Ty), tsz ty < m → ∀ (W F P : Pt → Prop) (st : St) (rt lp : Pt) (tb : Tb) (e : List V) (left : Int) (tl : Nat), WF st → Tab W F st rt tb → TyC P st e ty → (∀ r, P r → ¬ W r ∧ r ≠ lp) → st.row lp = .cells tl [.int .i64 left] → ¬ W lp → ¬ F lp → 0 ≤ left → left < 1000000 →
    Does (tabT tabD) n_cons_Table_add [.ptr rt 0, .agg e, .ptr lp 0] st fun v st' => AddPost W F st st' rt lp (addT ty left tb).1 (addT ty left tb).2.2.2 ∧ v = .tup [.int .i64 ((addT ty left tb).2.1 : Nat), .int .i64 (addT ty left tb).2.2.1]
  | 0, _, h => absurd h (by omega)
  | m + 1, .mk k nm ns ks, hm => by
    intro W F P st rt lp tb e left tl hw hT hx hP hlp hWl hFl h0 h1
    have hadd := addT_mk k nm ns ks left tb
    refine (Does.mon tabM hw (does_fn (Q := fun v st' => (∀ r, st.row r ≠ .none → ¬ (W r ∨ r = lp) → st'.row r = st.row r) ∧ (∃ W' F' : Pt → Prop, (∀ r, W r → W' r) ∧ (∀ r, W' r → W r ∨ st.row r = .none) ∧ (∀ r, F' r → F r ∨ st.row r = .none) ∧ Tab W' F' st' rt (addT (.mk k nm ns ks) left tb).1) ∧ (∃ t, st'.row lp = .cells t [.int .i64 (addT (.mk k nm ns ks) left tb).2.2.2]) ∧ v = .tup [.int .i64 ((addT (.mk k nm ns ks) left tb).2.1 : Nat), .int .i64 (addT (.mk k nm ns ks) left tb).2.2.1]) at_cons_Table_add rfl ?_)).mono fun v st' ⟨mn, a, b, c, d⟩ => ⟨⟨⟨mn.mono, a⟩, b, c⟩, d⟩
    obtain ⟨n, hn0⟩ : ∃ n, st.nx = up 0 n := ⟨_, up0 _⟩
    have hold := fun r (h : st.row r ≠ .none) => old_up hw hn0 h
    obtain ⟨nv, kv, es, rfl, x1, x2, x3, x4⟩ := hx.inv'
    have l1 := x1.len; have l2 := x2.len
    rw [strs_len] at l1
    rw [x3] at l2
    have olp := fun k => nes (ne_up hw hn0 (ne_cells hlp) k)
    have ort := fun k => nes (ne_up hw hn0 (by obtain ⟨_, _, _, _, _, _, h⟩ := hT; exact h.rt_ne) k)
    have rtlp := nes (show rt ≠ lp from fun e => hWl (by obtain ⟨_, _, _, _, _, _, h⟩ := hT; rw [← e]; exact h.w.1))
    have hleft : IntKind.i64.wrap (left - 1) = left - 1 := i64_in (by omega) (by omega)
    have e0 : Gr st (st.new fun t => .cells t [.int .i64 k, ofL nm, nv, kv]) := Gr.new hw (good_cells _)
    by_cases c1 : left - 1 < 0 ∨ 8 < ks.length ∨ 8 < ns.length
    · rw [hadd, if_pos c1]
      have fin : ∀ S : St, (∀ r, st.row r ≠ .none → ¬ (r = lp) → S.row r = st.row r) → (S.row lp = .cells (st.t + 1) [.int .i64 (left - 1)]) → (∀ r, st.row r ≠ .none → ¬ (W r ∨ r = lp) → S.row r = st.row r) ∧ (∃ W' F' : Pt → Prop, (∀ r, W r → W' r) ∧ (∀ r, W' r → W r ∨ st.row r = .none) ∧ (∀ r, F' r → F r ∨ st.row r = .none) ∧ Tab W' F' S rt tb) ∧ (∃ t, S.row lp = .cells t [.int .i64 (left - 1)]) := fun S h1 h2 =>
        ⟨fun r e n => h1 r e fun k => n (.inr k), ⟨W, F, fun _ w => w, fun _ w => .inl w, fun _ w => .inl w, hT.keep fun r w e => h1 r e fun k => by rw [k] at w; rcases w with w | w; exact hWl w; exact hFl w⟩, _, h2⟩
      have fin2 : ∀ r, st.row r ≠ .none → ¬ (r = lp) → ((st.new fun t => .cells t [.int .i64 k, ofL nm, nv, kv]).wr lp tl fun u => .cells u [.int .i64 (left - 1)]).row r = st.row r := fun r e n => by simp only [row_wrI, row_newI, hn0, hold r e, n, if_false]
      have F := fin _ fin2 (by rw [row_wr_same]; rfl)
      by_cases d1 : left - 1 < 0
      · simp only [cf_cons_Table_add, XX, wC_seq, wC_seqj, splice_def, Nat.reduceEqDiff, ↓reduceIte, reduceCtorEq, Int.reduceToNat, Nat.reduceAdd, Nat.reduceMul, Int.reduceAdd, Int.reduceSub, Int.reduceLE, Int.reduceLT, Int.reduceNeg, Int.reduceMul, Int.reduceEq, Int.reduceNe, Nat.reduceLeDiff, Nat.reduceSub, hn0, x1.cells, x2.cells, x1.sc, x2.sc, l1, l2, olp, hlp, hleft, d1]
        exact ⟨fun r e n => by have := F.1 r e n; simpa only [row_wrI, row_newI, hn0] using this, F.2.1, ⟨_, rfl⟩, rfl⟩
      by_cases d2 : (8 : Int) < ks.length
      · simp only [cf_cons_Table_add, XX, wC_seq, wC_seqj, splice_def, Nat.reduceEqDiff, ↓reduceIte, reduceCtorEq, Int.reduceToNat, Nat.reduceAdd, Nat.reduceMul, Int.reduceAdd, Int.reduceSub, Int.reduceLE, Int.reduceLT, Int.reduceNeg, Int.reduceMul, Int.reduceEq, Int.reduceNe, Nat.reduceLeDiff, Nat.reduceSub, hn0, x1.cells, x2.cells, x1.sc, x2.sc, l1, l2, olp, hlp, hleft, d1, d2]
        exact ⟨fun r e n => by have := F.1 r e n; simpa only [row_wrI, row_newI, hn0] using this, F.2.1, ⟨_, rfl⟩, rfl⟩
      have d3 : (8 : Int) < ns.length := by rcases c1 with c | c | c <;> omega
      simp only [cf_cons_Table_add, XX, wC_seq, wC_seqj, splice_def, Nat.reduceEqDiff, ↓reduceIte, reduceCtorEq, Int.reduceToNat, Nat.reduceAdd, Nat.reduceMul, Int.reduceAdd, Int.reduceSub, Int.reduceLE, Int.reduceLT, Int.reduceNeg, Int.reduceMul, Int.reduceEq, Int.reduceNe, Nat.reduceLeDiff, Nat.reduceSub, hn0, x1.cells, x2.cells, x1.sc, x2.sc, l1, l2, olp, hlp, hleft, d1, d2, d3]
      exact ⟨fun r e n => by have := F.1 r e n; simpa only [row_wrI, row_newI, hn0] using this, F.2.1, ⟨_, rfl⟩, rfl⟩
    · have c2 : ¬ left - 1 < 0 := fun e => c1 (.inl e)
      have c3 : ¬ (8 : Int) < ks.length := fun e => c1 (.inr (.inl (by omega)))
      have c4 : ¬ (8 : Int) < ns.length := fun e => c1 (.inr (.inr (by omega)))
      rw [hadd, if_neg c1]
      simp only [cf_cons_Table_add, XX, wC_seq, wC_seqj, splice_def, Nat.reduceEqDiff, ↓reduceIte, reduceCtorEq, Int.reduceToNat, Nat.reduceAdd, Nat.reduceMul, Int.reduceAdd, Int.reduceSub, Int.reduceLE, Int.reduceLT, Int.reduceNeg, Int.reduceMul, Int.reduceEq, Int.reduceNe, Nat.reduceLeDiff, Nat.reduceSub, hn0, x1.cells, x2.cells, x1.sc, x2.sc, l1, l2, olp, hlp, hleft, c2, c3, c4]
      have g1 : Gr st ((st.new fun t => .cells t [.int .i64 k, ofL nm, nv, kv])) := e0
      refine wC_loop (fun j fr S => ∃ i Wi Fi tbi lefti ids kvi tli tp, AddI W F st rt lp n k nm nv kv ks left tb j fr S i Wi Fi tbi lefti ids kvi tli tp) ks.length (by omega) ?_ ?_
      · refine ⟨0, W, fun r => F r ∧ st.row r ≠ .none, tb, left - 1, [], .snil, ?ta, ?tb, ⟨by omega, ?_, ?_, ?_, ?_, ?_, ?_, ?ch, fun _ w => w, fun _ w => .inl w, fun _ w => .inl w.1, ?_, hWl, ?_, fun w => hFl w.1, ?tab, ?rlp, ?rn, ⟨rfl, .inl ⟨rfl, rfl⟩⟩, rfl, by omega, by omega, (pre_nil _).symm⟩⟩
        case rlp => simp only [XX, wC_seq, wC_seqj, splice_def, Nat.reduceEqDiff, ↓reduceIte, reduceCtorEq, Int.reduceToNat, Nat.reduceAdd, Nat.reduceMul, Int.reduceAdd, Int.reduceSub, Int.reduceLE, Int.reduceLT, Int.reduceNeg, Int.reduceMul, Int.reduceEq, Int.reduceNe, Nat.reduceLeDiff, Nat.reduceSub, hn0, olp]; rfl
        case rn => simp only [XX, wC_seq, wC_seqj, splice_def, Nat.reduceEqDiff, ↓reduceIte, reduceCtorEq, Int.reduceToNat, Nat.reduceAdd, Nat.reduceMul, Int.reduceAdd, Int.reduceSub, Int.reduceLE, Int.reduceLT, Int.reduceNeg, Int.reduceMul, Int.reduceEq, Int.reduceNe, Nat.reduceLeDiff, Nat.reduceSub, hn0, olp]; rfl
        case ch => exact (((Ch.of _ e0).wr (ne_cells (e0.cells hlp)) (by rw [e0.cells hlp]; rfl) (.inl (.inr rfl)) (good_cells _))).nw (by simp only [nx_wr, nx_new, hn0, up_suc]) (good_cells _) (good_cells _)
        case tab =>
          refine hT.live.keep fun r w e => ?_
          have e1 : r ≠ lp := fun k => by rw [k] at w; rcases w with w | w; exact hWl w; exact hFl w.1
          simp only [XX, wC_seq, wC_seqj, splice_def, Nat.reduceEqDiff, ↓reduceIte, reduceCtorEq, Int.reduceToNat, Nat.reduceAdd, Nat.reduceMul, Int.reduceAdd, Int.reduceSub, Int.reduceLE, Int.reduceLT, Int.reduceNeg, Int.reduceMul, Int.reduceEq, Int.reduceNe, Nat.reduceLeDiff, Nat.reduceSub, hn0, hold r e, e1]
        all_goals try simp only [XX, wC_seq, wC_seqj, splice_def, Nat.reduceEqDiff, ↓reduceIte, reduceCtorEq, Int.reduceToNat, Nat.reduceAdd, Nat.reduceMul, Int.reduceAdd, Int.reduceSub, Int.reduceLE, Int.reduceLT, Int.reduceNeg, Int.reduceMul, Int.reduceEq, Int.reduceNe, Nat.reduceLeDiff, Nat.reduceSub, hn0, olp]
        · rfl
        · obtain ⟨_, _, _, _, _, _, hT⟩ := hT
          exact fun w => hT.own _ w (nx0 hw hn0 1)
        · exact fun w => w.2 (nx0 hw hn0 1)
      · rintro j fr S ⟨i, Wi, Fi, tbi, lefti, ids, kvi, tli, tp, h⟩
        have wS := h.ch.wf
        obtain ⟨nS, hnS⟩ : ∃ n, S.nx = up 0 n := ⟨_, up0 _⟩
        by_cases hi : i < ks.length
        · have hi' : (i : Int) < ks.length := by omega
          have hie : i < es.length := by omega
          obtain ⟨q, qo, a1, a2, a3, a4, a5⟩ := x2.elem hie
          have hSr : ∀ r, P r → st.row r ≠ .none → S.row r = st.row r := fun r p e => h.ch.same r e fun w => by rcases w with w | w; exact (hP r p).1 w; exact (hP r p).2 w
          have a4' : ldn (S.row q) qo 4 = some (.agg es[i], .no) := by rw [hSr q a2 a3]; exact a4
          have oq := fun k => nes (ne_up wS hnS (by rw [hSr q a2 a3]; exact a3) k)
          have hx4 := x4 i hie hi
          obtain ⟨E, hE⟩ : ∃ E, E = es[i] := ⟨_, rfl⟩
          obtain ⟨T, hT'⟩ : ∃ T, T = ks[i] := ⟨_, rfl⟩
          rw [← hE] at a4' hx4
          rw [← hT'] at hx4
          obtain ⟨k', n', ns', ks'⟩ := T
          obtain ⟨nv', kv', es', rfl, y1, y2, y3, y4⟩ := hx4.inv'
          simp only [XX, wC_seq, wC_seqj, splice_def, Nat.reduceEqDiff, ↓reduceIte, reduceCtorEq, Int.reduceToNat, Nat.reduceAdd, Nat.reduceMul, Int.reduceAdd, Int.reduceSub, Int.reduceLE, Int.reduceLT, Int.reduceNeg, Int.reduceMul, Int.reduceEq, Int.reduceNe, Nat.reduceLeDiff, Nat.reduceSub, h.f0, h.f2, h.f8, h.f42, h.f43, h.f44, hi', a1, a4', hnS, oq, y1.cells, y2.cells, y1.sc, y2.sc]
          have gS : Gr S ((S.new fun t => .cells t [.int .i64 0, ofL [], .snil, .snil]).wr (up 0 nS) S.t fun u => .cells u [.int .i64 k', ofL n', nv', kv']) := (Gr.refl wS).nw hnS (good_cells _) (good_cells _)
          refine wCall_plain (add m (.mk k' n' ns' ks') (by rw [hT']; have := tsz_kid (k := k) (n := nm) (ns := ns) hi; omega) Wi Fi (fun r => P r ∧ st.row r ≠ .none) _ rt lp tbi _ lefti tli gS.wf (h.tab.gr gS) ((hx4.imp fun r p e => ⟨⟨p, e⟩, hSr r p e⟩).gr gS) (fun r p => ⟨fun w => by rcases h.w2 r w with w | w; exact (hP r p.1).1 w; exact p.2 w, (hP r p.1).2⟩) (gS.cells h.rlp) h.nw2 h.nf2 h.l0 (by have := h.l1; omega)) ?_
          rintro _ S2 ⟨⟨c2, ⟨W2, F2, b1, b2, b3, T2⟩, t2, lp2⟩, rfl⟩
          have hrec := h.rec_
          rw [List.drop_eq_getElem_cons hi, ← hT'] at hrec
          have hlt := addT_left (.mk k' n' ns' ks') lefti tbi h.l0
          have hstep := addTs_step (ids := ids) (t := .mk k' n' ns' ks') (r := ks.drop (i + 1)) (left := lefti) (tb := tbi)
          have hstop := addTs_stop (ids := ids) (t := .mk k' n' ns' ks') (r := ks.drop (i + 1)) (left := lefti) (tb := tbi)
          generalize addT (.mk k' n' ns' ks') lefti tbi = A at *
          obtain ⟨tb2, id2, er2, left2⟩ := A
          simp only at *
          have cS2 : Ch (fun r => W r ∨ r = lp) st S2 := (h.ch.gr gS).trans c2 fun r w => by
            rcases w with w | w
            · rcases h.w2 r w with w | w
              · exact .inl (.inl w)
              · exact .inr w
            · exact .inl (.inr w)
          have hW2 : ∀ r, W2 r → W r ∨ st.row r = .none := fun r w => by
            rcases b2 r w with w | w
            · exact h.w2 r w
            · exact .inr ((h.ch.gr gS).fresh w)
          have hF2 : ∀ r, F2 r → F r ∨ st.row r = .none := fun r w => by
            rcases b3 r w with w | w
            · exact h.w3 r w
            · exact .inr ((h.ch.gr gS).fresh w)
          by_cases he : er2 = 0
          · subst he
            have hL2 := hrec.trans (hstep rfl)
            have S1n : ∀ r, S.row r ≠ .none → ((S.new fun t => .cells t [.int .i64 0, ofL [], .snil, .snil]).wr (up 0 nS) S.t fun u => .cells u [.int .i64 k', ofL n', nv', kv']).row r ≠ .none := fun r e => by rw [gS.same r e]; exact e
            have nW : ∀ r, S.row r ≠ .none → ¬ Wi r → ¬ W2 r := fun r e w w2 => by rcases b2 r w2 with k | k; exact w k; exact S1n r e k
            have nF : ∀ r, S.row r ≠ .none → ¬ Fi r → ¬ F2 r := fun r e w w2 => by rcases b3 r w2 with k | k; exact w k; exact S1n r e k
            have keep : ∀ r, S.row r ≠ .none → ¬ Wi r → r ≠ lp → S2.row r = S.row r := fun r e w n => by
              rw [c2.same r (S1n r e) (fun x => by rcases x with x | x; exact w x; exact n x), gS.same r e]
            have u1lp : up 1 n ≠ lp := by have := (olp 1).2; simpa using this
            have rn2 : S2.row (up 1 n) = .cells tp [.int .i64 k, ofL nm, nv, kvi] := by rw [keep _ (ne_cells h.rn) h.nw1 u1lp, h.rn]
            have hls : LsAt (fun r => ¬ W2 r ∧ ¬ F2 r ∧ st.row r = .none ∧ r ≠ up 1 n) S2 lp kvi 1 ids.length (ids.map fun a : Nat => V.int .i64 (a : Int)) := by
              refine ⟨h.ls.1, ?_⟩
              rcases h.ls.2 with l | ⟨r, t, l1, l2, l3, l4⟩
              · exact .inl l
              · exact .inr ⟨r, t, l1, by rw [keep r (ne_cells l2) l3.1 l4, l2], ⟨nW r (ne_cells l2) l3.1, nF r (ne_cells l2) l3.2.1, l3.2.2⟩, l4⟩
            have w2 := c2.wf
            obtain ⟨n2, hn2⟩ : ∃ n, S2.nx = up 0 n := ⟨_, up0 _⟩
            have o2n := fun k => nes (ne_up w2 hn2 (ne_cells rn2) k)
            have o2l := fun k => nes (ne_up w2 hn2 (ne_cells lp2) k)
            simp only [XX, wC_seq, wC_seqj, splice_def, Nat.reduceEqDiff, ↓reduceIte, reduceCtorEq, Int.reduceToNat, Nat.reduceAdd, Nat.reduceMul, Int.reduceAdd, Int.reduceSub, Int.reduceLE, Int.reduceLT, Int.reduceNeg, Int.reduceMul, Int.reduceEq, Int.reduceNe, Nat.reduceLeDiff, Nat.reduceSub, h.f0, h.f2, h.f8, h.f42, h.f43, h.f44, rn2, hn2, o2n]
            refine wW_app (rt := lp) (hls.imp fun r t hr1 hr2 hr3 => ?_) (tq := ?tq) (new := [V.int IntKind.i64 id2]) ?hq rfl rfl (by have := h.hids; omega) ?wf ?_
            · have e1 := nes (ne_up w2 hn2 (ne_cells hr3) 0)
              simp only [row_newI, row_wrI, nx_wr, hn2, e1, if_false]
            case hq => simp only [row_newI, row_wrI, nx_wr, hn2, if_true]; rfl
            case wf => exact (Gr.new w2 (good_cells _)).wf
            intro S5 t6 r5 n5 s5 x5 m5
            simp only [nx_new, nx_wr, hn2, up_suc, Nat.reduceAdd, Nat.zero_add] at r5 n5
            have f5 : ∀ r, S2.row r ≠ .none → rowOf kvi ≠ some r → S5.row r = S2.row r := fun r a1 a2 => by
              rw [s5 r (by simp only [nx_new, nx_wr, hn2, up_suc]; exact ne_up w2 hn2 a1 1) a2]
              have e1 := nes (ne_up w2 hn2 a1 0)
              simp only [row_newI, hn2, e1, if_false]
            have rn5 : S5.row (up 1 n) = .cells tp [.int .i64 k, ofL nm, nv, kvi] := by rw [f5 _ (ne_cells rn2) (fun e => (hls.row e).1.2.2.2 rfl), rn2]
            have rl5 : S5.row lp = .cells t2 [.int .i64 left2] := (f5 _ (ne_cells lp2) (fun e => (hls.row e).2.1 rfl)).trans lp2
            have hadd1 : IntKind.i64.wrap ((i : Int) + 1) = ((i + 1 : Nat) : Int) := by rw [i64_in (by omega) (by omega)]; rfl
            have o1l := nes u1lp
            have o5 := fun k => nes (ne_up w2 hn2 (ne_cells rn2) k)
            simp only [XX, wC_seq, wC_seqj, splice_def, Nat.reduceEqDiff, ↓reduceIte, reduceCtorEq, Int.reduceToNat, Nat.reduceAdd, Nat.reduceMul, Int.reduceAdd, Int.reduceSub, Int.reduceLE, Int.reduceLT, Int.reduceNeg, Int.reduceMul, Int.reduceEq, Int.reduceNe, Nat.reduceLeDiff, Nat.reduceSub, rn5, h.f0, h.f2, h.f8, h.f42, h.f43, h.f44, hn2, hadd1]
            have g5 : Ch (fun r => W r ∨ r = lp) st S5 := by
              refine cS2.trans (W' := fun r => rowOf kvi = some r) ⟨(mono_new w2 (good_cells [.int .i64 (id2 : Int)])).trans m5, fun r e n => f5 r e n⟩ fun r e => .inr ((hls.row e).1.2.2.1)
            have ntop : st.row (up 1 n2) = .none := cS2.fresh (nx0 w2 hn2 1)
            have w5W : ∀ r, S2.row r ≠ .none → r ≠ up 1 n2 := fun r e => ne_up w2 hn2 e 1
            have hW5 : ¬ W2 (up 1 n2) := fun w => by obtain ⟨_, _, _, _, _, _, hT2⟩ := T2; exact hT2.own _ w (nx0 w2 hn2 1)
            refine ⟨ks.length - (i + 1), by have := h.hj; omega, i + 1, W2, fun r => F2 r ∧ S2.row r ≠ .none, tb2, left2, ids ++ [id2], .sl (up 1 n2) 0 (ids.length + 1) 1, t2, S5.t, ⟨by omega, ?_, ?_, ?_, ?_, ?_, ?_, ?ch, fun r w => b1 r (h.w1 r w), hW2, fun r w => hF2 r w.1, nW _ (ne_cells h.rn) h.nw1, nW _ (ne_cells h.rlp) h.nw2, fun w => nF _ (ne_cells h.rn) h.nf1 w.1, fun w => nF _ (ne_cells h.rlp) h.nf2 w.1, ?tab, ?rlp, ?rn, ?ls, by simp [h.hids], hlt.2.2 rfl, by have := h.l1; omega, hL2⟩⟩
            case ch => exact g5.wr (ne_cells rn5) (by rw [rn5]; rfl) (.inr (nx0 hw hn0 1)) (good_cells _)
            all_goals try simp only [XX, wC_seq, wC_seqj, splice_def, Nat.reduceEqDiff, ↓reduceIte, reduceCtorEq, Int.reduceToNat, Nat.reduceAdd, Nat.reduceMul, Int.reduceAdd, Int.reduceSub, Int.reduceLE, Int.reduceLT, Int.reduceNeg, Int.reduceMul, Int.reduceEq, Int.reduceNe, Nat.reduceLeDiff, Nat.reduceSub, h.f0, h.f2, h.f8, h.f42, h.f43, h.f44]
            case tab =>
              refine T2.live.keep fun r w e => ?_
              have e1 : r ≠ up 1 n := fun k => by
                rcases w with w | w
                · exact nW _ (ne_cells h.rn) h.nw1 (by rw [← k]; exact w)
                · exact nF _ (ne_cells h.rn) h.nf1 (by rw [← k]; exact w.1)
              rw [row_wrI, if_neg e1]
              refine f5 r e fun k => ?_
              rcases w with w | w
              · exact (hls.row k).1.1 w
              · exact (hls.row k).1.2.1 w.1
            case rlp => simp only [o1l, if_false]; exact rl5
            case ls =>
              refine ⟨by simp, .inr ⟨up 1 n2, t6, by simp, ?_, ⟨hW5, fun w => w.2 (nx0 w2 hn2 1), ntop, ?_⟩, ?_⟩⟩
              · rw [row_wrI, if_neg (w5W _ (ne_cells rn2)).symm, r5]; simp
              · exact fun e => (w5W _ (ne_cells rn2)) e.symm
              · exact fun e => (w5W _ (ne_cells lp2)) e.symm
          · have hL2 := hrec.trans (hstop he)
            have he' : ¬ er2 = 0 := he
            simp only [XX, wC_seq, wC_seqj, splice_def, Nat.reduceEqDiff, ↓reduceIte, reduceCtorEq, Int.reduceToNat, Nat.reduceAdd, Nat.reduceMul, Int.reduceAdd, Int.reduceSub, Int.reduceLE, Int.reduceLT, Int.reduceNeg, Int.reduceMul, Int.reduceEq, Int.reduceNe, Nat.reduceLeDiff, Nat.reduceSub, he', h.f0, h.f2, h.f8]
            rw [hL2]
            simp only [he', ne_eq, not_false_eq_true, if_true]
            exact ⟨cS2.same, ⟨W2, F2, fun r w => b1 r (h.w1 r w), hW2, hF2, T2⟩, ⟨t2, lp2⟩, rfl⟩
        · have hie : i = ks.length := by have := h.hj; omega
          have hi' : ¬ (i : Int) < ks.length := by omega
          have hrec := h.rec_
          rw [hie, List.drop_length, addTs_nil] at hrec
          have hrec : addTs ks (left - 1) tb = (tbi, ids, 0, lefti) := by rw [hrec]; simp [pre]
          rw [hrec]
          simp only [XX, wC_seq, wC_seqj, splice_def, Nat.reduceEqDiff, ↓reduceIte, reduceCtorEq, Int.reduceToNat, Nat.reduceAdd, Nat.reduceMul, Int.reduceAdd, Int.reduceSub, Int.reduceLE, Int.reduceLT, Int.reduceNeg, Int.reduceMul, Int.reduceEq, Int.reduceNe, Nat.reduceLeDiff, Nat.reduceSub, h.f0, h.f2, h.f8, h.f42, h.f43, h.f44, hi', h.rn]
          have hSr : ∀ r, P r → st.row r ≠ .none → S.row r = st.row r := fun r p e => h.ch.same r e fun w => by rcases w with w | w; exact (hP r p).1 w; exact (hP r p).2 w
          have hks : SlAt (fun _ => True) S kvi 1 (ints ids) := (LsAt.sl (es := ints ids) (by rw [ints_flat]; exact h.ls) (ints_one _) (ints_len _)).imp fun _ _ _ => ⟨trivial, rfl⟩
          refine wCall_plain (lay (nd := ⟨k, nm, ns, ids⟩) wS h.tab ⟨nv, kvi, rfl, x1.imp fun r p e => ⟨trivial, hSr r p e⟩, hks⟩ ⟨(by show ns.length ≤ 8; omega), (by show ids.length ≤ 8; have := h.hids; omega)⟩) ?_
          rintro _ S2 ⟨c2, ⟨W2, F2, b1, b2, b3, T2⟩, rfl⟩
          simp only [XX, wC_seq, wC_seqj, splice_def, Nat.reduceEqDiff, ↓reduceIte, reduceCtorEq, Int.reduceToNat, Nat.reduceAdd, Nat.reduceMul, Int.reduceAdd, Int.reduceSub, Int.reduceLE, Int.reduceLT, Int.reduceNeg, Int.reduceMul, Int.reduceEq, Int.reduceNe, Nat.reduceLeDiff, Nat.reduceSub]
          refine ⟨fun r e n => ?_, ⟨W2, F2, fun r w => b1 r (h.w1 r w), fun r w => ?_, fun r w => ?_, T2⟩, tli, ?_⟩
          · have e2 := h.ch.same r e n
            rw [c2.same r (by rw [e2]; exact e) fun w => by rcases h.w2 r w with w | w; exact n (.inl w); exact e w, e2]
          · rcases b2 r w with w | w
            · exact h.w2 r w
            · exact .inr (h.ch.fresh w)
          · rcases b3 r w with w | w
            · exact h.w3 r w
            · exact .inr (h.ch.fresh w)
          · rw [c2.same lp (ne_cells h.rlp) h.nw2, h.rlp]
end Go.Proofs.Ytajifckdgaoncaa
