/- What is wrong with a schema of one type. The table of a schema of one type. A type added to a table: what is beside it stays. A table used: what is beside it stays. Slices copied: a row of one's own. What is wrong with the names of named types. What named types' names stand for. What is wrong with functions. All types of a schema, in order. Which types have a value that ends. Whether a type has a value that ends. What is wrong with a schema. No condition. -/
import Derived.Test.YtlfnhkdeocbimaaQ1
set_option linter.unusedVariables false
set_option linter.unusedSimpArgs false
set_option maxRecDepth 100000
namespace Go.Proofs.Ytlfnhkdeocbimaa
open Eva Go.RowKit
theorem types0 {P : Pt → Prop} {st : St} {v : V} (h : LstAt (NmC P st) P st v 5 []) : Does (tabT tabD) n_shape_types [v] st fun v' st' => v' = .int .i64 0 ∧ st = st' := by
 refine does_fn at_shape_types rfl ?_
 simp only [cf_shape_types, XZ, simprocAttr, h.nil_len]
 refine wC_loop1 (by decide) ?_
 simp only [XZ, simprocAttr]
theorem sigs0 {P : Pt → Prop} {st : St} {v : V} {kr : Pt} (h : LstAt (SgC P st) P st v 6 []) : Does (tabT tabD) n_shape_looker_sigs [.ptr kr 0, v] st fun v' st' => v' = .int .i64 0 ∧ st = st' := by
 refine does_fn at_shape_looker_sigs rfl ?_
 simp only [cf_shape_looker_sigs, XZ, simprocAttr, h.nil_len]
 refine wC_loop1 (by decide) ?_
 simp only [XZ, simprocAttr]
theorem named0 {P : Pt → Prop} {st : St} {e : List V} {s : Sch} (hw : WF st) (h : SchC P st e s) (h0 : s.types = []) : Does (tabT tabD) n_shape_named [.agg e] st fun v' st' => Gr st st' ∧ ∃ r, v' = .map r ∧ st.row r = .none ∧ ∃ t, st'.row r = .mob t [] := by
 refine does_fnG tabM at_shape_named rfl hw fun K fin => ?_
 obtain ⟨n, hn0⟩ : ∃ n, st.nx = up 0 n := ⟨_, up0 _⟩
 have hold := fun r (h : st.row r ≠ .none) => old_up hw hn0 h
 obtain ⟨c, tv, sv, rfl, h1, h2, h3⟩ := h
 obtain ⟨k, nm, ns, ks⟩ := s.main
 obtain ⟨nv, kv, es, rfl, x1, x2, x3, x4⟩ := h1.inv
 rw [h0] at h2
 simp only [cf_shape_named, XZ, simprocAttr, hn0, x1.sc, x2.sc, h2.sc.1, h3.sc.1, h2.nil_len]
 refine wC_loop1 (by decide) ?_
 simp only [XZ, simprocAttr]
 refine fin _ _ (fun r e => by simp only [row_newI, nx_new, hn0, up_suc, hold r e, if_false]) fun _ => ⟨up 1 n, rfl, nx0 hw hn0 1, _, by simp only [XZ, simprocAttr, hn0]; rfl⟩
theorem every0 {P Q : Pt → Prop} {st : St} {e : List V} {s : Sch} (hw : WF st) (h : SchC P st e s) (h0 : s.types = []) (h00 : s.sigs = []) (hQ : ∀ r, P r → Q r) (hN : ∀ r, st.row r = .none → Q r) : Does (tabT tabD) n_shape_every [.agg e] st fun v' st' => Gr st st' ∧ LstAt (TyC Q st') Q st' v' 4 [s.main] := by
 refine does_fnG tabM at_shape_every rfl hw fun K fin => ?_
 obtain ⟨n, hn0⟩ : ∃ n, st.nx = up 0 n := ⟨_, up0 _⟩
 have hold := fun r (h : st.row r ≠ .none) => old_up hw hn0 h
 obtain ⟨c, tv, sv, rfl, h1, h2, h3⟩ := h
 obtain ⟨M, hM⟩ : ∃ M, M = s.main := ⟨_, rfl⟩
 rw [← hM] at h1
 simp only [← hM] at fin
 obtain ⟨k, nm, ns, ks⟩ := M
 have h1' := h1
 obtain ⟨nv, kv, es, rfl, x1, x2, x3, x4⟩ := h1.inv'
 rw [h0] at h2
 rw [h00] at h3
 simp only [cf_shape_every, XZ, simprocAttr, hn0, x1.sc, x2.sc, x1.cells, x2.cells, h2.sc.1, h3.sc.1, h2.nil_len]
 refine wC_loop1 (by decide) ?_
 simp only [XZ, simprocAttr, hn0, x1.sc, x2.sc, x1.cells, x2.cells]
 have g : Gr st ((st.new fun t => .cells t [.int .i64 k, ofL nm, nv, kv, tv, sv]).new fun t => .cells t [.int .i64 k, ofL nm, nv, kv]) := (Gr.new hw (good_cells _)).nn (good_cells _)
 have happ : ∀ S : St, S.row (up 1 n) = .cells (st.t + 1) [.int .i64 k, ofL nm, nv, kv] → appV S 4 .snil (.slx (up 1 n) 0 1 4 1) = some (.sl S.nx 0 1 4, .new fun t => .cells t [.int .i64 k, ofL nm, nv, kv]) := fun S hS => by
  simp only [appV, slen, sliceCells, loadN, hS]
  simp only [Nat.le_refl, true_and, if_true, Nat.one_mul, List.length_cons, List.length_nil, Nat.zero_add, Nat.reduceAdd, List.drop_zero]
  rw [show ([V.int .i64 k, ofL nm, nv, kv].take 4) = [.int .i64 k, ofL nm, nv, kv] from rfl]
  simp only [allSc_cons, sc_int, sc_str, x1.sc, x2.sc, allSc_nil, Bool.and_self]
  rfl
 have hrow : ((st.new fun t => .cells t [.int .i64 k, ofL nm, nv, kv, tv, sv]).new fun t => .cells t [.int .i64 k, ofL nm, nv, kv]).row (up 1 n) = .cells (st.t + 1) [.int .i64 k, ofL nm, nv, kv] := by simp only [row_newI, nx_new, hn0, up_suc, Nat.zero_add, if_true]; rfl
 simp only [happ _ hrow, XZ, simprocAttr, hn0, h3.nil_len]
 refine wC_loop1 (by decide) ?_
 simp only [XZ, simprocAttr]
 have g3 : Gr st (((st.new fun t => .cells t [.int .i64 k, ofL nm, nv, kv, tv, sv]).new fun t => .cells t [.int .i64 k, ofL nm, nv, kv]).new fun t => .cells t [.int .i64 k, ofL nm, nv, kv]) := g.nn (good_cells _)
 refine fin _ _ (fun r e => g3.same r e) fun _ => ⟨[[.int .i64 k, ofL nm, nv, kv]], ?_, rfl, fun i a b => ?_⟩
 ·exact ⟨fun e he => by rw [List.mem_singleton.1 he]; rfl, .inr ⟨up 2 n, 0, hN _ (nx0 hw hn0 2), .inl rfl, [.int .i64 k, ofL nm, nv, kv], .inl ⟨_, by simp only [XZ, simprocAttr, hn0]; rfl⟩, by simp, by simp⟩⟩
 ·have : i = 0 := by simp at b; omega
  subst this
  exact (h1'.imp fun r p e => ⟨hQ r p, g3.same r e⟩)
theorem checkS0 {s : Sch} (h0 : s.types = []) (h00 : s.sigs = []) : checkS s = if (mayS (hasN []) s.main 1 0).1 ≠ 0 then (mayS (hasN []) s.main 1 0).1 else if optssS [] [s.main] then 17 else 0 := by
 unfold checkS everyS
 rw [h0, h00]
 simp only [List.length_nil, List.map_nil, typesS, maysS_nil, sigsS]
 simp
set_option maxHeartbeats 4000000 in
theorem check0 {P : Pt → Prop} {st : St} {e : List V} {s : Sch} (hw : WF st) (h : SchC P st e s) (h0 : s.types = []) (h00 : s.sigs = []) : Does (tabT tabD) n_shape_Check [.agg e] st fun v' st' => Gr st st' ∧ v' = .int .i64 (checkS s) := by
 refine does_fnG tabM at_shape_Check rfl hw fun K fin => ?_
 obtain ⟨n, hn0⟩ : ∃ n, st.nx = up 0 n := ⟨_, up0 _⟩
 have hchk := checkS0 h0 h00
 have hsch := h
 obtain ⟨c, tv, sv, rfl, h1, h2, h3⟩ := h
 obtain ⟨M, hM⟩ : ∃ M, M = s.main := ⟨_, rfl⟩
 rw [← hM] at h1 hchk
 obtain ⟨k, nm, ns, ks⟩ := M
 have h1' := h1
 obtain ⟨nv, kv, es, rfl, x1, x2, x3, x4⟩ := h1.inv'
 rw [h0] at h2
 rw [h00] at h3
 have g0 : Gr st (st.new fun t => .cells t [.int .i64 k, ofL nm, nv, kv, tv, sv]) := Gr.new hw (good_cells _)
 have r0 : (st.new fun t => .cells t [.int .i64 k, ofL nm, nv, kv, tv, sv]).row (up 0 n) = .cells st.t [.int .i64 k, ofL nm, nv, kv, tv, sv] := by simp only [XZ, simprocAttr, hn0]
 have ft : ∀ {S : St}, Gr st S → LstAt (NmC P S) P S tv 5 [] := fun g => h2.imp (fun e x h => h.imp fun r p e => ⟨p, g.same r e⟩) fun r p e => ⟨p, g.same r e⟩
 have fs : ∀ {S : St}, Gr st S → LstAt (SgC P S) P S sv 6 [] := fun g => h3.imp (fun e x h => h.imp fun r p e => ⟨p, g.same r e⟩) fun r p e => ⟨p, g.same r e⟩
 have fsch : ∀ {S : St}, Gr st S → SchC P S ([.int .i64 k, ofL nm, nv, kv] ++ [tv, sv]) s := fun g => hsch.imp fun r p e => ⟨p, g.same r e⟩
 simp only [cf_shape_Check, XZ, simprocAttr, hn0, x1.sc, x2.sc, h2.sc.1, h3.sc.1, h2.nil_len, h3.nil_len]
 refine wCall_plain (types0 (ft g0)) ?_
 rintro _ _ ⟨rfl, rfl⟩
 simp only [XZ, simprocAttr, hn0]
 refine wCall_plain (named0 g0.wf (fsch g0) h0) ?_
 rintro _ S1 ⟨g1, rm, rfl, hrm, tm, mrm⟩
 have G1 := g0.trans g1
 have b1 := g1.cells r0
 obtain ⟨n1, hn1⟩ : ∃ n, S1.nx = up 0 n := ⟨_, up0 _⟩
 have w1 := g1.wf
 have o10 := fun k => nes (ne_up w1 hn1 (ne_cells b1) k)
 have hrm1 : S1.row rm ≠ .none := by rw [mrm]; exact fun e => by cases e
 have spl : splice [.mnil, .int .i64 0] 0 [.map rm] = [.map rm, .int .i64 0] := rfl
 simp only [XZ, simprocAttr, hn1, o10, b1, sc_mnil, cells_mnil, h2.nil_len]
 refine wC_loop1 (by decide) ?_
 have gL : Gr S1 (S1.new fun t => .cells t [.map rm, .int .i64 0]) := Gr.new w1 (good_cells _)
 have hL0 : LookAt (fun r => P r ∧ st.row r ≠ .none) (S1.new fun t => .cells t [.map rm, .int .i64 0]) (up 0 n1) rm [] 0 := by
  refine ⟨⟨[], ⟨tm, ?_⟩, rfl, fun i h => absurd h (by simp)⟩, ⟨S1.t, ?_⟩, fun r p => ?_, ne_up w1 hn1 hrm1 0⟩
  ·rw [gL.same rm hrm1, mrm]; rfl
  ·simp only [XZ, simprocAttr, hn1] <;> rfl
  ·exact ne_up w1 hn1 (by rw [G1.same r p.2]; exact p.2) 0
 have lv : ∀ {S : St} {T : Ty} {E : List V}, Gr st S → TyC P st E T → TyC (fun r => P r ∧ st.row r ≠ .none) S E T := fun g h => h.imp fun r p e => ⟨⟨p, e⟩, g.same r e⟩
 have b2 := gL.cells b1
 have G2 := G1.trans gL
 simp only [XZ, simprocAttr, hn1, o10, b1]
 refine wCall_plain (mayD (deep := 1) gL.wf hL0 (lv G2 h1') (by decide) (by decide)) ?_
 rintro _ S2 ⟨c2, L2, rfl⟩
 have q1 : st.row (up 0 n1) = .none := Ch.fresh (Ch.of (fun _ => False) G1) (nx0 w1 hn1 0)
 have G3 : Ch (fun _ => False) st S2 := (Ch.of _ G2).trans c2 fun r w => .inr (by rw [w]; exact q1)
 have b3 : S2.row (up 0 n) = .cells st.t [.int .i64 k, ofL nm, nv, kv, tv, sv] := by rw [c2.same _ (ne_cells b2) (ne_up w1 hn1 (ne_cells b1) 0), b2]
 have w2 := c2.wf
 have ft' : ∀ {S : St}, Ch (fun _ => False) st S → LstAt (NmC P S) P S tv 5 [] := fun g => h2.imp (fun e x h => h.imp fun r p e => ⟨p, g.same r e id⟩) fun r p e => ⟨p, g.same r e id⟩
 have fs' : ∀ {S : St}, Ch (fun _ => False) st S → LstAt (SgC P S) P S sv 6 [] := fun g => h3.imp (fun e x h => h.imp fun r p e => ⟨p, g.same r e id⟩) fun r p e => ⟨p, g.same r e id⟩
 have fsch' : ∀ {S : St}, Ch (fun _ => False) st S → SchC (fun r => P r ∧ st.row r ≠ .none) S ([.int .i64 k, ofL nm, nv, kv] ++ [tv, sv]) s := fun g => hsch.imp fun r p e => ⟨⟨p, e⟩, g.same r e id⟩
 have hcnt := mayS_cnt (hasN []) (.mk k nm ns ks) 1 0
 have hm4 := mayS_met (hasN []) (.mk k nm ns ks) 1 0 (by decide)
 by_cases he : (mayS (hasN []) (.mk k nm ns ks) 1 0).1 = 0
 ·have he' : ((mayS (hasN []) (.mk k nm ns ks) 1 0).1 = 0) = True := eq_true he
  rw [if_neg (fun h => h he)] at hchk
  simp only [XZ, simprocAttr, he', b3]
  refine wCall_plain (sigs0 (fs' G3)) ?_
  rintro _ _ ⟨rfl, rfl⟩
  simp only [XZ, simprocAttr, b3, (ft' G3).nil_len]
  refine wC_loop1 (by decide) ?_
  simp only [XZ, simprocAttr, b3]
  refine wCall_plain (every0 (Q := fun r => (P r ∧ st.row r ≠ .none) ∨ S2.row r = .none) w2 (fsch' G3) h0 h00 (fun r p => .inl p) (fun r p => .inr p)) ?_
  rintro ev S4 ⟨g4, hev⟩
  rw [← hM] at hev
  have hcn : cntT (.mk k nm ns ks) < 1000000 := by have h1 := hcnt he; have h2 := hm4.2 he; omega
  have hL4 : LookAt (fun r => (P r ∧ st.row r ≠ .none) ∨ S2.row r = .none) S2 (up 0 n1) rm [] (mayS (hasN []) (.mk k nm ns ks) 1 0).2 := by
   refine ⟨⟨[], ?_, rfl, fun i h => absurd h (by simp)⟩, L2.cell, fun r p => ?_, L2.ne⟩
   ·obtain ⟨es', h5, h6, _⟩ := L2.map
    rw [List.length_eq_zero_iff.1 h6] at h5
    exact h5
   ·rcases p with p | p
    ·exact L2.sep r p
    ·exact fun e => L2.krne (by rw [← e]; exact p)
  simp only [XZ, simprocAttr]
  refine wCall_plain (containsFuncC (fa := [.ptr (up 0 n1) 0]) (fb := []) (optsS []) g4.wf hev (by simp) fun i hi S' E' g' hE' => ?_) ?_
  ·have : i = 0 := by simp at hi; omega
   subst this
   exact optsC _ _ (Nat.lt_succ_self _) _ S' (up 0 n1) rm [] _ E' g'.wf (hL4.gr (g4.trans g')) hE' (by decide) hcn
  ·rintro _ S5 ⟨g5, rfl⟩
   have GF : ∀ r, st.row r ≠ .none → S5.row r = st.row r := fun r e => by
    have e2 := G3.same r e id
    rw [(g4.trans g5).same r (by rw [e2]; exact e), e2]
   cases ho : [Ty.mk k nm ns ks].any (optsS []) with
   | true =>
     simp only [XZ, simprocAttr]
     refine fin _ _ GF fun _ => ?_
     rw [hchk, optssS_any, ho]; rfl
   | false =>
     simp only [XZ, simprocAttr]
     refine fin _ _ GF fun _ => ?_
     rw [hchk, optssS_any, ho]; rfl
 ·have he' : ((mayS (hasN []) (.mk k nm ns ks) 1 0).1 = 0) = False := eq_false he
  rw [if_pos he] at hchk
  simp only [XZ, simprocAttr, he']
  refine fin _ _ (fun r e => G3.same r e id) fun _ => ?_
  rw [hchk]
def NewPost (st : St) (v : V) (st' : St) (r : Option Tb × Int) : Prop := match r.1 with
 | none => v = .tup [.pnil, .int .i64 r.2]
 | some tb => ∃ rt W F, v = .tup [.ptr rt 0, .int .i64 0] ∧ Tab W F st' rt tb ∧ ∀ r, W r ∨ F r → st.row r = .none
set_option maxHeartbeats 4000000 in
theorem new0 {P : Pt → Prop} {st : St} {e : List V} {s : Sch} (hw : WF st) (h : SchC P st e s) (h0 : s.types = []) (h00 : s.sigs = []) : Does (tabT tabD) n_cons_New [.agg e] st fun v' st' => Gr st st' ∧ NewPost st v' st' (newS s) := by
 refine does_fnG tabM at_cons_New rfl hw fun K fin => ?_
 obtain ⟨n, hn0⟩ : ∃ n, st.nx = up 0 n := ⟨_, up0 _⟩
 have hnew := newS0 h0 h00
 have hsch := h
 obtain ⟨c, tv, sv, rfl, h1, h2, h3⟩ := h
 obtain ⟨M, hM⟩ : ∃ M, M = s.main := ⟨_, rfl⟩
 rw [← hM] at h1 hnew
 obtain ⟨k, nm, ns, ks⟩ := M
 have h1' := h1
 obtain ⟨nv, kv, es, rfl, x1, x2, x3, x4⟩ := h1.inv'
 rw [h0] at h2
 rw [h00] at h3
 have g0 : Gr st (st.new fun t => .cells t [.int .i64 k, ofL nm, nv, kv, tv, sv]) := Gr.new hw (good_cells _)
 have r0 : (st.new fun t => .cells t [.int .i64 k, ofL nm, nv, kv, tv, sv]).row (up 0 n) = .cells st.t [.int .i64 k, ofL nm, nv, kv, tv, sv] := by simp only [XZ, simprocAttr, hn0]
 simp only [cf_cons_New, XZ, simprocAttr, hn0, x1.sc, x2.sc, h2.sc.1, h3.sc.1, h2.nil_len, h3.nil_len]
 refine wCall_plain (check0 g0.wf (hsch.imp fun r p e => ⟨p, g0.same r e⟩) h0 h00) ?_
 rintro _ S1 ⟨g1, rfl⟩
 have G1 := g0.trans g1
 have b1 := g1.cells r0
 have w1 := g1.wf
 obtain ⟨n1, hn1⟩ : ∃ n, S1.nx = up 0 n := ⟨_, up0 _⟩
 have o10 := fun k => nes (ne_up w1 hn1 (ne_cells b1) k)
 by_cases hc : checkS s = 0
 ·have hc' : (checkS s = 0) = True := eq_true hc
  rw [if_neg (fun h => h hc)] at hnew
  simp only [XZ, simprocAttr, hc', hn1, sc_mnil, cells_mnil, o10, b1, h2.nil_len]
  refine wC_loop1 (by decide) ?_
  simp only [XZ, simprocAttr, hn1, o10, b1]
  obtain ⟨S2, hS2⟩ : ∃ S2, S2 = ((((S1.new fun t => .mob t []).new fun t => .mob t []).new fun t => .mob t []).new fun t => .cells t [.snil, .map (up 0 n1), .map (up 1 n1), .int .i64 0, .map (up 2 n1)]) := ⟨_, rfl⟩
  have g2 : Gr S1 S2 := by rw [hS2]; exact (((Gr.new w1 (good_mob _)).nn (good_mob _)).nn (good_mob _)).nn (good_cells _)
  have hT : Tab (fun r => r = up 0 n1 ∨ r = up 1 n1 ∨ r = up 2 n1 ∨ r = up 3 n1) (fun _ => False) S2 (up 3 n1) emptyTb := by
   refine ⟨.snil, up 0 n1, up 1 n1, up 2 n1, [], [], ⟨⟨_, by rw [hS2]; simp only [XZ, simprocAttr, hn1]; rfl⟩, ⟨.inr (.inr (.inr rfl)), .inl rfl, .inr (.inl rfl), .inr (.inr (.inl rfl))⟩, ?_, fun r f => f.elim, ⟨?_, ?_, ?_⟩, ⟨rfl, .inl ⟨rfl, rfl⟩⟩, fun e h => absurd h (by simp), rfl, fun i h => absurd h (by simp), fun n h => absurd h (by simp [emptyTb]), by decide, ⟨_, by rw [hS2]; simp only [XZ, simprocAttr, hn1]; rfl⟩, ⟨_, by rw [hS2]; simp only [XZ, simprocAttr, hn1]; rfl⟩, ⟨_, by rw [hS2]; simp only [XZ, simprocAttr, hn1]; rfl⟩, rfl, fun i h => absurd h (by simp)⟩⟩
   ·intro r hr
    rcases hr with e | e | e | e
    all_goals rw [hS2, e]; simp only [XZ, simprocAttr, hn1]
    all_goals exact fun e => by cases e
   ·rw [up_ne]; decide
   ·rw [up_ne]; decide
   ·rw [up_ne]; decide
  rw [← hS2]
  have hx : TyC (fun r => P r ∧ st.row r ≠ .none) S2 [.int .i64 k, ofL nm, nv, kv] (.mk k nm ns ks) := h1'.imp fun r p e => ⟨⟨p, e⟩, (G1.trans g2).same r e⟩
  have fresh : ∀ k, st.row (up k n1) = .none := fun k => Ch.fresh (Ch.of (fun _ => False) G1) (nx0 w1 hn1 k)
  refine wCall_plain (addTop g2.wf hT hx (fun r p w => ?_)) ?_
  ·rcases w with w | w | w | w <;> exact p.2 (by rw [w]; exact fresh _)
  rintro _ S3 ⟨c3, ⟨W3, F3, a1, a2, a3, T3⟩, rfl⟩
  by_cases ha : (addT (.mk k nm ns ks) 400 emptyTb).2.2.1 = 0
  ·have ha' : ((addT (.mk k nm ns ks) 400 emptyTb).2.2.1 = 0) = True := eq_true ha
   rw [if_neg (fun h => h ha)] at hnew
   obtain ⟨t3, l3, e3, len3, T4⟩ := T3.setMain (addT (.mk k nm ns ks) 400 emptyTb).2.1
   have b3 : S3.row (up 0 n) = .cells st.t [.int .i64 k, ofL nm, nv, kv, tv, sv] := by
    have h5 := g2.cells b1
    rw [c3.same _ (ne_cells h5) (fun w => by rcases w with w | w | w | w <;> exact absurd w (ne_up w1 hn1 (ne_cells b1) _)), h5]
   have o3 : up 0 n ≠ up 3 n1 := ne_up w1 hn1 (ne_cells b1) 3
   have o3' := nes o3
   have h45 : 3 + 1 ≤ l3.length := by omega
   have h45' : 4 ≤ l3.length := by omega
   simp only [XM, simprocAttr, ha', e3, h45', o3', b3, h3.nil_len]
   refine wC_loop1 (by decide) ?_
   simp only [XZ, simprocAttr]
   refine fin _ _ (fun r e => ?_) fun _ => ?_
   ·have e1 : r ≠ up 3 n1 := fun k => e (by rw [k]; exact fresh 3)
    rw [row_wrI, if_neg e1, c3.same r (by rw [(G1.trans g2).same r e]; exact e) (fun w => by rcases w with w | w | w | w <;> exact e (by rw [w]; exact fresh _)), (G1.trans g2).same r e]
   ·rw [hnew]
    refine ⟨up 3 n1, W3, F3, rfl, T4, fun r w => ?_⟩
    have fr : S2.row r = .none → st.row r = .none := fun h => Ch.fresh (Ch.of (fun _ => False) (G1.trans g2)) h
    rcases w with w | w
    ·rcases a2 r w with w | w
     ·rcases w with w | w | w | w <;> (rw [w]; exact fresh _)
     ·exact fr w
    ·rcases a3 r w with w | w
     ·exact w.elim
     ·exact fr w
  ·have ha' : ((addT (.mk k nm ns ks) 400 emptyTb).2.2.1 = 0) = False := eq_false ha
   rw [if_pos ha] at hnew
   simp only [XZ, simprocAttr, ha']
   refine fin _ _ (fun r e => ?_) fun _ => ?_
   ·rw [c3.same r (by rw [(G1.trans g2).same r e]; exact e) (fun w => by rcases w with w | w | w | w <;> exact e (by rw [w]; exact fresh _)), (G1.trans g2).same r e]
   ·rw [hnew]; exact rfl
 ·have hc' : (checkS s = 0) = False := eq_false hc
  rw [if_pos hc] at hnew
  simp only [XZ, simprocAttr, hc']
  refine fin _ _ (fun r e => G1.same r e) fun _ => ?_
  rw [hnew]; exact rfl
theorem addX {W : Pt → Prop} {st : St} {rt : Pt} {tb : Tb} {e : List V} {ty : Ty} (hT : TabX st W rt tb) (hx : TyC (fun r => ¬ W r) st e ty) :
  Does (tabT tabD) n_cons_Table_Add [.ptr rt 0, .agg e] st fun v S => ∃ W', TabX S W' rt (addT ty 400 tb).1 ∧ Kept st W S W' ∧ v = .tup [.int .i64 ((addT ty 400 tb).2.1 : Nat), .int .i64 (addT ty 400 tb).2.2.1] := by
 obtain ⟨hw, F, hT⟩ := hT
 refine (addTop hw hT hx fun r n => n).mono ?_
 rintro v S ⟨c, ⟨W', F', b1, b2, b3, T'⟩, rfl⟩
 exact ⟨W', ⟨c.wf, F', T'⟩, Kept.ch c b2, rfl⟩
theorem addZ {W Z : Pt → Prop} {st : St} {rt : Pt} {tb : Tb} {e : List V} {ty : Ty} (hT : TabZ st W Z rt tb) (hZ : ∀ r, Z r → st.row r ≠ .none) (hx : TyC (fun r => ¬ W r) st e ty) :
  Does (tabT tabD) n_cons_Table_Add [.ptr rt 0, .agg e] st fun v S => ∃ W', TabZ S W' Z rt (addT ty 400 tb).1 ∧ Kept st W S W' ∧ v = .tup [.int .i64 ((addT ty 400 tb).2.1 : Nat), .int .i64 (addT ty 400 tb).2.2.1] := by
 obtain ⟨hw, F, hT, hF⟩ := hT
 refine (addTop hw hT hx fun r n => n).mono ?_
 rintro v S ⟨c, ⟨W', F', b1, b2, b3, T'⟩, rfl⟩
 exact ⟨W', ⟨c.wf, F', T', fun r f z => by rcases b3 r f with f | f; exact hF r f z; exact hZ r z f⟩, Kept.ch c b2, rfl⟩
theorem nodeX {W : Pt → Prop} {st : St} {rt : Pt} {tb : Tb} {id : Nat} (hT : TabX st W rt tb) (hi : id < tb.nodes.length) :
  Does (tabT tabD) n_cons_Table_Node [.ptr rt 0, .int .i64 id] st fun v S => TabX S W rt tb ∧ Gr st S ∧ ∃ e, v = .tup [.agg e, .bool true] ∧ NdC (fun _ => True) S e tb.nodes[id] := by
 have hT0 := hT
 obtain ⟨hw, F, hT⟩ := hT
 refine (nodeC (Q := fun _ => True) hw hT hi fun _ _ => trivial).mono ?_
 rintro v S ⟨g, e, rfl, h⟩
 exact ⟨hT0.gr g, g, e, rfl, h⟩
theorem mainX {W : Pt → Prop} {st : St} {rt : Pt} {tb : Tb} (hT : TabX st W rt tb) : Does (tabT tabD) n_cons_Table_Main [.ptr rt 0] st fun v S => v = .int .i64 tb.main ∧ st = S := by
 obtain ⟨hw, F, hT⟩ := hT
 exact mainC hT
theorem schC1 {P : Pt → Prop} {st : St} {e : List V} {t : Ty} (h : TyC P st e t) : SchC P st (e ++ [.snil, .snil]) ⟨t, [], []⟩ :=
 ⟨e, .snil, .snil, rfl, h, ⟨[], SlAt.nil _ _ _, rfl, fun i h => absurd h (by simp)⟩, ⟨[], SlAt.nil _ _ _, rfl, fun i h => absurd h (by simp)⟩⟩
theorem newX1 {P : Pt → Prop} {st : St} {e : List V} {t : Ty} (hw : WF st) (h : TyC P st e t) : Does (tabT tabD) n_cons_New [.agg (e ++ [.snil, .snil])] st fun v S => Gr st S ∧ NewX st v S (newS ⟨t, [], []⟩) := by
 refine (new0 hw (schC1 h) rfl rfl).mono ?_
 rintro v S ⟨g, hp⟩
 refine ⟨g, ?_⟩
 unfold NewPost at hp
 unfold NewX
 cases hn : (newS ⟨t, [], []⟩).1 with
 | none => rw [hn] at hp; exact hp
 | some tb =>
   rw [hn] at hp
   obtain ⟨rt, W, F, h1, h2, h3⟩ := hp
   exact ⟨rt, W, h1, ⟨g.wf, F, h2⟩, fun r e _ => ⟨g.same r e, fun w => e (h3 r (.inl w))⟩⟩
theorem cloneF_Type {P : Pt → Prop} {st : St} {v : V} {es : List (List V)} (hw : WF st) (h : SlAt P st v 4 es) (hok : okC es) (hn : es.length < 2 ^ 20) :
  Does (tabT tabD) n_slices_Clone_Type [v] st fun v' st' => Gr st st' ∧ SlF st st' v' 4 es := by
 refine Does.gr tabM hw (does_fn at_slices_Clone_Type rfl ?_)
 obtain ⟨n, hn0⟩ : ∃ n, st.nx = up 0 n := ⟨_, up0 _⟩
 have hold := fun r (h : st.row r ≠ .none) => old_up hw hn0 h
 rcases h.2 with ⟨rfl, rfl⟩ | ⟨r, o, hp, hv, l, hl, h1, h2⟩
 ·have e1 : eqV (.one .l) false .snil .snil = some (.bool true, .no) := rfl
  simp only [cf_slices_Clone_Type, XZ, simprocAttr, e1]
  exact ⟨fun _ _ => trivial, SlF.nil _ _ _⟩
 ·have e1 : eqV (.one .l) false v .snil = some (.bool false, .no) := by rcases hv with rfl | ⟨c, _, rfl⟩ <;> rfl
  have h' : SlAt P (st.new fun t => .cells t []) v 4 es := h.imp fun r p e => ⟨p, row_new_old hw _ e⟩
  have r0 := row_new_nx st fun t => .cells t []
  have ha : appV (st.new fun t => .cells t []) 4 (.slx st.nx 0 0 4 0) v = if 0 < es.length then some (.sl (st.new fun t => .cells t []).nx 0 es.length 4, .new fun u => .cells u es.flatten) else some (.slx st.nx 0 0 4 0, .no) := by
   by_cases h0 : 0 < es.length
   ·rw [if_pos h0]; exact app_empty h' hok hn h0 r0
   ·rw [if_neg h0]
    have : es = [] := List.length_eq_zero_iff.1 (by omega)
    subst this
    exact app_empty0 h'
  rw [hn0] at ha
  by_cases h0 : 0 < es.length
  ·simp only [h0] at ha
   simp only [cf_slices_Clone_Type, XZ, simprocAttr, e1, hn0, e_app, ha]
   refine ⟨fun r hr => by simp only [hold r hr, if_false], ⟨h.1, .inr ⟨up 1 n, (st.new fun t => .cells t []).t, nx0 hw hn0 1, by simp only [XZ, simprocAttr, hn0], .inl rfl⟩⟩⟩
  ·simp only [h0] at ha
   simp only [cf_slices_Clone_Type, XZ, simprocAttr, e1, hn0, e_app, ha]
   have : es = [] := List.length_eq_zero_iff.1 (by omega)
   subst this
   exact ⟨fun r hr => by simp only [hold r hr, if_false], ⟨h.1, .inr ⟨up 0 n, st.t, nx0 hw hn0 0, by simp only [XZ, simprocAttr, hn0, List.flatten_nil], .inr rfl⟩⟩⟩
theorem typesS_step {p : Option Str} {n : Str} {r : List Str} (h1 : badName n = false) (h2 : notLess p n = false) : typesS p (n :: r) = typesS (some n) r := by
 rw [typesS, if_neg (by rw [h1]; simp), if_neg (by rw [h2]; simp)]
set_option maxHeartbeats 2000000 in
theorem typesC {P : Pt → Prop} {st : St} {v : V} {l : List (Str × Ty)} (hw : WF st) (h : LstAt (NmC P st) P st v 5 l) (hl : l.length ≤ 1000) : Does (tabT tabD) n_shape_types [v] st fun v' st' => Gr st st' ∧ v' = .int .i64 (typesS none (l.map Prod.fst)) := by
 refine does_fnG tabM at_shape_types rfl hw fun K fin => ?_
 have l1 := h.len
 simp only [cf_shape_types, XY, simprocAttr]
 rw [wC_seq]; simp only [XY, simprocAttr]
 rw [wC_seqj, wC_seq]; simp only [XY, simprocAttr, l1]
 obtain ⟨I, hI⟩ : ∃ I : Nat → Fr → St → Prop, ∀ j fr S, I j fr S ↔ ∃ (i : Nat) (p : Option Str), j + i = l.length ∧ fr 0 = v ∧ fr 5 = v ∧ fr 6 = .int .i64 l.length ∧ fr 7 = .int .i64 i ∧ Gr st S ∧ typesS none (l.map Prod.fst) = typesS p ((l.map Prod.fst).drop i) ∧ (p = if i = 0 then none else (l.map Prod.fst)[i - 1]?) := ⟨_, fun _ _ _ => Iff.rfl⟩
 refine wC_loop I l.length (by omega) ((hI _ _ _).2 ⟨0, none, by omega, by simp only [XZ, simprocAttr], by simp only [XZ, simprocAttr], by simp only [XZ, simprocAttr], by simp only [XZ, simprocAttr] <;> rfl, Gr.refl hw, rfl, rfl⟩) ?_
 intro j fr S hIj
 obtain ⟨i, p, hj, f0, f5, f6, f7, hg, hrec, hp⟩ := (hI _ _ _).1 hIj
 by_cases hi : i < l.length
 ·have hi' : (i : Int) < l.length := by omega
  have hS : LstAt (NmC P S) P S v 5 l := h.imp (fun e x h => h.imp fun r p e => ⟨p, hg.same r e⟩) fun r p e => ⟨p, hg.same r e⟩
  obtain ⟨r, q, e, a1, a2, a3, a4, ⟨c, he, hc⟩, a6, a7⟩ := hS.elem hi
  obtain ⟨nv, kv, es, rfl, x1, x2, x3, x4⟩ := hc.inv
  subst he
  have d1 := x1.cells
  have d2 := x1.sc
  have d3 := x2.cells
  have d4 := x2.sc
  have wS := hg.wf
  obtain ⟨nS, hnS⟩ : ∃ n, S.nx = up 0 n := ⟨_, up0 _⟩
  have oq := fun k => nes (ne_up wS hnS a3 k)
  obtain ⟨N, hN⟩ : ∃ N, N = l[i].1 := ⟨_, rfl⟩
  obtain ⟨T, hT⟩ : ∃ T, T = l[i].2 := ⟨_, rfl⟩
  rw [← hN, ← hT] at a4
  have hd : (l.map Prod.fst).drop i = N :: (l.map Prod.fst).drop (i + 1) := by
   rw [List.drop_eq_getElem_cons (by simpa using hi), List.getElem_map, ← hN]
  rw [hd] at hrec
  have hadd1 : IntKind.i64.wrap ((i : Int) + 1) = ((i + 1 : Nat) : Int) := by rw [i64_in (by omega) (by omega)]; rfl
  rw [wC_seq]; simp only [XY, simprocAttr, f6, f7, hi']
  rw [wC_seqj]; simp only [XY, simprocAttr]
  rw [wC_seqj]; simp only [XY, simprocAttr]
  rw [wC_seq]; simp only [XY, simprocAttr, f5, f7, a1, a4, hnS, oq, d1, d2, d3, d4]
  obtain ⟨S1, hS1⟩ : ∃ S1, S1 = ((S.new fun t => .cells t [ofL [], .int .i64 0, ofL [], .snil, .snil]).wr (up 0 nS) S.t fun u => .cells u [ofL N, .int .i64 T.kind, ofL T.name, nv, kv]) := ⟨_, rfl⟩
  have g1 : Gr S S1 := by rw [hS1]; exact (Gr.refl wS).nw hnS (good_cells _) (good_cells _)
  obtain ⟨t1, r1⟩ : ∃ t, S1.row (up 0 nS) = .cells t [ofL N, .int .i64 T.kind, ofL T.name, nv, kv] := ⟨_, by rw [hS1]; simp only [XZ, simprocAttr, hnS]; rfl⟩
  rw [← hS1]
  rw [wC_seq]; simp only [XY, simprocAttr, r1]
  refine wCall_plain (identC N _ g1.wf) ?_
  rintro _ S2 ⟨g2, rfl⟩
  have G2 := (hg.trans g1).trans g2
  have r2 := g2.cells r1
  have last : ∀ S3, Gr st S3 → S3.row (up 0 nS) = .cells t1 [ofL N, .int .i64 T.kind, ofL T.name, nv, kv] → True := fun _ _ _ => trivial
  have bad : badName N = true → typesS none (l.map Prod.fst) = 15 := fun hb => by rw [hrec, typesS, if_pos hb]
  cases hid : identB N with
  | false =>
    simp only [XZ, simprocAttr]
    refine fin _ _ (fun r e => G2.same r e) fun _ => ?_
    rw [bad (by unfold badName; rw [hid]; rfl)]
  | true =>
    have hlN := identB_len hid
    simp only [XY, simprocAttr, r2, List.length_append]
    refine ⟨by omega, by omega, ?_⟩
    refine wCall_plain (does_hook (Q := fun v st' => v = .bool (Lib.contains words (32 :: (N ++ [32]))) ∧ S2 = st') at_strings_Contains (contains_of words (32 :: (N ++ [32])) (by decide)) ⟨rfl, rfl⟩) ?_
    rintro _ _ ⟨rfl, rfl⟩
    cases hwd : Lib.contains words (32 :: (N ++ [32])) with
    | true =>
      simp only [XZ, simprocAttr]
      refine fin _ _ (fun r e => G2.same r e) fun _ => ?_
      rw [bad (by unfold badName; rw [hid, hwd]; rfl)]
    | false =>
      have hbn : badName N = false := by unfold badName; rw [hid, hwd]; rfl
      have next : ∀ {fr' : Fr}, notLess p N = false → fr' 0 = v → fr' 5 = v → fr' 6 = .int .i64 l.length → fr' 7 = .int .i64 ((i + 1 : Nat) : Int) → ∃ j', j' < j ∧ I j' fr' S2 := fun {fr'} hl e0 e5 e6 e7 =>
       ⟨l.length - (i + 1), by omega, (hI _ _ _).2 ⟨i + 1, some N, by omega, e0, e5, e6, e7, G2, by rw [hrec, typesS_step hbn hl], by rw [if_neg (by omega)]; simp [hi, hN]⟩⟩
      by_cases h0 : i = 0
      ·have h0' : ¬ (0 : Int) < (i : Int) := by omega
       simp only [XZ, simprocAttr, f7, h0', hadd1, apartAll_nil]
       refine next (by rw [hp, if_pos h0]; rfl) ?_ ?_ ?_ ?_ <;> simp only [XZ, simprocAttr, f0, f5, f6]
      ·have h0' : (0 : Int) < (i : Int) := by omega
       have hsub : IntKind.i64.wrap ((i : Int) - 1) = ((i - 1 : Nat) : Int) := by rw [i64_in (by omega) (by omega)]; omega
       have hS2 : LstAt (NmC P S2) P S2 v 5 l := h.imp (fun e x h => h.imp fun r p e => ⟨p, G2.same r e⟩) fun r p e => ⟨p, G2.same r e⟩
       have hi1 : i - 1 < l.length := by omega
       obtain ⟨r', q', e', b1, b2, b3, b4, ⟨c', hb, hb'⟩, b6, b7⟩ := hS2.elem hi1
       subst hb
       have b8 := b7 0 (by simp)
       have b8 : ld1 (S2.row r') q' = some (ofL l[i - 1].1, .no) := b8
       have hp' : p = some l[i - 1].1 := by rw [hp, if_neg h0, List.getElem?_map, List.getElem?_eq_getElem hi1]; rfl
       cases hl : Op.bytesLess l[i - 1].1 N with
       | false =>
         simp only [XZ, simprocAttr, f0, f7, h0', r2, hsub, b1, b8, binV_sgeq, hl, apartAll_nil]
         refine fin _ _ (fun r e => G2.same r e) fun _ => ?_
         rw [hrec, typesS, if_neg (by rw [hbn]; simp), if_pos (by rw [hp', notLess, hl]; rfl)]
       | true =>
         simp only [XZ, simprocAttr, f0, f7, h0', r2, hsub, b1, b8, binV_sgeq, hl, apartAll_nil, hadd1]
         refine next (by rw [hp', notLess, hl]; rfl) ?_ ?_ ?_ ?_ <;> simp only [XZ, simprocAttr, f0, f5, f6]
 ·have hi' : ¬ (i : Int) < l.length := by omega
  simp only [XZ, simprocAttr, f6, f7, hi']
  refine fin _ _ (fun r e => hg.same r e) fun _ => ?_
  rw [hrec, List.drop_eq_nil_of_le (by simp; omega), typesS]
theorem set_new {α : Type} [DecidableEq α] {k : α} {v : V} : ∀ {es : List (α × V)}, (∀ p ∈ es, k ≠ p.1) → set_ k v es = es ++ [(k, v)]
 | [], _ => rfl
 | (a, w) :: r, h => by
   rw [set_, if_neg (h (a, w) (by simp)), set_new fun p hp => h p (List.mem_cons_of_mem _ hp)]
   rfl
set_option maxHeartbeats 2000000 in
theorem namedC {P : Pt → Prop} {st : St} {e : List V} {s : Sch} (hw : WF st) (h : SchC P st e s) (hl : s.types.length ≤ 1000) (hd : (s.types.map Prod.fst).Nodup) : Does (tabT tabD) n_shape_named [.agg e] st fun v' st' => Gr st st' ∧ ∃ r, v' = .map r ∧ st.row r = .none ∧ NmMap P st' r s.types := by
 refine does_fnG tabM at_shape_named rfl hw fun K fin => ?_
 obtain ⟨n, hn0⟩ : ∃ n, st.nx = up 0 n := ⟨_, up0 _⟩
 obtain ⟨c, tv, sv, rfl, h1, h2, h3⟩ := h
 obtain ⟨l, hll⟩ : ∃ l, l = s.types := ⟨_, rfl⟩
 rw [← hll] at h2 hl hd
 simp only [← hll] at fin
 obtain ⟨M, hM⟩ : ∃ M, M = s.main := ⟨_, rfl⟩
 rw [← hM] at h1
 obtain ⟨k, nm, ns, ks⟩ := M
 obtain ⟨nv, kv, es, rfl, x1, x2, x3, x4⟩ := h1.inv'
 have l1 := h2.len
 simp only [cf_shape_named, XY, simprocAttr]
 rw [wC_seq]; simp only [XY, simprocAttr, hn0, x1.sc, x2.sc, h2.sc.1, h3.sc.1]
 rw [wC_seq]; simp only [XY, simprocAttr, hn0]
 obtain ⟨S0, hS0⟩ : ∃ S0, S0 = ((st.new fun t => .cells t [.int .i64 k, ofL nm, nv, kv, tv, sv]).new fun t => .mob t []) := ⟨_, rfl⟩
 have g0 : Gr st S0 := by rw [hS0]; exact (Gr.new hw (good_cells _)).nn (good_mob _)
 obtain ⟨t0, r0⟩ : ∃ t, S0.row (up 0 n) = .cells t [.int .i64 k, ofL nm, nv, kv, tv, sv] := ⟨_, by rw [hS0]; simp only [XZ, simprocAttr, hn0]; rfl⟩
 obtain ⟨tm, m0⟩ : ∃ t, S0.row (up 1 n) = .mob t [] := ⟨_, by rw [hS0]; simp only [XZ, simprocAttr, hn0]; rfl⟩
 obtain ⟨rm, hrm⟩ : ∃ p, p = up 1 n := ⟨_, rfl⟩
 have q0 : st.row rm = .none := by rw [hrm]; exact nx0 hw hn0 1
 rw [← hS0, ← hrm]
 rw [← hrm] at m0
 clear hS0
 rw [wC_seqj, wC_seq]; simp only [XY, simprocAttr, r0, l1]
 obtain ⟨I, hI⟩ : ∃ I : Nat → Fr → St → Prop, ∀ j fr S, I j fr S ↔ ∃ (i : Nat) (ms : List (Str × List V)), j + i = l.length ∧ fr 3 = .map rm ∧ fr 8 = tv ∧ fr 9 = .int .i64 l.length ∧ fr 10 = .int .i64 i ∧ Gr st S ∧ (∃ t, S.row rm = .mob t (ms.map fun p => (ofL p.1, V.agg p.2))) ∧ ms.length = i ∧ ∀ j (h : j < ms.length) (h' : j < l.length), ms[j].1 = l[j].1 ∧ TyC P st ms[j].2 l[j].2 := ⟨_, fun _ _ _ => Iff.rfl⟩
 refine wC_loop I l.length (by omega) ((hI _ _ _).2 ⟨0, [], by omega, by simp only [XZ, simprocAttr], by simp only [XZ, simprocAttr], by simp only [XZ, simprocAttr], by simp only [XZ, simprocAttr] <;> rfl, g0, ⟨tm, m0⟩, rfl, fun j h => absurd h (by simp)⟩) ?_
 intro j fr S hIj
 obtain ⟨i, ms, hj, f3, f8, f9, f10, hg, ⟨t, hm⟩, hml, hms⟩ := (hI _ _ _).1 hIj
 by_cases hi : i < l.length
 ·have hi' : (i : Int) < l.length := by omega
  obtain ⟨r, q, e, a1, a2, a3, a4, ⟨c, he, hc⟩, a6, a7⟩ := h2.elem hi
  have hc0 := hc
  obtain ⟨nv1, kv1, es1, rfl, y1, y2, y3, y4⟩ := hc.inv
  subst he
  rw [← hg.same r a3] at a4
  have d1 := y1.cells
  have d2 := y1.sc
  have d3 := y2.cells
  have d4 := y2.sc
  have wS := hg.wf
  obtain ⟨nS, hnS⟩ : ∃ n, S.nx = up 0 n := ⟨_, up0 _⟩
  have a3S : S.row r ≠ .none := by rw [hg.same r a3]; exact a3
  have oq := fun k => nes (ne_up wS hnS a3S k)
  have hmn : S.row rm ≠ .none := by rw [hm]; exact fun e => by cases e
  have om := fun k => nes (ne_up wS hnS hmn k)
  obtain ⟨N, hN⟩ : ∃ N, N = l[i].1 := ⟨_, rfl⟩
  obtain ⟨T, hT⟩ : ∃ T, T = l[i].2 := ⟨_, rfl⟩
  rw [← hT] at hc0
  rw [← hN, ← hT] at a4
  have hadd1 : IntKind.i64.wrap ((i : Int) + 1) = ((i + 1 : Nat) : Int) := by rw [i64_in (by omega) (by omega)]; rfl
  rw [wC_seq]; simp only [XY, simprocAttr, f9, f10, hi']
  rw [wC_seqj]; simp only [XY, simprocAttr]
  rw [wC_seqj]; simp only [XY, simprocAttr]
  rw [wC_seq]; simp only [XY, simprocAttr, f8, f10, a1, a4, hnS, oq, d1, d2, d3, d4]
  obtain ⟨S1, hS1⟩ : ∃ S1, S1 = ((S.new fun t => .cells t [ofL [], .int .i64 0, ofL [], .snil, .snil]).wr (up 0 nS) S.t fun u => .cells u [ofL N, .int .i64 T.kind, ofL T.name, nv1, kv1]) := ⟨_, rfl⟩
  have g1 : Gr S S1 := by rw [hS1]; exact (Gr.refl wS).nw hnS (good_cells _) (good_cells _)
  obtain ⟨t1, r1⟩ : ∃ t, S1.row (up 0 nS) = .cells t [ofL N, .int .i64 T.kind, ofL T.name, nv1, kv1] := ⟨_, by rw [hS1]; simp only [XZ, simprocAttr, hnS]; rfl⟩
  have m1 : S1.row rm = .mob t (ms.map fun p => (ofL p.1, V.agg p.2)) := by rw [g1.same rm hmn, hm]
  rw [← hS1]
  have hnew : ∀ p ∈ ms.map (fun p => (p.1, V.agg p.2)), N ≠ p.1 := fun p hp e => by
   obtain ⟨p0, hp0, rfl⟩ := List.mem_map.1 hp
   obtain ⟨j, hj1, rfl⟩ := List.mem_iff_getElem.1 hp0
   have hj2 : j < l.length := by omega
   have e1 := (hms j hj1 hj2).1
   have e2 : (l.map Prod.fst)[j]'(by simpa using hj2) = (l.map Prod.fst)[i]'(by simpa using hi) := by
    rw [List.getElem_map, List.getElem_map, ← e1, ← hN]; exact e.symm
   exact List.pairwise_iff_getElem.1 hd j i (by simpa using hj2) (by simpa using hi) (by omega) e2
  have hmm : S1.row rm = .mob t ((ms.map fun p => (p.1, V.agg p.2)).map fun p => (ofL p.1, p.2)) := by rw [m1, List.map_map]; rfl
  have hup := mupd_at (enc := ofL) (e := .one .s) hmm N (.agg [.int .i64 T.kind, ofL T.name, nv1, kv1]) (str_heq N _) rfl
  rw [set_new hnew] at hup
  simp only [XZ, simprocAttr, f3, r1, hup, hadd1, f10]
  refine ⟨l.length - (i + 1), by omega, (hI _ _ _).2 ⟨i + 1, ms ++ [(N, [.int .i64 T.kind, ofL T.name, nv1, kv1])], by omega, by simp only [XZ, simprocAttr, f3], by simp only [XZ, simprocAttr, f8], by simp only [XZ, simprocAttr, f9], by simp only [XZ, simprocAttr], ?_, ?_, by simp [hml], fun j h h' => ?_⟩⟩
  ·exact (hg.trans g1).wr q0 (by rw [m1]; exact fun e => by cases e) (by rw [m1]; rfl) (good_mob _)
  ·exact ⟨_, by rw [row_wr_same]; simp; rfl⟩
  ·by_cases c : j < ms.length
   ·rw [List.getElem_append_left c]
    exact hms j c h'
   ·have : j = i := by simp at h; omega
    subst this
    subst hml
    simp only [List.getElem_concat_length]
    exact ⟨hN, by rw [← hT]; exact hc0⟩
 ·have hi' : ¬ (i : Int) < l.length := by omega
  simp only [XZ, simprocAttr, f3, f9, f10, hi']
  refine fin _ _ (fun r e => hg.same r e) fun G => ⟨rm, rfl, q0, ms, ⟨t, by rw [hm, List.map_map]; rfl⟩, by omega, fun j h h' => ⟨(hms j h h').1, (hms j h h').2.gr hg⟩⟩
theorem sigsS_cons (has : Str → Bool) (p : Option Str) (f : Sg) (r : List Sg) (met : Nat) : sigsS has p (f :: r) met = if (!identB f.name || isBuiltin f.name) = true then (15, met) else if notLess p f.name = true then (6, met) else if 4 < f.params.length then (18, met) else
  if (maysS has (f.params ++ [f.result]) 1 met).1 ≠ 0 then maysS has (f.params ++ [f.result]) 1 met else sigsS has (some f.name) r (maysS has (f.params ++ [f.result]) 1 met).2 := by rw [sigsS]
theorem LookAt.low {P : Pt → Prop} {st : St} {kr rm : Pt} {l : List (Str × Ty)} {met : Nat} (h : LookAt P st kr rm l met) (k : Nat) : LookAt P { st with low := k } kr rm l met := ⟨h.map.imp rfl fun r p _ => ⟨p, rfl⟩, h.cell, h.sep, h.ne⟩
theorem _root_.Eva.LstAt.low {P : Pt → Prop} {st : St} {v : V} {l : List Ty} (h : LstAt (TyC P st) P st v 4 l) (k : Nat) : LstAt (TyC P { st with low := k }) P { st with low := k } v 4 l := h.imp (fun e x h => h.imp fun r p _ => ⟨p, rfl⟩) fun r p _ => ⟨p, rfl⟩
set_option maxHeartbeats 4000000 in
theorem sigsC {P : Pt → Prop} {st : St} {kr rm : Pt} {l : List (Str × Ty)} {met : Nat} {v : V} {fs : List Sg} (hw : WF st) (hL : LookAt P st kr rm l met) (h : LstAt (SgC P st) P st v 6 fs) (hl : fs.length ≤ 1000) (hmet : met ≤ 400) :
  Does (tabT tabD) n_shape_looker_sigs [.ptr kr 0, v] st fun v' st' => Ch (fun r => r = kr) st st' ∧ LookAt P st' kr rm l (sigsS (hasN l) none fs met).2 ∧ v' = .int .i64 (sigsS (hasN l) none fs met).1 := by
 refine does_fnC tabM at_shape_looker_sigs rfl hw fun K fin => ?_
 have l1 := h.len
 simp only [cf_shape_looker_sigs, XY, simprocAttr]
 rw [wC_seq]; simp only [XY, simprocAttr]
 rw [wC_seqj, wC_seq]; simp only [XY, simprocAttr, l1]
 obtain ⟨I, hI⟩ : ∃ I : Nat → Fr → St → Prop, ∀ j fr S, I j fr S ↔ ∃ (i mi : Nat) (p : Option Str), j + i = fs.length ∧ fr 0 = .ptr kr 0 ∧ fr 1 = v ∧ fr 8 = v ∧ fr 9 = .int .i64 fs.length ∧ fr 10 = .int .i64 i ∧ Ch (fun r => r = kr) st S ∧ LookAt P S kr rm l mi ∧ mi ≤ 400 ∧ sigsS (hasN l) none fs met = sigsS (hasN l) p (fs.drop i) mi ∧ (p = if i = 0 then none else (fs.map Sg.name)[i - 1]?) := ⟨_, fun _ _ _ => Iff.rfl⟩
 refine wC_loop I fs.length (by omega) ((hI _ _ _).2 ⟨0, met, none, by omega, by simp only [XZ, simprocAttr], by simp only [XZ, simprocAttr], by simp only [XZ, simprocAttr], by simp only [XZ, simprocAttr], by simp only [XZ, simprocAttr] <;> rfl, Ch.refl _ hw, hL, hmet, rfl, rfl⟩) ?_
 intro j fr S hIj
 obtain ⟨i, mi, p, hj, f0, f1, f8, f9, f10, hC, hLi, hmi, hrec, hp⟩ := (hI _ _ _).1 hIj
 have kst : st.row kr ≠ .none := hL.krne
 by_cases hi : i < fs.length
 ·have hi' : (i : Int) < fs.length := by omega
  have hold : ∀ {S' : St}, Ch (fun r => r = kr) st S' → LstAt (SgC P S') P S' v 6 fs := fun c => by
   have hk : ∀ r, P r → st.row r ≠ .none → P r ∧ _ = st.row r := fun r p e => ⟨p, c.same r e (hL.sep r p)⟩
   exact h.imp (fun e x h => h.imp hk) hk
  obtain ⟨r, q, e, a1, a2, a3, a4, ⟨pv, c, he, hps, hc⟩, a6, a7⟩ := (hold hC).elem hi
  obtain ⟨es, sp, sp1, sp2⟩ := hps
  obtain ⟨nv, kv, es1, rfl, x1, x2, x3, x4⟩ := hc.inv
  subst he
  have d1 := x1.cells
  have d2 := x1.sc
  have d3 := x2.cells
  have d4 := x2.sc
  have d5 := sp.cells
  have d6 := sp.sc
  have wS := hC.wf
  obtain ⟨nS, hnS⟩ : ∃ n, S.nx = up 0 n := ⟨_, up0 _⟩
  have oq := fun k => nes (ne_up wS hnS a3 k)
  have hadd1 : IntKind.i64.wrap ((i : Int) + 1) = ((i + 1 : Nat) : Int) := by rw [i64_in (by omega) (by omega)]; rfl
  obtain ⟨f, hf⟩ : ∃ f, f = fs[i] := ⟨_, rfl⟩
  have hd : fs.drop i = f :: fs.drop (i + 1) := by rw [List.drop_eq_getElem_cons hi, ← hf]
  rw [hd, sigsS_cons] at hrec
  rw [← hf] at a4 hc sp1 sp2 x4 x3 x1
  rw [wC_seq]; simp only [XY, simprocAttr, f9, f10, hi']
  rw [wC_seqj]; simp only [XY, simprocAttr]
  rw [wC_seqj]; simp only [XY, simprocAttr]
  rw [wC_seq]; simp only [XY, simprocAttr, f8, f10, a1, a4, hnS, oq, d1, d2, d3, d4, d5, d6]
  obtain ⟨S1, hS1⟩ : ∃ S1, S1 = ((S.new fun t => .cells t [ofL [], .snil, .int .i64 0, ofL [], .snil, .snil]).wr (up 0 nS) S.t fun u => .cells u [ofL f.name, pv, .int .i64 f.result.kind, ofL f.result.name, nv, kv]) := ⟨_, rfl⟩
  have g1 : Gr S S1 := by rw [hS1]; exact (Gr.refl wS).nw hnS (good_cells _) (good_cells _)
  obtain ⟨t1, r1⟩ : ∃ t, S1.row (up 0 nS) = .cells t [ofL f.name, pv, .int .i64 f.result.kind, ofL f.result.name, nv, kv] := ⟨_, by rw [hS1]; simp only [XZ, simprocAttr, hnS]; rfl⟩
  rw [← hS1]
  obtain ⟨J, hJ⟩ : ∃ J : Fr → St → Prop, ∀ fr S', J fr S' ↔ (Gr S1 S' ∧ fr 0 = .ptr kr 0 ∧ fr 1 = v ∧ fr 6 = .ptr (up 0 nS) 0 ∧ fr 8 = v ∧ fr 9 = .int .i64 fs.length ∧ fr 10 = .int .i64 i ∧ (!identB f.name || isBuiltin f.name) = false ∧ notLess p f.name = false ∧ f.params.length ≤ 4) := ⟨_, fun _ _ => Iff.rfl⟩
  have lp := sp.len
  rw [sp1] at lp
  refine wC_cut J ?_ ?_
  ·simp only [XY, simprocAttr]
   rw [wC_seq]; simp only [XY, simprocAttr, r1]
   refine wCall_plain (identC f.name _ g1.wf) ?_
   rintro _ S2 ⟨g2, rfl⟩
   have G12 := g1.trans g2
   have r2 := g2.cells r1
   have C2 : Ch (fun r => r = kr) st S2 := hC.trans (Ch.of _ G12) fun r w => .inl w
   have L2 := hLi.gr G12
   have bad : (!identB f.name || isBuiltin f.name) = true → sigsS (hasN l) none fs met = (15, mi) := fun hb => by rw [hrec, if_pos hb]
   cases hid : identB f.name with
   | false =>
     simp only [XZ, simprocAttr]
     refine fin _ _ (fun r a b => C2.same r a b) fun _ => ?_
     rw [bad (by rw [hid]; rfl)]
     exact ⟨L2, rfl⟩
   | true =>
     simp only [XY, simprocAttr, r2]
     refine wCall_plain (builtinC f.name _ g2.wf) ?_
     rintro _ S3 ⟨g3, hv3⟩
     rw [show (identB f.name && Lib.contains builtins (32 :: (f.name ++ [32]))) = isBuiltin f.name from rfl] at hv3
     subst hv3
     have G23 := g2.trans g3
     have G13 := g1.trans G23
     have r3 := g3.cells r2
     have C3 : Ch (fun r => r = kr) st S3 := hC.trans (Ch.of _ G13) fun r w => .inl w
     have L3 := hLi.gr G13
     cases hbi : isBuiltin f.name with
     | true =>
       simp only [XZ, simprocAttr]
       refine fin _ _ (fun r a b => C3.same r a b) fun _ => ?_
       rw [bad (by rw [hbi]; simp)]
       exact ⟨L3, rfl⟩
     | false =>
       have hnb : (!identB f.name || isBuiltin f.name) = false := by rw [hid, hbi]; rfl
       have hrec2 := hrec
       rw [if_neg (by rw [hnb]; simp)] at hrec2
       by_cases h0 : i = 0
       ·have h0' : ¬ (0 : Int) < (i : Int) := by omega
        have hnl : notLess p f.name = false := by rw [hp, if_pos h0]; rfl
        by_cases h4 : 4 < f.params.length
        ·have h4' : (4 : Int) < f.params.length := by omega
         simp only [XZ, simprocAttr, h0', apartAll_nil, r3, lp, h4']
         refine fin _ _ (fun r a b => C3.same r a b) fun _ => ?_
         rw [hrec2, if_neg (by rw [hnl]; simp), if_pos h4]
         exact ⟨L3, rfl⟩
        ·have h4' : ¬ (4 : Int) < f.params.length := by omega
         simp only [XZ, simprocAttr, h0', apartAll_nil, r3, lp, h4']
         exact (hJ _ _).2 ⟨G23, by simp only [XZ, simprocAttr, f0], by simp only [XZ, simprocAttr, f1], by simp only [XZ, simprocAttr], by simp only [XZ, simprocAttr, f8], by simp only [XZ, simprocAttr, f9], by simp only [XZ, simprocAttr, f10], hnb, hnl, by omega⟩
       ·have h0' : (0 : Int) < (i : Int) := by omega
        have hsub : IntKind.i64.wrap ((i : Int) - 1) = ((i - 1 : Nat) : Int) := by rw [i64_in (by omega) (by omega)]; omega
        have hi1 : i - 1 < fs.length := by omega
        obtain ⟨r', q', e', b1, b2, b3, b4, ⟨pv', c', hb, hb1, hb2⟩, b6, b7⟩ := (hold C3).elem hi1
        subst hb
        have b8 := b7 0 (by simp)
        have b8 : ld1 (S3.row r') q' = some (ofL fs[i - 1].name, .no) := b8
        have hp' : p = some fs[i - 1].name := by rw [hp, if_neg h0, List.getElem?_map, List.getElem?_eq_getElem hi1]; rfl
        cases hl2 : Op.bytesLess fs[i - 1].name f.name with
        | false =>
          simp only [XZ, simprocAttr, f1, h0', r3, hsub, b1, b8, binV_sgeq, hl2, apartAll_nil]
          refine fin _ _ (fun r a b => C3.same r a b) fun _ => ?_
          rw [hrec2, if_pos (by rw [hp', notLess, hl2]; rfl)]
          exact ⟨L3, rfl⟩
        | true =>
          have hnl : notLess p f.name = false := by rw [hp', notLess, hl2]; rfl
          by_cases h4 : 4 < f.params.length
          ·have h4' : (4 : Int) < f.params.length := by omega
           simp only [XZ, simprocAttr, f1, h0', r3, hsub, b1, b8, binV_sgeq, hl2, apartAll_nil, lp, h4']
           refine fin _ _ (fun r a b => C3.same r a b) fun _ => ?_
           rw [hrec2, if_neg (by rw [hnl]; simp), if_pos h4]
           exact ⟨L3, rfl⟩
          ·have h4' : ¬ (4 : Int) < f.params.length := by omega
           simp only [XZ, simprocAttr, f1, h0', r3, hsub, b1, b8, binV_sgeq, hl2, apartAll_nil, lp, h4']
           exact (hJ _ _).2 ⟨G23, by simp only [XZ, simprocAttr, f0], by simp only [XZ, simprocAttr, f1], by simp only [XZ, simprocAttr], by simp only [XZ, simprocAttr, f8], by simp only [XZ, simprocAttr, f9], by simp only [XZ, simprocAttr, f10], hnb, hnl, by omega⟩
  intro fr S3 hJf
  obtain ⟨g13, f0, f1, f6, f8, f9, f10, hnb, hnl, h4⟩ := (hJ _ _).1 hJf
  rw [if_neg (by rw [hnb]; simp), if_neg (by rw [hnl]; simp), if_neg (by omega)] at hrec
  have G3 := g1.trans g13
  have C3 : Ch (fun r => r = kr) st S3 := hC.trans (Ch.of _ G3) fun r w => .inl w
  have L3 := hLi.gr G3
  have r3 := g13.cells r1
  have sp3 := sp.gr G3
  have hes : okC es := fun e he => by
   obtain ⟨j, hj, rfl⟩ := List.mem_iff_getElem.1 he
   exact (sp2 j hj (by omega)).ok
  have w3 := G3.wf
  rw [wC_seq]; simp only [XY, simprocAttr, f0, f6, r3]
  refine wCall_marked (cloneF_Type (wf_low w3 S3.t) (sp3.low _) hes (by omega)) ?_
  rintro cv S4 g4 hcv
  have hcv : SlF S3 S4 cv 4 es := hcv
  have r4 := g4.cells r3
  have w4 := g4.wf
  obtain ⟨n4, hn4⟩ : ∃ n, S4.nx = up 0 n := ⟨_, up0 _⟩
  simp only [XY, simprocAttr, f6, r4, hn4, d1, d2, d3, d4]
  obtain ⟨ce, hce⟩ : ∃ ce, ce = [V.int .i64 f.result.kind, ofL f.result.name, nv, kv] := ⟨_, rfl⟩
  rw [← hce] at hc
  rw [← hce]
  have gn : Gr S4 (S4.new fun t => .cells t ce) := Gr.new w4 (by rw [hce]; exact good_cells _)
  have hone : SlAt (fun r => r = up 0 n4) (S4.new fun t => .cells t ce) (.slx (up 0 n4) 0 1 4 1) 4 [ce] := by
   have := one_at (st := S4) (z := 4) hc.four
   rwa [hn4] at this
  refine wW_appF (S0 := S3) (g4.trans gn) (hcv.gr gn) hone (fun e he => by rw [List.mem_singleton.1 he]; exact hc.ok) (by simp) (by simp; omega) ?_
  intro S5 v5 g5 h5 _
  have G5 := G3.trans g5
  have L5 := hLi.gr G5
  have C5 : Ch (fun r => r = kr) st S5 := hC.trans (Ch.of _ G5) fun r w => .inl w
  have kr3 : S3.row kr ≠ .none := L3.krne
  have L5' : LookAt (fun r => P r ∨ S3.row r = .none) S5 kr rm l mi :=
   ⟨L5.map.imp rfl fun r p _ => ⟨.inl p, rfl⟩, L5.cell, fun r p => by rcases p with p | p; exact L5.sep r p; exact fun e => kr3 (by rw [← e]; exact p), L5.ne⟩
  have hx5 : LstAt (TyC (fun r => P r ∨ S3.row r = .none) S5) (fun r => P r ∨ S3.row r = .none) S5 v5 4 (f.params ++ [f.result]) := by
   refine ⟨es ++ [ce], h5.at.imp fun r p _ => ⟨.inr p, rfl⟩, by simp [sp1], fun i a b => ?_⟩
   have lift : ∀ {e t}, TyC P S e t → TyC (fun r => P r ∨ S3.row r = .none) S5 e t := fun h => h.imp fun r p e => ⟨.inl p, G5.same r e⟩
   by_cases hi : i < es.length
   ·rw [List.getElem_append_left hi, List.getElem_append_left (by omega)]
    exact lift (sp2 i hi (by omega))
   ·have : i = es.length := by simp at a; omega
    subst this
    rw [List.getElem_append_right (Nat.le_refl _), List.getElem_append_right (by omega)]
    simp only [Nat.sub_self, List.getElem_singleton]
    exact lift hc
  simp only [XY, simprocAttr]
  refine wCall_markedC (W := fun r => r = kr) C5.wf ((allC (wf_low C5.wf S5.t) (L5'.low S5.t) (hx5.low S5.t) (by simp; omega) hmi).mono fun v st' h => ⟨h.1, h.2⟩) ?_
  rintro _ S6 lo c6 ⟨L6, rfl⟩
  have cS6 : Ch (fun r => r = kr) st { S6 with low := lo } := C5.trans c6 fun r w => .inl w
  have L6' : LookAt P { S6 with low := lo } kr rm l (maysS (hasN l) (f.params ++ [f.result]) 1 mi).2 := L5.ch c6 L6.cell
  have hmet2 := maysS_met (hasN l) (f.params ++ [f.result]) 1 mi hmi
  by_cases he : (maysS (hasN l) (f.params ++ [f.result]) 1 mi).1 = 0
  ·rw [if_neg (by simpa using he)] at hrec
   simp only [XZ, simprocAttr, he, apartAll_nil, f0, f10, hadd1]
   exact ⟨fs.length - (i + 1), by omega, (hI _ _ _).2 ⟨i + 1, _, some f.name, by omega, by simp only [XZ, simprocAttr, f0], by simp only [XZ, simprocAttr, f1], by simp only [XZ, simprocAttr, f8], by simp only [XZ, simprocAttr, f9], by simp only [XZ, simprocAttr], cS6, L6', hmet2.2 he, hrec, by rw [if_neg (by omega)]; simp [hi, hf]⟩⟩
  ·rw [if_pos (by simpa using he)] at hrec
   simp only [XZ, simprocAttr, he, apartAll_nil]
   refine fin _ _ (fun r a b => cS6.same r a b) fun _ => ?_
   rw [hrec]; exact ⟨L6', rfl⟩
 ·have hi' : ¬ (i : Int) < fs.length := by omega
  simp only [XZ, simprocAttr, f9, f10, hi']
  refine fin _ _ (fun r a b => hC.same r a b) fun _ => ?_
  rw [hrec, List.drop_eq_nil_of_le (by omega), sigsS]
  exact ⟨hLi, rfl⟩
theorem sgTys_snoc (l : List Sg) (f : Sg) : sgTys (l ++ [f]) = sgTys l ++ (f.params ++ [f.result]) := by unfold sgTys; simp
theorem sgTys_len : ∀ (l : List Sg), (∀ f ∈ l, f.params.length ≤ 100) → (sgTys l).length ≤ 101 * l.length
 | [], _ => Nat.zero_le _
 | f :: l, h => by
   have ih := sgTys_len l fun g hg => h g (List.mem_cons_of_mem _ hg)
   have := h f (by simp)
   have e : (sgTys (f :: l)).length = f.params.length + 1 + (sgTys l).length := by unfold sgTys; simp; omega
   rw [e, List.length_cons]
   omega
set_option maxHeartbeats 4000000 in
theorem everyC {P Q : Pt → Prop} {st : St} {e : List V} {s : Sch} (hw : WF st) (h : SchC P st e s) (hl1 : s.types.length ≤ 1000) (hl2 : s.sigs.length ≤ 1000) (hl3 : ∀ f ∈ s.sigs, f.params.length ≤ 100) (hQ : ∀ r, P r → Q r) (hN : ∀ r, st.row r = .none → Q r) :
  Does (tabT tabD) n_shape_every [.agg e] st fun v' st' => Gr st st' ∧ LstAt (TyC Q st') Q st' v' 4 (everyS s) := by
 refine does_fnG tabM at_shape_every rfl hw fun K fin => ?_
 obtain ⟨n, hn0⟩ : ∃ n, st.nx = up 0 n := ⟨_, up0 _⟩
 obtain ⟨c, tv, sv, rfl, h1, h2, h3⟩ := h
 obtain ⟨M, hM⟩ : ∃ M, M = s.main := ⟨_, rfl⟩
 obtain ⟨l, hl⟩ : ∃ l, l = s.types := ⟨_, rfl⟩
 obtain ⟨fs, hfs⟩ : ∃ l, l = s.sigs := ⟨_, rfl⟩
 have hev : everyS s = l.map Prod.snd ++ [M] ++ sgTys fs := by rw [hM, hl, hfs]; rfl
 rw [hev] at fin
 rw [← hM] at h1
 rw [← hl] at h2 hl1
 rw [← hfs] at h3 hl2 hl3
 obtain ⟨nv, kv, es, rfl, x1, x2, x3, x4⟩ := h1.inv
 have h1' : TyC P st [.int .i64 M.kind, ofL M.name, nv, kv] M := h1
 have l1 := h2.len
 have l2 := h3.len
 simp only [cf_shape_every, XY, simprocAttr]
 rw [wC_seq]; simp only [XY, simprocAttr, hn0, x1.sc, x2.sc, x1.cells, x2.cells, h2.sc.1, h3.sc.1]
 obtain ⟨S0, hS0⟩ : ∃ S0, S0 = (st.new fun t => .cells t [.int .i64 M.kind, ofL M.name, nv, kv, tv, sv]) := ⟨_, rfl⟩
 have g0 : Gr st S0 := by rw [hS0]; exact Gr.new hw (good_cells _)
 obtain ⟨t0, r0⟩ : ∃ t, S0.row (up 0 n) = .cells t [.int .i64 M.kind, ofL M.name, nv, kv, tv, sv] := ⟨_, by rw [hS0]; simp only [XZ, simprocAttr, hn0]; rfl⟩
 rw [← hS0]
 clear hS0
 have hM0 : TyC P S0 [.int .i64 M.kind, ofL M.name, nv, kv] M := h1'.gr g0
 have h2 : LstAt (NmC P S0) P S0 tv 5 l := h2.imp (fun e x h => h.imp fun r p e => ⟨p, g0.same r e⟩) fun r p e => ⟨p, g0.same r e⟩
 have h3 : LstAt (SgC P S0) P S0 sv 6 fs := h3.imp (fun e x h => h.imp fun r p e => ⟨p, g0.same r e⟩) fun r p e => ⟨p, g0.same r e⟩
 have hN : ∀ r, S0.row r = .none → Q r := fun r h => hN r (Ch.fresh (Ch.of (fun _ => False) g0) h)
 have c1 := x1.cells
 have c2 := x1.sc
 have c3 := x2.cells
 have c4 := x2.sc
 rw [wC_seq]; simp only [XY, simprocAttr]
 obtain ⟨J, hJ⟩ : ∃ J : Fr → St → Prop, ∀ fr S, J fr S ↔ (∃ v, fr 1 = .ptr (up 0 n) 0 ∧ fr 3 = v ∧ Gr S0 S ∧ TysF P S0 S v (l.map Prod.snd)) := ⟨_, fun _ _ => Iff.rfl⟩
 refine wC_cut J ?_ ?_
 ·rw [wC_seq]; simp only [XY, simprocAttr, r0, l1]
  obtain ⟨I, hI⟩ : ∃ I : Nat → Fr → St → Prop, ∀ j fr S, I j fr S ↔ ∃ (i : Nat) (v : V), j + i = l.length ∧ fr 1 = .ptr (up 0 n) 0 ∧ fr 3 = v ∧ fr 9 = tv ∧ fr 10 = .int .i64 l.length ∧ fr 11 = .int .i64 i ∧ Gr S0 S ∧ TysF P S0 S v ((l.take i).map Prod.snd) := ⟨_, fun _ _ _ => Iff.rfl⟩
  refine wC_loop I l.length (by omega) ((hI _ _ _).2 ⟨0, .snil, by omega, by simp only [XZ, simprocAttr], by simp only [XZ, simprocAttr], by simp only [XZ, simprocAttr], by simp only [XZ, simprocAttr], by simp only [XZ, simprocAttr] <;> rfl, Gr.refl g0.wf, TysF.nil _ _ _⟩) ?_
  intro j fr S hIj
  obtain ⟨i, v, hj, f1, f3, f9, f10, f11, hg, hv⟩ := (hI _ _ _).1 hIj
  by_cases hi : i < l.length
  ·have hi' : (i : Int) < l.length := by omega
   obtain ⟨r, q, e, a1, a2, a3, a4, ⟨c, he, hc⟩, a6, a7⟩ := h2.elem hi
   have hc0 := hc
   obtain ⟨nv1, kv1, es1, rfl, y1, y2, y3, y4⟩ := hc.inv
   subst he
   rw [← hg.same r a3] at a4
   have d1 := y1.cells
   have d2 := y1.sc
   have d3 := y2.cells
   have d4 := y2.sc
   have wS := hg.wf
   obtain ⟨nS, hnS⟩ : ∃ n, S.nx = up 0 n := ⟨_, up0 _⟩
   have a3S : S.row r ≠ .none := by rw [hg.same r a3]; exact a3
   have oq := fun k => nes (ne_up wS hnS a3S k)
   have hadd1 : IntKind.i64.wrap ((i : Int) + 1) = ((i + 1 : Nat) : Int) := by rw [i64_in (by omega) (by omega)]; rfl
   have htk : (l.take (i + 1)).map Prod.snd = (l.take i).map Prod.snd ++ [l[i].2] := by rw [List.take_succ_eq_append_getElem hi, List.map_append]; rfl
   obtain ⟨N, hN'⟩ : ∃ N, N = l[i].1 := ⟨_, rfl⟩
   obtain ⟨T, hT⟩ : ∃ T, T = l[i].2 := ⟨_, rfl⟩
   rw [← hT] at hc0 htk
   rw [← hN', ← hT] at a4
   rw [wC_seq]; simp only [XY, simprocAttr, f10, f11, hi']
   rw [wC_seqj]; simp only [XY, simprocAttr]
   rw [wC_seqj]; simp only [XY, simprocAttr]
   rw [wC_seq]; simp only [XY, simprocAttr, f9, f11, a1, a4, hnS, oq, d1, d2, d3, d4]
   obtain ⟨S1, hS1⟩ : ∃ S1, S1 = ((S.new fun t => .cells t [ofL [], .int .i64 0, ofL [], .snil, .snil]).wr (up 0 nS) S.t fun u => .cells u [ofL N, .int .i64 T.kind, ofL T.name, nv1, kv1]) := ⟨_, rfl⟩
   have g1 : Gr S S1 := by rw [hS1]; exact (Gr.refl wS).nw hnS (good_cells _) (good_cells _)
   obtain ⟨t1, r1⟩ : ∃ t, S1.row (up 0 nS) = .cells t [ofL N, .int .i64 T.kind, ofL T.name, nv1, kv1] := ⟨_, by rw [hS1]; simp only [XZ, simprocAttr, hnS]; rfl⟩
   rw [← hS1]
   have w1 := g1.wf
   have hn1 : S1.nx = up 1 nS := by rw [hS1]; simp only [XZ, simprocAttr, hnS]
   simp only [XY, simprocAttr, f3, r1, hn1, d1, d2, d3, d4]
   have gn : Gr S1 (S1.new fun t => .cells t [.int .i64 T.kind, ofL T.name, nv1, kv1]) := Gr.new w1 (good_cells _)
   refine wW_appT (ts' := [T]) ((hg.trans g1).trans gn) ((hv.gr g1).gr gn) (one_ty hn1 hc0.four) rfl (fun i a b => by
    have : i = 0 := by simpa using a
    subst this; exact hc0) (by simp) (by simp; omega) ?_
   intro S2 v2 g2 h5 rv kp
   rw [← htk] at h5
   simp only [XZ, simprocAttr, f11, hadd1]
   exact ⟨l.length - (i + 1), by omega, (hI _ _ _).2 ⟨i + 1, v2, by omega, by simp only [XZ, simprocAttr, f1], by simp only [XZ, simprocAttr], by simp only [XZ, simprocAttr, f9], by simp only [XZ, simprocAttr, f10], by simp only [XZ, simprocAttr], g2, h5⟩⟩
  ·have hi' : ¬ (i : Int) < l.length := by omega
   simp only [XZ, simprocAttr, f10, f11, hi']
   rw [List.take_of_length_le (by omega)] at hv
   exact (hJ _ _).2 ⟨v, by simp only [XZ, simprocAttr, f1], by simp only [XZ, simprocAttr, f3], hg, hv⟩
 intro fr S hJf
 obtain ⟨v, f1, f3, hg, hv⟩ := (hJ _ _).1 hJf
 have r1 := hg.cells r0
 have wS := hg.wf
 obtain ⟨nS, hnS⟩ : ∃ n, S.nx = up 0 n := ⟨_, up0 _⟩
 rw [wC_seq]; simp only [XY, simprocAttr, f1, f3, r1, hnS, c1, c2, c3, c4]
 have gn : Gr S (S.new fun t => .cells t [.int .i64 M.kind, ofL M.name, nv, kv]) := Gr.new wS (good_cells _)
 refine wW_appT (ts' := [M]) (hg.trans gn) (hv.gr gn) (one_ty hnS hM0.four) rfl (fun i a b => by
  have : i = 0 := by simpa using a
  subst this; exact hM0) (by simp) (by simp; omega) ?_
 intro S2 v2 g2 h5 _ _
 have r2 := g2.cells r0
 simp only [XY, simprocAttr]
 obtain ⟨J2, hJ2⟩ : ∃ J : Fr → St → Prop, ∀ fr S, J fr S ↔ (∃ v, fr 3 = v ∧ Gr S0 S ∧ TysF P S0 S v (l.map Prod.snd ++ [M] ++ sgTys fs)) := ⟨_, fun _ _ => Iff.rfl⟩
 refine wC_cut J2 ?_ ?_
 ·rw [wC_seq]; simp only [XY, simprocAttr, f1, r2, l2]
  obtain ⟨I, hI⟩ : ∃ I : Nat → Fr → St → Prop, ∀ j fr S, I j fr S ↔ ∃ (i : Nat) (v : V), j + i = fs.length ∧ fr 3 = v ∧ fr 27 = sv ∧ fr 28 = .int .i64 fs.length ∧ fr 29 = .int .i64 i ∧ Gr S0 S ∧ TysF P S0 S v (l.map Prod.snd ++ [M] ++ sgTys (fs.take i)) := ⟨_, fun _ _ _ => Iff.rfl⟩
  refine wC_loop I fs.length (by omega) ((hI _ _ _).2 ⟨0, v2, by omega, by simp only [XZ, simprocAttr], by simp only [XZ, simprocAttr], by simp only [XZ, simprocAttr], by simp only [XZ, simprocAttr] <;> rfl, g2, by rw [List.take_zero]; unfold sgTys; simpa using h5⟩) ?_
  intro j fr S hIj
  obtain ⟨i, v, hj, f3, f27, f28, f29, hg, hv⟩ := (hI _ _ _).1 hIj
  by_cases hi : i < fs.length
  ·have hi' : (i : Int) < fs.length := by omega
   obtain ⟨r, q, e, a1, a2, a3, a4, ⟨pv, c, he, ⟨ep, p1, p2, p3⟩, hc⟩, a6, a7⟩ := h3.elem hi
   have hc0 := hc
   obtain ⟨nv1, kv1, es1, rfl, y1, y2, y3, y4⟩ := hc.inv
   subst he
   rw [← hg.same r a3] at a4
   have d1 := y1.cells
   have d2 := y1.sc
   have d3 := y2.cells
   have d4 := y2.sc
   have d5 := p1.cells
   have d6 := p1.sc
   have wS := hg.wf
   obtain ⟨nS, hnS⟩ : ∃ n, S.nx = up 0 n := ⟨_, up0 _⟩
   have a3S : S.row r ≠ .none := by rw [hg.same r a3]; exact a3
   have oq := fun k => nes (ne_up wS hnS a3S k)
   have hadd1 : IntKind.i64.wrap ((i : Int) + 1) = ((i + 1 : Nat) : Int) := by rw [i64_in (by omega) (by omega)]; rfl
   obtain ⟨f, hf⟩ : ∃ f, f = fs[i] := ⟨_, rfl⟩
   have htk : sgTys (fs.take (i + 1)) = sgTys (fs.take i) ++ (f.params ++ [f.result]) := by rw [List.take_succ_eq_append_getElem hi, sgTys_snoc, hf]
   have hfl := hl3 f (by rw [hf]; exact List.getElem_mem hi)
   have htl := sgTys_len (fs.take i) fun g hg => hl3 g (List.mem_of_mem_take hg)
   rw [List.length_take] at htl
   rw [← hf] at a4 hc0 p2 p3
   rw [wC_seq]; simp only [XY, simprocAttr, f28, f29, hi']
   rw [wC_seqj]; simp only [XY, simprocAttr]
   rw [wC_seqj]; simp only [XY, simprocAttr]
   rw [wC_seq]; simp only [XY, simprocAttr, f27, f29, a1, a4, hnS, oq, d1, d2, d3, d4, d5, d6]
   obtain ⟨S1, hS1⟩ : ∃ S1, S1 = ((S.new fun t => .cells t [ofL [], .snil, .int .i64 0, ofL [], .snil, .snil]).wr (up 0 nS) S.t fun u => .cells u [ofL f.name, pv, .int .i64 f.result.kind, ofL f.result.name, nv1, kv1]) := ⟨_, rfl⟩
   have g1 : Gr S S1 := by rw [hS1]; exact (Gr.refl wS).nw hnS (good_cells _) (good_cells _)
   obtain ⟨t1, r1⟩ : ∃ t, S1.row (up 0 nS) = .cells t [ofL f.name, pv, .int .i64 f.result.kind, ofL f.result.name, nv1, kv1] := ⟨_, by rw [hS1]; simp only [XZ, simprocAttr, hnS]; rfl⟩
   rw [← hS1]
   have hvn : rowOf v ≠ some (up 0 nS) := fun e => hv.alive e (nx0 wS hnS 0)
   simp only [XY, simprocAttr, f3, r1]
   refine wW_appT (ts' := f.params) (hg.trans g1) (hv.gr g1) ((p1.gr hg).gr g1) p2 p3 (by omega) (by simp; omega) ?_
   intro S2 v2 g2 h5 rv kp
   have r2 : S2.row (up 0 nS) = .cells t1 [ofL f.name, pv, .int .i64 f.result.kind, ofL f.result.name, nv1, kv1] := by rw [kp _ (ne_cells r1) hvn, r1]
   have w2 := g2.wf
   obtain ⟨n2, hn2⟩ : ∃ n, S2.nx = up 0 n := ⟨_, up0 _⟩
   simp only [XY, simprocAttr, r2, hn2, d1, d2, d3, d4]
   have gn : Gr S2 (S2.new fun t => .cells t [.int .i64 f.result.kind, ofL f.result.name, nv1, kv1]) := Gr.new w2 (good_cells _)
   refine wW_appT (ts' := [f.result]) (g2.trans gn) (h5.gr gn) (one_ty hn2 hc0.four) rfl (fun i a b => by
    have : i = 0 := by simpa using a
    subst this; exact hc0) (by simp) (by simp; omega) ?_
   intro S3 v3 g3 h6 _ _
   have h6 : TysF P S0 S3 v3 (l.map Prod.snd ++ [M] ++ sgTys (fs.take (i + 1))) := by rw [htk]; simpa using h6
   simp only [XZ, simprocAttr, f29, hadd1]
   refine ⟨apartAll_ok (v := v) (w := .ptr (up 0 nS) 2) (q := up 0 nS) (by simp only [XZ, simprocAttr, f3]) (by simp only [XZ, simprocAttr]) rfl hvn, ?_⟩
   exact ⟨fs.length - (i + 1), by omega, (hI _ _ _).2 ⟨i + 1, v3, by omega, by simp only [XZ, simprocAttr], by simp only [XZ, simprocAttr, f27], by simp only [XZ, simprocAttr, f28], by simp only [XZ, simprocAttr], g3, h6⟩⟩
  ·have hi' : ¬ (i : Int) < fs.length := by omega
   simp only [XZ, simprocAttr, f28, f29, hi']
   rw [List.take_of_length_le (by omega)] at hv
   exact (hJ2 _ _).2 ⟨v, by simp only [XZ, simprocAttr, f3], hg, hv⟩
 intro fr S hJf
 obtain ⟨v, f3, hg, hv⟩ := (hJ2 _ _).1 hJf
 simp only [XZ, simprocAttr, f3]
 exact fin _ _ (fun r e => (g0.trans hg).same r e) fun _ => hv.lst hg hQ hN
theorem endsS_mk (has : Str → Bool) (k : Int) (n : Str) (ns : List Str) (ks : List Ty) (deep : Nat) : endsS has (.mk k n ns ks) deep = if 12 < deep then false else if k = 9 then has n else if k = 8 then endsAny has ks (deep + 1) else if k = 7 then endsAll has ks (deep + 1) else true := by rw [endsS]
theorem endsAny_any (has : Str → Bool) (deep : Nat) : ∀ ks : List Ty, endsAny has ks deep = ks.any fun t => endsS has t deep
 | [] => by rw [endsAny]; rfl
 | t :: r => by rw [endsAny, endsAny_any has deep r]; rfl
theorem endsAll_any (has : Str → Bool) (deep : Nat) : ∀ ks : List Ty, endsAll has ks deep = !(ks.any fun t => !endsS has t deep)
 | [] => by rw [endsAll]; rfl
 | t :: r => by rw [endsAll, endsAll_any has deep r]; simp
def hasE (has : List (Str × Bool)) : List (Str × V) := has.map fun p => (p.1, V.bool p.2)
theorem at_has (n : Str) : ∀ has : List (Str × Bool), ansL (.bool false) false (at_ n (hasE has)) = .bool (gB n has)
 | [] => rfl
 | (a, b) :: r => by
   have ih := at_has n r
   unfold hasE at ih ⊢
   rw [List.map_cons, at_, gB]
   by_cases e : n = a
   ·rw [if_pos e, if_pos e]; rfl
   ·rw [if_neg e, if_neg e]; exact ih
set_option maxHeartbeats 4000000 in
theorem endsC : ∀ (m : Nat) (ty : Ty), tsz ty < m → ∀ (P : Pt → Prop) (st : St) (rh : Pt) (has : List (Str × Bool)) (e : List V) (deep : Nat), WF st → MobAt st rh ofL (hasE has) → TyC P st e ty → deep ≤ 13 → cntT ty < 1000000 →
  Does (tabT tabD) n_shape_ends [.agg e, .map rh, .int .i64 deep] st fun v st' => Gr st st' ∧ v = .bool (endsS (fun x => gB x has) ty deep)
 | 0, _, h => absurd h (by omega)
 | m + 1, .mk k nm ns ks, hm => by
   intro P st rh has e deep hw hmob hx hdeep hsz
   refine does_fnG tabM at_shape_ends rfl hw fun K fin => ?_
   obtain ⟨n, hn0⟩ : ∃ n, st.nx = up 0 n := ⟨_, up0 _⟩
   obtain ⟨nv, kv, es, rfl, x1, x2, x3, x4⟩ := hx.inv'
   have hS := endsS_mk (fun x => gB x has) k nm ns ks deep
   have hlen : ks.length < 1000000 := by have h1 := cnt_len ks; rw [cntT_mk] at hsz; omega
   have hx2 : LstAt (TyC P st) P st kv 4 ks := ⟨es, x2, x3, x4⟩
   have c1 := x1.cells
   have c2 := x1.sc
   have c3 := x2.cells
   have c4 := x2.sc
   obtain ⟨I, hI⟩ : ∃ I : Fr → St → Prop, ∀ fr S, I fr S ↔ (Gr st S ∧ fr 3 = .ptr (up 0 n) 0 ∧ fr 4 = .ptr (up 1 n) 0 ∧ fr 5 = .ptr (up 2 n) 0 ∧ (∃ t, S.row (up 0 n) = .cells t [.int .i64 k, ofL nm, nv, kv]) ∧ (∃ t, S.row (up 1 n) = .cells t [.map rh]) ∧ (∃ t, S.row (up 2 n) = .cells t [.int .i64 deep])) := ⟨_, fun _ _ => Iff.rfl⟩
   simp only [cf_shape_ends, XY, simprocAttr]
   refine wC_scut I ?_ ?_
   ·simp only [XZ, simprocAttr, hn0, c1, c2, c3, c4]
    exact (hI _ _).2 ⟨((Gr.new hw (good_cells _)).nn (good_cells _)).nn (good_cells _), by simp only [XZ, simprocAttr], by simp only [XZ, simprocAttr], by simp only [XZ, simprocAttr], ⟨_, by simp only [XZ, simprocAttr, hn0]; rfl⟩, ⟨_, by simp only [XZ, simprocAttr, hn0]; rfl⟩, ⟨_, by simp only [XZ, simprocAttr, hn0]; rfl⟩⟩
   intro fr S hIf
   obtain ⟨hg, f3, f4, f5, ⟨t0, r0⟩, ⟨t1, r1⟩, ⟨t2, r2⟩⟩ := (hI _ _).1 hIf
   by_cases hd : 12 < deep
   ·have hd' : (12 : Int) < (deep : Int) := by omega
    rw [wC_seqj, wC_seq]; simp only [XZ, simprocAttr, f5, r2, hd']
    refine fin _ _ (fun r e => hg.same r e) fun _ => ?_
    rw [hS, if_pos hd]
   have hd' : ¬ (12 : Int) < (deep : Int) := by omega
   rw [if_neg hd] at hS
   rw [wC_seqj, wC_seq]; simp only [XY, simprocAttr, f5, r2, hd']
   have wS := hg.wf
   obtain ⟨nS, hnS⟩ : ∃ n, S.nx = up 0 n := ⟨_, up0 _⟩
   rw [wC_seq]; simp only [XY, simprocAttr, f4, f5, hnS]
   obtain ⟨S1, hS1⟩ : ∃ S1, S1 = ((S.new fun t => .cells t [.fnil]).wr (up 0 nS) S.t fun u => .cells u [.fn n_shape_ends_1 [] [.ptr (up 1 n) 0, .ptr (up 2 n) 0]]) := ⟨_, rfl⟩
   have g1 : Gr S S1 := by rw [hS1]; exact (Gr.refl wS).nw hnS (good_cells _) (good_cells _)
   obtain ⟨t3, r3⟩ : ∃ t, S1.row (up 0 nS) = .cells t [.fn n_shape_ends_1 [] [.ptr (up 1 n) 0, .ptr (up 2 n) 0]] := ⟨_, by rw [hS1]; simp only [XZ, simprocAttr, hnS]; rfl⟩
   rw [← hS1]
   have G1 := hg.trans g1
   have r0 := g1.cells r0
   have r1 := g1.cells r1
   have r2 := g1.cells r2
   have hx3 : LstAt (TyC P S1) P S1 kv 4 ks := hx2.imp (fun e x h => h.gr G1) fun r p e => ⟨p, G1.same r e⟩
   have clo : ∀ (i : Nat) (hi : i < ks.length) (S' : St) (e : List V), Gr S1 S' → TyC P S' e ks[i] → Does (tabT tabD) n_shape_ends_1 ([] ++ [.agg e] ++ [.ptr (up 1 n) 0, .ptr (up 2 n) 0]) S' fun v S'' => Gr S' S'' ∧ v = .bool (endsS (fun x => gB x has) ks[i] (deep + 1)) := fun i hi S' e g' hx' => by
    have h1 := cnt_kid hi
    have h2 := cntT_mk k nm ns ks
    have w' := g'.wf
    obtain ⟨n', hn'⟩ : ∃ n, S'.nx = up 0 n := ⟨_, up0 _⟩
    have e4 := hx'.four
    have eok := hx'.ok
    have etk : e.take 4 = e := by rw [← e4, List.take_length]
    refine does_fnG tabM at_shape_ends_1 rfl w' fun K fin => ?_
    have hadd : IntKind.i64.wrap ((deep : Int) + 1) = ((deep + 1 : Nat) : Int) := by rw [i64_in (by omega) (by omega)]; rfl
    have b1 := g'.cells r1
    have b2 := g'.cells r2
    have gb : Gr S' (S'.new fun t => .cells t e) := Gr.new w' (good_cells _)
    have b1 := gb.cells b1
    have b2 := gb.cells b2
    simp only [cf_shape_ends_1, XZ, simprocAttr, hn', e4, eok, etk, b1, b2, hadd]
    refine wCall_plain (endsC m ks[i] (by have := tsz_kid (k := k) (n := nm) (ns := ns) hi; omega) P _ rh has e (deep + 1) gb.wf ?_ (hx'.gr gb) (by omega) (by omega)) ?_
    ·exact hmob.of (by rw [gb.same rh (by rw [g'.same rh (by rw [G1.same rh hmob.ne]; exact hmob.ne), G1.same rh hmob.ne]; exact hmob.ne), g'.same rh (by rw [G1.same rh hmob.ne]; exact hmob.ne), G1.same rh hmob.ne])
    rintro _ S2 ⟨g2, rfl⟩
    simp only [XZ, simprocAttr]
    exact fin _ _ (fun r e => (gb.trans g2).same r e) fun _ => rfl
   by_cases k9 : k = 9
   ·have hmS : MobAt S1 rh ofL (hasE has) := hmob.of (G1.same rh hmob.ne)
    have hlk := lookup_at (enc := ofL) (e := .one .s) hmS (.bool false) false nm (str_heq nm _) rfl
    rw [at_has] at hlk
    rw [if_pos k9] at hS
    simp only [XZ, simprocAttr, f3, f4, r0, r1, k9, hlk]
    refine fin _ _ (fun r e => G1.same r e) fun _ => ?_
    rw [hS]
   rw [if_neg k9] at hS
   by_cases k8 : k = 8
   ·rw [if_pos k8, endsAny_any] at hS
    simp only [XZ, simprocAttr, f3, r0, r3, k9, k8]
    refine wCall_plain (containsFuncC (fa := []) (fb := [.ptr (up 1 n) 0, .ptr (up 2 n) 0]) (fun t => endsS (fun x => gB x has) t (deep + 1)) G1.wf hx3 hlen clo) ?_
    rintro _ S2 ⟨g2, rfl⟩
    simp only [XZ, simprocAttr]
    refine fin _ _ (fun r e => (G1.trans g2).same r e) fun _ => ?_
    rw [hS]
   rw [if_neg k8] at hS
   by_cases k7 : k = 7
   ·rw [if_pos k7, endsAll_any] at hS
    simp only [XZ, simprocAttr, f3, r0, k9, k8, k7]
    refine wCall_plain (containsFuncC (fa := []) (fb := [.ptr (up 0 nS) 0]) (fun t => !endsS (fun x => gB x has) t (deep + 1)) G1.wf hx3 hlen fun i hi S' e g' hx' => ?_) ?_
    ·refine does_fnG tabM at_shape_ends_2 rfl g'.wf fun K fin => ?_
     obtain ⟨n', hn'⟩ : ∃ n, S'.nx = up 0 n := ⟨_, up0 _⟩
     have e4 := hx'.four
     have eok := hx'.ok
     have etk : e.take 4 = e := by rw [← e4, List.take_length]
     have gb : Gr S' (S'.new fun t => .cells t e) := Gr.new g'.wf (good_cells _)
     have b3 := gb.cells (g'.cells r3)
     simp only [cf_shape_ends_2, XZ, simprocAttr, hn', e4, eok, etk, b3]
     refine wCall_plain (by simpa using clo i hi _ e (g'.trans gb) (hx'.gr gb)) ?_
     rintro _ S2 ⟨g2, rfl⟩
     simp only [XZ, simprocAttr]
     exact fin _ _ (fun r e => (gb.trans g2).same r e) fun _ => rfl
    rintro _ S2 ⟨g2, rfl⟩
    simp only [XZ, simprocAttr]
    refine fin _ _ (fun r e => (G1.trans g2).same r e) fun _ => ?_
    rw [hS]
   rw [if_neg k7] at hS
   simp only [XZ, simprocAttr, f3, r0, k9, k8, k7]
   refine fin _ _ (fun r e => G1.same r e) fun _ => ?_
   rw [hS]
theorem set_has (n : Str) (b : Bool) : ∀ has : List (Str × Bool), set_ n (V.bool b) (hasE has) = hasE (sB n b has)
 | [] => rfl
 | (a, c) :: r => by
   have ih := set_has n b r
   unfold hasE at ih ⊢
   rw [List.map_cons, set_, sB]
   by_cases e : n = a
   ·rw [if_pos e, if_pos e]; rfl
   ·rw [if_neg e, if_neg e, ih]; rfl
theorem nm_elem {P : Pt → Prop} {st S : St} {v : V} {l : List (Str × Ty)} (h : LstAt (NmC P st) P st v 5 l) (hS : ∀ r, st.row r ≠ .none → S.row r = st.row r) {i : Nat} (hi : i < l.length) :
  ∃ r q nv kv, iaddrSV 5 v (.int .i64 i) = some (.ptr r q, .no) ∧ S.row r ≠ .none ∧ ldn (S.row r) q 5 = some (.agg [ofL l[i].1, .int .i64 l[i].2.kind, ofL l[i].2.name, nv, kv], .no) ∧ TyC P S [.int .i64 l[i].2.kind, ofL l[i].2.name, nv, kv] l[i].2 ∧ (nv.cells = some [nv] ∧ nv.sc = true ∧ kv.cells = some [kv] ∧ kv.sc = true) := by
 obtain ⟨r, q, e, a1, a2, a3, a4, ⟨c, he, hc⟩, a6, a7⟩ := h.elem hi
 have hc0 := hc
 obtain ⟨nv1, kv1, es1, rfl, y1, y2, y3, y4⟩ := hc.inv
 subst he
 rw [← hS r a3] at a4
 exact ⟨r, q, nv1, kv1, a1, by rw [hS r a3]; exact a3, a4, hc0.imp fun r p e => ⟨p, hS r e⟩, y1.cells, y1.sc, y2.cells, y2.sc⟩
theorem roundsS_succ (l : List (Str × Ty)) (k : Nat) (has : List (Str × Bool)) : roundsS l (k + 1) has = roundsS l k (roundS l has) := by rw [roundsS]
theorem roundS_cons (p : Str × Ty) (r : List (Str × Ty)) (has : List (Str × Bool)) : roundS (p :: r) has = roundS r (sB p.1 (gB p.1 has || endsS (fun x => gB x has) p.2 1) has) := by obtain ⟨a, b⟩ := p; rw [roundS]
set_option maxHeartbeats 8000000 in
theorem finiteP {P : Pt → Prop} {st : St} {e1 e2 : List V} {s : Sch} {t : Ty} (hw : WF st) (h : SchC P st e1 s) (ht : TyC P st e2 t) (hP : ∀ r, P r → st.row r ≠ .none) (hl : s.types.length ≤ 1000) (hd : (s.types.map Prod.fst).Nodup) :
  Does (tabT tabD) n_shape_Finite [.agg e1, .agg e2] st fun v' st' => Gr st st' ∧ v' = .bool (finS s.types t) := by
 refine does_fnG tabM at_shape_Finite rfl hw fun K fin => ?_
 obtain ⟨n, hn0⟩ : ∃ n, st.nx = up 0 n := ⟨_, up0 _⟩
 have hsch := h
 obtain ⟨c, tv, sv, rfl, h1, h2, h3⟩ := h
 obtain ⟨M, hM⟩ : ∃ M, M = s.main := ⟨_, rfl⟩
 obtain ⟨l, hll⟩ : ∃ l, l = s.types := ⟨_, rfl⟩
 rw [← hM] at h1
 rw [← hll] at h2 hl fin
 obtain ⟨nv, kv, es, rfl, x1, x2, x3, x4⟩ := h1.inv
 have ht0 := ht
 obtain ⟨nv', kv', es', rfl, y1, y2, y3, y4⟩ := ht.inv
 have l1 := h2.len
 have cs1 := x1.cells
 have cs2 := x1.sc
 have cs3 := x2.cells
 have cs4 := x2.sc
 have ct1 := y1.cells
 have ct2 := y1.sc
 have ct3 := y2.cells
 have ct4 := y2.sc
 have cv1 := h2.sc
 have cv2 := h3.sc
 simp only [cf_shape_Finite, XY, simprocAttr]
 obtain ⟨I, hI⟩ : ∃ I : Fr → St → Prop, ∀ fr S, I fr S ↔ (Gr st S ∧ fr 2 = .ptr (up 0 n) 0 ∧ fr 3 = .ptr (up 1 n) 0 ∧ (∃ u, S.row (up 0 n) = .cells u [.int .i64 M.kind, ofL M.name, nv, kv, tv, sv]) ∧ (∃ u, S.row (up 1 n) = .cells u [.int .i64 t.kind, ofL t.name, nv', kv'])) := ⟨_, fun _ _ => Iff.rfl⟩
 refine wC_scut I ?_ ?_
 ·simp only [XZ, simprocAttr, hn0, cs1, cs2, cs3, cs4, ct1, ct2, ct3, ct4, cv1.1, cv1.2, cv2.1, cv2.2]
  exact (hI _ _).2 ⟨(Gr.new hw (good_cells _)).nn (good_cells _), by simp only [XZ, simprocAttr], by simp only [XZ, simprocAttr], ⟨_, by simp only [XZ, simprocAttr, hn0]; rfl⟩, ⟨_, by simp only [XZ, simprocAttr, hn0]; rfl⟩⟩
 intro fr S hIf
 obtain ⟨g0, f2, f3, ⟨t0, r0⟩, ⟨t1, r1⟩⟩ := (hI _ _).1 hIf
 rw [wC_seq]; simp only [XY, simprocAttr, f2, r0]
 refine wCall_plain (namedC (P := P) g0.wf (hsch.imp fun r p e => ⟨p, g0.same r e⟩) (by rw [← hll]; exact hl) hd) ?_
 rintro _ S1 ⟨g1, rm, rfl, hrm, hnm⟩
 rw [← hll] at hnm
 have r0 := g1.cells r0
 have r1 := g1.cells r1
 have G1 := g0.trans g1
 have w1 := g1.wf
 obtain ⟨n1, hn1⟩ : ∃ n, S1.nx = up 0 n := ⟨_, up0 _⟩
 have spl : splice [.mnil, .int .i64 0] 0 [.map rm] = [.map rm, .int .i64 0] := rfl
 simp only [XY, simprocAttr, hn1, sc_mnil, cells_mnil]
 obtain ⟨S2, hS2⟩ : ∃ S2, S2 = (S1.new fun t => .cells t [.map rm, .int .i64 0]) := ⟨_, rfl⟩
 have g2 : Gr S1 S2 := by rw [hS2]; exact Gr.new w1 (good_cells _)
 obtain ⟨kr, hkr⟩ : ∃ p, p = up 0 n1 := ⟨_, rfl⟩
 obtain ⟨tk, rk⟩ : ∃ u, S2.row kr = .cells u [.map rm, .int .i64 0] := ⟨_, by rw [hS2, hkr]; simp only [XZ, simprocAttr, hn1]; rfl⟩
 have qk1 : S1.row kr = .none := by rw [hkr]; exact nx0 w1 hn1 0
 rw [← hS2, ← hkr]
 clear hS2
 have G2 := G1.trans g2
 have n0k : up 0 n ≠ kr := fun h => by rw [h, qk1] at r0; cases r0
 have n1k : up 1 n ≠ kr := fun h => by rw [h, qk1] at r1; cases r1
 have r0 := g2.cells r0
 have r1 := g2.cells r1
 have hmn : S1.row rm ≠ .none := by obtain ⟨_, h, _⟩ := hnm; exact h.ne
 have qk : st.row kr = .none := Ch.fresh (Ch.of (fun _ => False) G1) qk1
 have old_k : ∀ r, st.row r ≠ .none → r ≠ kr := fun r e h => e (by rw [h]; exact qk)
 have L2 : LookAt P S2 kr rm l 0 :=
  ⟨hnm.imp (g2.same rm hmn) fun r p e => ⟨p, g2.same r e⟩, ⟨tk, rk⟩, fun r p => old_k r (hP r p), fun e => hmn (by rw [e]; exact qk1)⟩
 have keep : ∀ {S' : St}, Ch (fun r => r = kr) S2 S' → ∀ r, st.row r ≠ .none → S'.row r = st.row r := fun c r e => by rw [c.same r (by rw [G2.same r e]; exact e) (old_k r e), G2.same r e]
 have kcell : ∀ {S' : St} {p : Pt} {u : Nat} {x : List V}, Ch (fun r => r = kr) S2 S' → S2.row p = .cells u x → p ≠ kr → S'.row p = .cells u x := fun c e n => by rw [c.same _ (ne_cells e) n, e]
 obtain ⟨J1, hJ1⟩ : ∃ J : Fr → St → Prop, ∀ fr S, J fr S ↔ (∃ met, fr 2 = .ptr (up 0 n) 0 ∧ fr 3 = .ptr (up 1 n) 0 ∧ fr 5 = .ptr kr 0 ∧ Ch (fun r => r = kr) S2 S ∧ LookAt P S kr rm l met ∧ (maysS (hasN l) (l.map Prod.snd) 1 0).1 = 0) := ⟨_, fun _ _ => Iff.rfl⟩
 refine wC_cut J1 ?_ ?_
 ·rw [wC_seq]; simp only [XY, simprocAttr, f2, r0, l1]
  obtain ⟨I, hI⟩ : ∃ I : Nat → Fr → St → Prop, ∀ j fr S, I j fr S ↔ ∃ (i met : Nat), j + i = l.length ∧ fr 2 = .ptr (up 0 n) 0 ∧ fr 3 = .ptr (up 1 n) 0 ∧ fr 5 = .ptr kr 0 ∧ fr 16 = tv ∧ fr 17 = .int .i64 l.length ∧ fr 18 = .int .i64 i ∧ Ch (fun r => r = kr) S2 S ∧ LookAt P S kr rm l met ∧ met ≤ 400 ∧ maysS (hasN l) (l.map Prod.snd) 1 0 = maysS (hasN l) ((l.map Prod.snd).drop i) 1 met := ⟨_, fun _ _ _ => Iff.rfl⟩
  refine wC_loop I l.length (by omega) ((hI _ _ _).2 ⟨0, 0, by omega, by simp only [XZ, simprocAttr, f2], by simp only [XZ, simprocAttr, f3], by simp only [XZ, simprocAttr], by simp only [XZ, simprocAttr], by simp only [XZ, simprocAttr], by simp only [XZ, simprocAttr] <;> rfl, Ch.refl _ g2.wf, L2, by omega, rfl⟩) ?_
  clear f2 f3
  intro j fr S hIj
  obtain ⟨i, met, hj, f2, f3, f5, f16, f17, f18, hC, hL, hmet, hrec⟩ := (hI _ _ _).1 hIj
  by_cases hi : i < l.length
  ·have hi' : (i : Int) < l.length := by omega
   obtain ⟨r, q, nv1, kv1, a1, a3, a4, hty, d1, d2, d3, d4⟩ := nm_elem h2 (keep hC) hi
   obtain ⟨N, hN'⟩ : ∃ N, N = l[i].1 := ⟨_, rfl⟩
   obtain ⟨T, hT⟩ : ∃ T, T = l[i].2 := ⟨_, rfl⟩
   rw [← hT] at hty
   rw [← hN', ← hT] at a4
   have hd : (l.map Prod.snd).drop i = T :: (l.map Prod.snd).drop (i + 1) := by
    rw [List.drop_eq_getElem_cons (by simpa using hi), List.getElem_map, ← hT]
   rw [hd, maysS_cons] at hrec
   have wS := hC.wf
   obtain ⟨nS, hnS⟩ : ∃ n, S.nx = up 0 n := ⟨_, up0 _⟩
   have oq := fun k => nes (ne_up wS hnS a3 k)
   have hadd1 : IntKind.i64.wrap ((i : Int) + 1) = ((i + 1 : Nat) : Int) := by rw [i64_in (by omega) (by omega)]; rfl
   rw [wC_seq]; simp only [XY, simprocAttr, f17, f18, hi']
   rw [wC_seqj]; simp only [XY, simprocAttr]
   rw [wC_seqj]; simp only [XY, simprocAttr]
   rw [wC_seq]; simp only [XY, simprocAttr, f16, f18, a1, a4, hnS, oq, d1, d2, d3, d4]
   obtain ⟨S3, hS3⟩ : ∃ S1, S1 = ((S.new fun t => .cells t [ofL [], .int .i64 0, ofL [], .snil, .snil]).wr (up 0 nS) S.t fun u => .cells u [ofL N, .int .i64 T.kind, ofL T.name, nv1, kv1]) := ⟨_, rfl⟩
   have g3 : Gr S S3 := by rw [hS3]; exact (Gr.refl wS).nw hnS (good_cells _) (good_cells _)
   obtain ⟨t3, r3⟩ : ∃ t, S3.row (up 0 nS) = .cells t [ofL N, .int .i64 T.kind, ofL T.name, nv1, kv1] := ⟨_, by rw [hS3]; simp only [XZ, simprocAttr, hnS]; rfl⟩
   rw [← hS3]
   rw [wC_seq]; simp only [XY, simprocAttr, f5, r3]
   refine wCall_plain (mayD (deep := 1) g3.wf (hL.gr g3) (hty.gr g3) (by decide) hmet) ?_
   rintro _ S4 ⟨c4, L4, rfl⟩
   have C4 : Ch (fun r => r = kr) S2 S4 := (hC.trans (Ch.of _ g3) fun r w => .inl w).trans c4 fun r w => .inl w
   have hm4 := mayS_met (hasN l) T 1 met hmet
   by_cases he : (mayS (hasN l) T 1 met).1 = 0
   ·rw [if_neg (by simpa using he)] at hrec
    simp only [XZ, simprocAttr, he, f18, hadd1]
    exact ⟨l.length - (i + 1), by omega, (hI _ _ _).2 ⟨i + 1, _, by omega, by simp only [XZ, simprocAttr, f2], by simp only [XZ, simprocAttr, f3], by simp only [XZ, simprocAttr, f5], by simp only [XZ, simprocAttr, f16], by simp only [XZ, simprocAttr, f17], by simp only [XZ, simprocAttr], C4, L4, hm4.2 he, hrec⟩⟩
   ·rw [if_pos (by simpa using he)] at hrec
    simp only [XZ, simprocAttr, he]
    refine fin _ _ (keep C4) fun _ => ?_
    unfold finS
    rw [if_pos (by rw [hrec]; exact he)]
  ·have hi' : ¬ (i : Int) < l.length := by omega
   rw [List.drop_eq_nil_of_le (by simp; omega), maysS_nil] at hrec
   simp only [XZ, simprocAttr, f17, f18, hi']
   exact (hJ1 _ _).2 ⟨met, by simp only [XZ, simprocAttr, f2], by simp only [XZ, simprocAttr, f3], by simp only [XZ, simprocAttr, f5], hC, hL, by rw [hrec]⟩
 clear f2 f3 hIf hI
 intro fr S hJf
 obtain ⟨met, f2, f3, f5, hC, hL, hm0⟩ := (hJ1 _ _).1 hJf
 have hcn := maysS_cnt (hasN l) (l.map Prod.snd) 1 0 hm0
 have hmt := (maysS_met (hasN l) (l.map Prod.snd) 1 0 (by decide)).2 hm0
 obtain ⟨tk', rk'⟩ := hL.cell
 rw [wC_seq]; simp only [XY, simprocAttr, f5, rk']
 obtain ⟨S3, hS3⟩ : ∃ S3, S3 = (S.wr kr tk' fun u => .cells u [.map rm, .int .i64 0]) := ⟨_, rfl⟩
 have c3 : Ch (fun r => r = kr) S S3 := by rw [hS3]; exact (Ch.refl _ hC.wf).wr (ne_cells rk') (by rw [rk']; rfl) (.inl rfl) (good_cells _)
 have L3 : LookAt P S3 kr rm l 0 := hL.ch c3 ⟨_, by rw [hS3]; exact row_wr_same _ _ _ _⟩
 have C3 : Ch (fun r => r = kr) S2 S3 := hC.trans c3 fun r w => .inl w
 rw [← hS3]
 have r1' := kcell C3 r1 n1k
 rw [wC_seqj, wC_seq]; simp only [XY, simprocAttr, f3, f5, r1', ct1, ct2, ct3, ct4]
 refine wCall_plain (mayD (deep := 1) C3.wf L3 (ht0.imp fun r p e => ⟨p, keep C3 r e⟩) (by decide) (by decide)) ?_
 rintro _ S4 ⟨c4, L4, rfl⟩
 have C4 : Ch (fun r => r = kr) S2 S4 := C3.trans c4 fun r w => .inl w
 by_cases he : (mayS (hasN l) t 1 0).1 = 0
 rotate_left
 ·simp only [XZ, simprocAttr, he]
  refine fin _ _ (keep C4) fun _ => ?_
  unfold finS
  rw [if_neg (by simpa using hm0), if_pos he]
 have hct := mayS_cnt (hasN l) t 1 0 he
 have hmt2 := (mayS_met (hasN l) t 1 0 (by decide)).2 he
 have hfin : finS l t = endsS (fun x => gB x (roundsS l l.length [])) t 1 := by
  unfold finS
  rw [if_neg (by simpa using hm0), if_neg (by simpa using he)]
 rw [hfin] at fin
 have r0' := kcell C4 r0 n0k
 have r1' := kcell C4 r1 n1k
 have w4 := C4.wf
 obtain ⟨n4, hn4⟩ : ∃ n, S4.nx = up 0 n := ⟨_, up0 _⟩
 simp only [XY, simprocAttr, he]
 rw [wC_seq]; simp only [XY, simprocAttr, hn4]
 obtain ⟨S5, hS5⟩ : ∃ S5, S5 = (S4.new fun t => .mob t []) := ⟨_, rfl⟩
 have g5 : Gr S4 S5 := by rw [hS5]; exact Gr.new w4 (good_mob _)
 obtain ⟨rh, hrh⟩ : ∃ p, p = up 0 n4 := ⟨_, rfl⟩
 have qh : S4.row rh = .none := by rw [hrh]; exact nx0 w4 hn4 0
 obtain ⟨th, mh⟩ : ∃ u, S5.row rh = .mob u ((hasE []).map fun p => (ofL p.1, p.2)) := ⟨_, by rw [hS5, hrh]; simp only [XZ, simprocAttr, hn4]; rfl⟩
 rw [← hS5, ← hrh]
 clear hS5
 have keep4 : ∀ {S' : St}, Gr S4 S' → ∀ r, st.row r ≠ .none → S'.row r = st.row r := fun g r e => by rw [g.same r (by rw [keep C4 r e]; exact e), keep C4 r e]
 obtain ⟨J2, hJ2⟩ : ∃ J : Fr → St → Prop, ∀ fr S, J fr S ↔ (fr 3 = .ptr (up 1 n) 0 ∧ fr 8 = .map rh ∧ Gr S4 S ∧ ∃ u, S.row rh = .mob u ((hasE (roundsS l l.length [])).map fun p => (ofL p.1, p.2))) := ⟨_, fun _ _ => Iff.rfl⟩
 refine wC_cut J2 ?_ ?_
 ·have r0'' := g5.cells r0'
  rw [wC_seq]; simp only [XY, simprocAttr, f2, r0'', l1]
  obtain ⟨I, hI⟩ : ∃ I : Nat → Fr → St → Prop, ∀ j fr S, I j fr S ↔ ∃ (i : Nat) (has : List (Str × Bool)), j + i = l.length ∧ fr 2 = .ptr (up 0 n) 0 ∧ fr 3 = .ptr (up 1 n) 0 ∧ fr 8 = .map rh ∧ fr 38 = .int .i64 l.length ∧ fr 39 = .int .i64 i ∧ Gr S4 S ∧ (∃ u, S.row rh = .mob u ((hasE has).map fun p => (ofL p.1, p.2))) ∧ roundsS l l.length [] = roundsS l (l.length - i) has := ⟨_, fun _ _ _ => Iff.rfl⟩
  refine wC_loop I l.length (by omega) ((hI _ _ _).2 ⟨0, [], by omega, by simp only [XZ, simprocAttr, f2], by simp only [XZ, simprocAttr, f3], by simp only [XZ, simprocAttr], by simp only [XZ, simprocAttr], by simp only [XZ, simprocAttr] <;> rfl, g5, ⟨th, mh⟩, rfl⟩) ?_
  clear f2 f3 f5
  intro j fr S hIj
  obtain ⟨i, has, hj, f2, f3, f8, f38, f39, hg, hmob, hrec⟩ := (hI _ _ _).1 hIj
  by_cases hi : i < l.length
  ·have hi' : (i : Int) < l.length := by omega
   have hadd1 : IntKind.i64.wrap ((i : Int) + 1) = ((i + 1 : Nat) : Int) := by rw [i64_in (by omega) (by omega)]; rfl
   have rS := hg.cells r0'
   have hst : l.length - i = (l.length - (i + 1)) + 1 := by omega
   rw [hst, roundsS_succ] at hrec
   rw [wC_seq]; simp only [XY, simprocAttr, f38, f39, hi']
   rw [wC_seqj]; simp only [XY, simprocAttr]
   obtain ⟨J3, hJ3⟩ : ∃ J : Fr → St → Prop, ∀ fr S, J fr S ↔ (fr 2 = .ptr (up 0 n) 0 ∧ fr 3 = .ptr (up 1 n) 0 ∧ fr 8 = .map rh ∧ fr 38 = .int .i64 l.length ∧ fr 39 = .int .i64 i ∧ Gr S4 S ∧ ∃ u, S.row rh = .mob u ((hasE (roundS l has)).map fun p => (ofL p.1, p.2))) := ⟨_, fun _ _ => Iff.rfl⟩
   refine wC_cut J3 ?_ ?_
   ·simp only [XY, simprocAttr]
    rw [wC_seq]; simp only [XY, simprocAttr, f2, rS, l1]
    obtain ⟨I2, hI2⟩ : ∃ I : Nat → Fr → St → Prop, ∀ j fr S, I j fr S ↔ ∃ (k : Nat) (hk : List (Str × Bool)), j + k = l.length ∧ fr 2 = .ptr (up 0 n) 0 ∧ fr 3 = .ptr (up 1 n) 0 ∧ fr 8 = .map rh ∧ fr 38 = .int .i64 l.length ∧ fr 39 = .int .i64 i ∧ fr 42 = tv ∧ fr 43 = .int .i64 l.length ∧ fr 44 = .int .i64 k ∧ Gr S4 S ∧ (∃ u, S.row rh = .mob u ((hasE hk).map fun p => (ofL p.1, p.2))) ∧ roundS l has = roundS (l.drop k) hk := ⟨_, fun _ _ _ => Iff.rfl⟩
    refine wC_loop I2 l.length (by omega) ((hI2 _ _ _).2 ⟨0, has, by omega, by simp only [XZ, simprocAttr, f2], by simp only [XZ, simprocAttr, f3], by simp only [XZ, simprocAttr, f8], by simp only [XZ, simprocAttr, f38], by simp only [XZ, simprocAttr, f39], by simp only [XZ, simprocAttr], by simp only [XZ, simprocAttr], by simp only [XZ, simprocAttr] <;> rfl, hg, hmob, rfl⟩) ?_
    clear f2 f3 f8 f38 f39
    intro j2 fr S hIj
    obtain ⟨k, hk, hj2, f2, f3, f8, f38, f39, f42, f43, f44, hg, ⟨th, hmob⟩, hrec2⟩ := (hI2 _ _ _).1 hIj
    by_cases hkl : k < l.length
    ·have hkl' : (k : Int) < l.length := by omega
     have hadd2 : IntKind.i64.wrap ((k : Int) + 1) = ((k + 1 : Nat) : Int) := by rw [i64_in (by omega) (by omega)]; rfl
     obtain ⟨r, q, nv1, kv1, a1, a3, a4, hty, d1, d2, d3, d4⟩ := nm_elem h2 (keep4 hg) hkl
     have hcnt : cntT l[k].2 < 1000000 := by
      have := cnt_kid (ks := l.map Prod.snd) (i := k) (by simpa using hkl)
      rw [List.getElem_map] at this
      omega
     rw [List.drop_eq_getElem_cons hkl, roundS_cons] at hrec2
     obtain ⟨N, hN'⟩ : ∃ N, N = l[k].1 := ⟨_, rfl⟩
     obtain ⟨T, hT⟩ : ∃ T, T = l[k].2 := ⟨_, rfl⟩
     rw [← hT] at hty hcnt
     rw [← hN', ← hT] at a4 hrec2
     have wS := hg.wf
     obtain ⟨nS, hnS⟩ : ∃ n, S.nx = up 0 n := ⟨_, up0 _⟩
     have oq := fun k => nes (ne_up wS hnS a3 k)
     rw [wC_seq]; simp only [XY, simprocAttr, f43, f44, hkl']
     rw [wC_seqj]; simp only [XY, simprocAttr]
     rw [wC_seqj]; simp only [XY, simprocAttr]
     rw [wC_seq]; simp only [XY, simprocAttr, f42, f44, a1, a4, hnS, oq, d1, d2, d3, d4]
     obtain ⟨S1, hS1⟩ : ∃ S1, S1 = ((S.new fun t => .cells t [ofL [], .int .i64 0, ofL [], .snil, .snil]).wr (up 0 nS) S.t fun u => .cells u [ofL N, .int .i64 T.kind, ofL T.name, nv1, kv1]) := ⟨_, rfl⟩
     have g1 : Gr S S1 := by rw [hS1]; exact (Gr.refl wS).nw hnS (good_cells _) (good_cells _)
     obtain ⟨t1, rb⟩ : ∃ t, S1.row (up 0 nS) = .cells t [ofL N, .int .i64 T.kind, ofL T.name, nv1, kv1] := ⟨_, by rw [hS1]; simp only [XZ, simprocAttr, hnS]; rfl⟩
     rw [← hS1]
     have hmne : S.row rh ≠ .none := by rw [hmob]; exact fun e => by cases e
     have m1 : S1.row rh = .mob th ((hasE hk).map fun p => (ofL p.1, p.2)) := by rw [g1.same rh hmne, hmob]
     have hlk := lookup_at (enc := ofL) (e := .one .s) ⟨th, m1⟩ (.bool false) false N (str_heq N _) rfl
     rw [at_has] at hlk
     have G1 := hg.trans g1
     have stp : ∀ (S6 : St) (b : Bool), Gr S1 S6 → b = (gB N hk || endsS (fun x => gB x hk) T 1) → Gr S4 (S6.wr rh th fun u => .mob u ((hasE (sB N b hk)).map fun p => (ofL p.1, p.2))) ∧ (∃ u, (S6.wr rh th fun u => .mob u ((hasE (sB N b hk)).map fun p => (ofL p.1, p.2))).row rh = .mob u ((hasE (sB N b hk)).map fun p => (ofL p.1, p.2))) ∧ roundS l has = roundS (l.drop (k + 1)) (sB N b hk) := fun S6 b g hb => by
      have m6 : S6.row rh = .mob th ((hasE hk).map fun p => (ofL p.1, p.2)) := by rw [g.same rh (by rw [m1]; exact fun e => by cases e), m1]
      exact ⟨(G1.trans g).wr qh (by rw [m6]; exact fun e => by cases e) (by rw [m6]; rfl) (good_mob _), ⟨_, row_wr_same _ _ _ _⟩, by rw [hrec2, hb]⟩
     cases hb : gB N hk with
     | true =>
       have hup := mupd_at (enc := ofL) (e := .one .s) m1 N (.bool true) (str_heq N _) rfl
       rw [set_has] at hup
       obtain ⟨s1, s2, s3⟩ := stp S1 true (Gr.refl g1.wf) (by rw [hb]; rfl)
       rw [hb] at hlk
       simp only [XZ, simprocAttr, f8, hlk, hup, apartAll_nil, f44, hadd2]
       exact ⟨l.length - (k + 1), by omega, (hI2 _ _ _).2 ⟨k + 1, _, by omega, by simp only [XZ, simprocAttr, f2], by simp only [XZ, simprocAttr, f3], by simp only [XZ, simprocAttr, f8], by simp only [XZ, simprocAttr, f38], by simp only [XZ, simprocAttr, f39], by simp only [XZ, simprocAttr, f42], by simp only [XZ, simprocAttr, f43], by simp only [XZ, simprocAttr], s1, s2, s3⟩⟩
     | false =>
       rw [hb] at hlk
       simp only [XY, simprocAttr, f8, hlk, rb]
       refine wCall_marked (endsC _ T (Nat.lt_succ_self _) P _ rh hk _ 1 (wf_low g1.wf S1.t) ⟨th, m1⟩ ((hty.gr g1).imp fun r p _ => ⟨p, rfl⟩) (by decide) (by omega)) ?_
       rintro _ S6 g6 rfl
       have m6 : S6.row rh = .mob th ((hasE hk).map fun p => (ofL p.1, p.2)) := by rw [g6.same rh (by rw [m1]; exact fun e => by cases e), m1]
       obtain ⟨b, hbb⟩ : ∃ b, b = endsS (fun x => gB x hk) T 1 := ⟨_, rfl⟩
       rw [← hbb]
       have hup := mupd_at (enc := ofL) (e := .one .s) m6 N (.bool b) (str_heq N _) rfl
       rw [set_has] at hup
       obtain ⟨s1, s2, s3⟩ := stp S6 b g6 (by rw [hb, hbb]; rfl)
       simp only [XZ, simprocAttr, hup, apartAll_nil, f44, hadd2]
       exact ⟨l.length - (k + 1), by omega, (hI2 _ _ _).2 ⟨k + 1, _, by omega, by simp only [XZ, simprocAttr, f2], by simp only [XZ, simprocAttr, f3], by simp only [XZ, simprocAttr, f8], by simp only [XZ, simprocAttr, f38], by simp only [XZ, simprocAttr, f39], by simp only [XZ, simprocAttr, f42], by simp only [XZ, simprocAttr, f43], by simp only [XZ, simprocAttr], s1, s2, s3⟩⟩
    ·have hkl' : ¬ (k : Int) < l.length := by omega
     rw [List.drop_eq_nil_of_le (by omega)] at hrec2
     have hrec2 : roundS l has = hk := hrec2
     simp only [XZ, simprocAttr, f43, f44, hkl']
     exact (hJ3 _ _).2 ⟨by simp only [XZ, simprocAttr, f2], by simp only [XZ, simprocAttr, f3], by simp only [XZ, simprocAttr, f8], by simp only [XZ, simprocAttr, f38], by simp only [XZ, simprocAttr, f39], hg, th, by rw [hrec2]; exact hmob⟩
   clear f2 f3 f8 f38 f39
   intro fr S hJf
   obtain ⟨f2, f3, f8, f38, f39, hg, hmob⟩ := (hJ3 _ _).1 hJf
   simp only [XZ, simprocAttr, f39, hadd1]
   exact ⟨l.length - (i + 1), by omega, (hI _ _ _).2 ⟨i + 1, _, by omega, by simp only [XZ, simprocAttr, f2], by simp only [XZ, simprocAttr, f3], by simp only [XZ, simprocAttr, f8], by simp only [XZ, simprocAttr, f38], by simp only [XZ, simprocAttr], hg, hmob, hrec⟩⟩
  ·have hi' : ¬ (i : Int) < l.length := by omega
   have h0 : l.length - i = 0 := by omega
   rw [h0] at hrec
   have hrec : roundsS l l.length [] = has := hrec
   simp only [XZ, simprocAttr, f38, f39, hi']
   exact (hJ2 _ _).2 ⟨by simp only [XZ, simprocAttr, f3], by simp only [XZ, simprocAttr, f8], hg, by rw [hrec]; exact hmob⟩
 clear f2 f3 f5
 intro fr S hJf
 obtain ⟨f3, f8, hg, ⟨u, hmob⟩⟩ := (hJ2 _ _).1 hJf
 have rS := hg.cells r1'
 simp only [XZ, simprocAttr, f3, f8, rS, ct1, ct2, ct3, ct4]
 refine wCall_plain (endsC _ t (Nat.lt_succ_self _) P S rh (roundsS l l.length []) _ 1 hg.wf ⟨u, hmob⟩ (ht0.imp fun r p e => ⟨p, keep4 hg r e⟩) (by decide) (by omega)) ?_
 rintro _ S6 ⟨g6, rfl⟩
 simp only [XZ, simprocAttr]
 exact fin _ _ (keep4 (hg.trans g6)) fun _ => rfl
theorem finiteC {P : Pt → Prop} {st : St} {e1 e2 : List V} {s : Sch} {t : Ty} (hw : WF st) (h : SchC P st e1 s) (ht : TyC P st e2 t) (hl : s.types.length ≤ 1000) (hd : (s.types.map Prod.fst).Nodup) :
  Does (tabT tabD) n_shape_Finite [.agg e1, .agg e2] st fun v' st' => Gr st st' ∧ v' = .bool (finS s.types t) :=
 finiteP (P := fun r => P r ∧ st.row r ≠ .none) hw (h.imp fun r p e => ⟨⟨p, e⟩, rfl⟩) (ht.imp fun r p e => ⟨⟨p, e⟩, rfl⟩) (fun r p => p.2) hl hd
set_option maxHeartbeats 8000000 in
theorem checkP {P : Pt → Prop} {st : St} {e1 : List V} {s : Sch} (hw : WF st) (h : SchC P st e1 s) (hP : ∀ r, P r → st.row r ≠ .none) :
  Does (tabT tabD) n_shape_Check [.agg e1] st fun v' st' => Gr st st' ∧ v' = .int .i64 (checkS s) := by
 refine does_fnG tabM at_shape_Check rfl hw fun K fin => ?_
 obtain ⟨n, hn0⟩ : ∃ n, st.nx = up 0 n := ⟨_, up0 _⟩
 have hchk := checkS_eq s
 have hev := everyS_eq s
 have hsch := h
 obtain ⟨c, tv, sv, rfl, h1, h2, h3⟩ := h
 obtain ⟨M, hM⟩ : ∃ M, M = s.main := ⟨_, rfl⟩
 obtain ⟨l, hll⟩ : ∃ l, l = s.types := ⟨_, rfl⟩
 obtain ⟨fs, hfs⟩ : ∃ l, l = s.sigs := ⟨_, rfl⟩
 rw [← hM] at h1
 rw [← hll] at h2
 rw [← hfs] at h3
 rw [← hll, ← hM, ← hfs] at hchk hev
 have hM0 := h1
 obtain ⟨nv, kv, es, rfl, x1, x2, x3, x4⟩ := h1.inv
 have l1 := h2.len
 have l2 := h3.len
 have cs1 := x1.cells
 have cs2 := x1.sc
 have cs3 := x2.cells
 have cs4 := x2.sc
 have cv1 := h2.sc
 have cv2 := h3.sc
 simp only [cf_shape_Check, XY, simprocAttr]
 rw [wC_seq]; simp only [XY, simprocAttr, hn0, cs1, cs2, cs3, cs4, cv1.1, cv1.2, cv2.1, cv2.2]
 obtain ⟨S, hS⟩ : ∃ S0, S0 = (st.new fun t => .cells t [.int .i64 M.kind, ofL M.name, nv, kv, tv, sv]) := ⟨_, rfl⟩
 have g0 : Gr st S := by rw [hS]; exact Gr.new hw (good_cells _)
 obtain ⟨t0, r0⟩ : ∃ t, S.row (up 0 n) = .cells t [.int .i64 M.kind, ofL M.name, nv, kv, tv, sv] := ⟨_, by rw [hS]; simp only [XZ, simprocAttr, hn0]; rfl⟩
 rw [← hS]
 clear hS
 by_cases b1 : 12 < l.length
 ·have b1' : (12 : Int) < l.length := by omega
  rw [wC_seqj, wC_seq]; simp only [XZ, simprocAttr, r0, l1, b1']
  refine fin _ _ (fun r e => g0.same r e) fun _ => ?_
  rw [hchk, if_pos (.inl b1)]
 have b1' : ¬ (12 : Int) < l.length := by omega
 by_cases b2 : 12 < fs.length
 ·have b2' : (12 : Int) < fs.length := by omega
  rw [wC_seqj, wC_seq]; simp only [XZ, simprocAttr, r0, l1, l2, b1', b2']
  refine fin _ _ (fun r e => g0.same r e) fun _ => ?_
  rw [hchk, if_pos (.inr b2)]
 have b2' : ¬ (12 : Int) < fs.length := by omega
 rw [if_neg (fun h => by rcases h with h | h; exact b1 h; exact b2 h)] at hchk
 rw [wC_seqj, wC_seq]; simp only [XY, simprocAttr, r0, l1, l2, b1', b2']
 rw [wC_seqj, wC_seq]; simp only [XY, simprocAttr, r0]
 refine wCall_plain (typesC (P := P) g0.wf (h2.imp (fun e x h => h.imp fun r p e => ⟨p, g0.same r e⟩) fun r p e => ⟨p, g0.same r e⟩) (by omega)) ?_
 rintro _ S1 ⟨g1, rfl⟩
 have G1 := g0.trans g1
 have r0 := g1.cells r0
 by_cases ht0 : typesS none (l.map Prod.fst) = 0
 rotate_left
 ·simp only [XZ, simprocAttr, ht0]
  refine fin _ _ (fun r e => G1.same r e) fun _ => ?_
  rw [hchk, if_pos ht0]
 rw [if_neg (fun h => h ht0)] at hchk
 have hnd := typesS_nodup ht0
 simp only [XY, simprocAttr]
 rw [wC_seq]; simp only [XY, simprocAttr, ht0]
 rw [wC_seq]; simp only [XY, simprocAttr, r0]
 refine wCall_plain (namedC (P := P) g1.wf (hsch.imp fun r p e => ⟨p, G1.same r e⟩) (by rw [← hll]; omega) (by rw [← hll]; exact hnd)) ?_
 rintro _ S2 ⟨g2, rm, rfl, hrm, hnm⟩
 rw [← hll] at hnm
 have r0 := g2.cells r0
 have G2 := G1.trans g2
 have w2 := g2.wf
 obtain ⟨n2, hn2⟩ : ∃ n, S2.nx = up 0 n := ⟨_, up0 _⟩
 simp only [XY, simprocAttr, hn2, sc_mnil, cells_mnil]
 obtain ⟨S3, hS3⟩ : ∃ S3, S3 = (S2.new fun t => .cells t [.map rm, .int .i64 0]) := ⟨_, rfl⟩
 have g3 : Gr S2 S3 := by rw [hS3]; exact Gr.new w2 (good_cells _)
 obtain ⟨kr, hkr⟩ : ∃ p, p = up 0 n2 := ⟨_, rfl⟩
 obtain ⟨tk, rk⟩ : ∃ u, S3.row kr = .cells u [.map rm, .int .i64 0] := ⟨_, by rw [hS3, hkr]; simp only [XZ, simprocAttr, hn2]; rfl⟩
 have qk2 : S2.row kr = .none := by rw [hkr]; exact nx0 w2 hn2 0
 rw [← hS3, ← hkr]
 clear hS3
 have G3 := G2.trans g3
 have n0k : up 0 n ≠ kr := fun h => by rw [h, qk2] at r0; cases r0
 have r0 := g3.cells r0
 have hmn : S2.row rm ≠ .none := by obtain ⟨_, h, _⟩ := hnm; exact h.ne
 have qk : st.row kr = .none := Ch.fresh (Ch.of (fun _ => False) G2) qk2
 have old_k : ∀ r, st.row r ≠ .none → r ≠ kr := fun r e h => e (by rw [h]; exact qk)
 have L3 : LookAt P S3 kr rm l 0 :=
  ⟨hnm.imp (g3.same rm hmn) fun r p e => ⟨p, g3.same r e⟩, ⟨tk, rk⟩, fun r p => old_k r (hP r p), fun e => hmn (by rw [e]; exact qk2)⟩
 have keep : ∀ {S' : St}, Ch (fun r => r = kr) S3 S' → ∀ r, st.row r ≠ .none → S'.row r = st.row r := fun c r e => by rw [c.same r (by rw [G3.same r e]; exact e) (old_k r e), G3.same r e]
 have kcell : ∀ {S' : St} {p : Pt} {u : Nat} {x : List V}, Ch (fun r => r = kr) S3 S' → S3.row p = .cells u x → p ≠ kr → S'.row p = .cells u x := fun c e n => by rw [c.same _ (ne_cells e) n, e]
 obtain ⟨J1, hJ1⟩ : ∃ J : Fr → St → Prop, ∀ fr S, J fr S ↔ (fr 1 = .ptr (up 0 n) 0 ∧ fr 4 = .ptr kr 0 ∧ Ch (fun r => r = kr) S3 S ∧ LookAt P S kr rm l (maysS (hasN l) (l.map Prod.snd) 1 0).2 ∧ (maysS (hasN l) (l.map Prod.snd) 1 0).1 = 0) := ⟨_, fun _ _ => Iff.rfl⟩
 refine wC_cut J1 ?_ ?_
 ·rw [wC_seq]; simp only [XY, simprocAttr, r0, l1]
  obtain ⟨I, hI⟩ : ∃ I : Nat → Fr → St → Prop, ∀ j fr S, I j fr S ↔ ∃ (i met : Nat), j + i = l.length ∧ fr 1 = .ptr (up 0 n) 0 ∧ fr 4 = .ptr kr 0 ∧ fr 33 = tv ∧ fr 34 = .int .i64 l.length ∧ fr 35 = .int .i64 i ∧ Ch (fun r => r = kr) S3 S ∧ LookAt P S kr rm l met ∧ met ≤ 400 ∧ maysS (hasN l) (l.map Prod.snd) 1 0 = maysS (hasN l) ((l.map Prod.snd).drop i) 1 met := ⟨_, fun _ _ _ => Iff.rfl⟩
  refine wC_loop I l.length (by omega) ((hI _ _ _).2 ⟨0, 0, by omega, by simp only [XZ, simprocAttr], by simp only [XZ, simprocAttr], by simp only [XZ, simprocAttr], by simp only [XZ, simprocAttr], by simp only [XZ, simprocAttr] <;> rfl, Ch.refl _ g3.wf, L3, by omega, rfl⟩) ?_
  intro j fr S hIj
  obtain ⟨i, met, hj, f1, f4, f33, f34, f35, hC, hL, hmet, hrec⟩ := (hI _ _ _).1 hIj
  by_cases hi : i < l.length
  ·have hi' : (i : Int) < l.length := by omega
   obtain ⟨r, q, nv1, kv1, a1, a3, a4, hty, d1, d2, d3, d4⟩ := nm_elem h2 (keep hC) hi
   obtain ⟨N, hN'⟩ : ∃ N, N = l[i].1 := ⟨_, rfl⟩
   obtain ⟨T, hT⟩ : ∃ T, T = l[i].2 := ⟨_, rfl⟩
   rw [← hT] at hty
   rw [← hN', ← hT] at a4
   have hd : (l.map Prod.snd).drop i = T :: (l.map Prod.snd).drop (i + 1) := by
    rw [List.drop_eq_getElem_cons (by simpa using hi), List.getElem_map, ← hT]
   rw [hd, maysS_cons] at hrec
   have wS := hC.wf
   obtain ⟨nS, hnS⟩ : ∃ n, S.nx = up 0 n := ⟨_, up0 _⟩
   have oq := fun k => nes (ne_up wS hnS a3 k)
   have hadd1 : IntKind.i64.wrap ((i : Int) + 1) = ((i + 1 : Nat) : Int) := by rw [i64_in (by omega) (by omega)]; rfl
   rw [wC_seq]; simp only [XY, simprocAttr, f34, f35, hi']
   rw [wC_seqj]; simp only [XY, simprocAttr]
   rw [wC_seqj]; simp only [XY, simprocAttr]
   rw [wC_seq]; simp only [XY, simprocAttr, f33, f35, a1, a4, hnS, oq, d1, d2, d3, d4]
   obtain ⟨S4, hS4⟩ : ∃ S1, S1 = ((S.new fun t => .cells t [ofL [], .int .i64 0, ofL [], .snil, .snil]).wr (up 0 nS) S.t fun u => .cells u [ofL N, .int .i64 T.kind, ofL T.name, nv1, kv1]) := ⟨_, rfl⟩
   have g4 : Gr S S4 := by rw [hS4]; exact (Gr.refl wS).nw hnS (good_cells _) (good_cells _)
   obtain ⟨t4, r4⟩ : ∃ t, S4.row (up 0 nS) = .cells t [ofL N, .int .i64 T.kind, ofL T.name, nv1, kv1] := ⟨_, by rw [hS4]; simp only [XZ, simprocAttr, hnS]; rfl⟩
   rw [← hS4]
   rw [wC_seq]; simp only [XY, simprocAttr, f4, r4]
   refine wCall_plain (mayD (deep := 1) g4.wf (hL.gr g4) (hty.gr g4) (by decide) hmet) ?_
   rintro _ S5 ⟨c5, L5, rfl⟩
   have C5 : Ch (fun r => r = kr) S3 S5 := (hC.trans (Ch.of _ g4) fun r w => .inl w).trans c5 fun r w => .inl w
   have hm4 := mayS_met (hasN l) T 1 met hmet
   by_cases he : (mayS (hasN l) T 1 met).1 = 0
   ·rw [if_neg (by simpa using he)] at hrec
    simp only [XZ, simprocAttr, he, f35, hadd1]
    exact ⟨l.length - (i + 1), by omega, (hI _ _ _).2 ⟨i + 1, _, by omega, by simp only [XZ, simprocAttr, f1], by simp only [XZ, simprocAttr, f4], by simp only [XZ, simprocAttr, f33], by simp only [XZ, simprocAttr, f34], by simp only [XZ, simprocAttr], C5, L5, hm4.2 he, hrec⟩⟩
   ·rw [if_pos (by simpa using he)] at hrec
    simp only [XZ, simprocAttr, he]
    refine fin _ _ (keep C5) fun _ => ?_
    rw [hchk, hrec, if_pos he]
  ·have hi' : ¬ (i : Int) < l.length := by omega
   rw [List.drop_eq_nil_of_le (by simp; omega), maysS_nil] at hrec
   simp only [XZ, simprocAttr, f34, f35, hi']
   exact (hJ1 _ _).2 ⟨by simp only [XZ, simprocAttr, f1], by simp only [XZ, simprocAttr, f4], hC, by rw [hrec]; exact hL, by rw [hrec]⟩
 intro fr S hJf
 obtain ⟨f1, f4, hC, hL, hm0⟩ := (hJ1 _ _).1 hJf
 rw [if_neg (fun h => h hm0)] at hchk
 have hcn := maysS_cnt (hasN l) (l.map Prod.snd) 1 0 hm0
 have hmt := (maysS_met (hasN l) (l.map Prod.snd) 1 0 (by decide)).2 hm0
 obtain ⟨m1, hm1⟩ : ∃ m, m = (maysS (hasN l) (l.map Prod.snd) 1 0).2 := ⟨_, rfl⟩
 rw [← hm1] at hchk hL hmt hcn
 have r0' := kcell hC r0 n0k
 rw [wC_seqj, wC_seq]; simp only [XY, simprocAttr, f1, f4, r0', cs1, cs2, cs3, cs4]
 refine wCall_plain (mayD (deep := 1) hC.wf hL (hM0.imp fun r p e => ⟨p, keep hC r e⟩) (by decide) hmt) ?_
 rintro _ S4 ⟨c4, L4, rfl⟩
 have C4 : Ch (fun r => r = kr) S3 S4 := hC.trans c4 fun r w => .inl w
 by_cases he : (mayS (hasN l) M 1 m1).1 = 0
 rotate_left
 ·simp only [XZ, simprocAttr, he]
  refine fin _ _ (keep C4) fun _ => ?_
  rw [hchk, if_pos he]
 rw [if_neg (fun h => h he)] at hchk
 have hcnM := mayS_cnt (hasN l) M 1 m1 he
 have hmM := (mayS_met (hasN l) M 1 m1 hmt).2 he
 obtain ⟨m2, hm2⟩ : ∃ m, m = (mayS (hasN l) M 1 m1).2 := ⟨_, rfl⟩
 rw [← hm2] at hchk L4 hmM hcnM
 simp only [XY, simprocAttr]
 rw [wC_seq]; simp only [XY, simprocAttr, he]
 have r0' := kcell C4 r0 n0k
 rw [wC_seqj, wC_seq]; simp only [XY, simprocAttr, f1, f4, r0']
 refine wCall_plain (sigsC C4.wf L4 (h3.imp (fun e x h => h.imp fun r p e => ⟨p, keep C4 r e⟩) fun r p e => ⟨p, keep C4 r e⟩) (by omega) hmM) ?_
 rintro _ S5 ⟨c5, L5, rfl⟩
 have C5 : Ch (fun r => r = kr) S3 S5 := C4.trans c5 fun r w => .inl w
 by_cases hs0 : (sigsS (hasN l) none fs m2).1 = 0
 rotate_left
 ·simp only [XZ, simprocAttr, hs0]
  refine fin _ _ (keep C5) fun _ => ?_
  rw [hchk, if_pos hs0]
 rw [if_neg (fun h => h hs0)] at hchk
 obtain ⟨hp4, hpc, hms⟩ := sigsS_ok (hasN l) none fs m2 hmM hs0
 obtain ⟨m3, hm3⟩ : ∃ m, m = (sigsS (hasN l) none fs m2).2 := ⟨_, rfl⟩
 rw [← hm3] at L5 hms
 simp only [XY, simprocAttr]
 rw [wC_seq]; simp only [XY, simprocAttr, hs0]
 have r0' := kcell C5 r0 n0k
 have kst5 : ∀ {S' : St}, Gr S5 S' → ∀ r, st.row r ≠ .none → S'.row r = st.row r := fun g r e => by rw [g.same r (by rw [keep C5 r e]; exact e), keep C5 r e]
 obtain ⟨J2, hJ2⟩ : ∃ J : Fr → St → Prop, ∀ fr S, J fr S ↔ (fr 1 = .ptr (up 0 n) 0 ∧ fr 4 = .ptr kr 0 ∧ Gr S5 S ∧ (l.any fun p => !finS l p.2) = false) := ⟨_, fun _ _ => Iff.rfl⟩
 refine wC_cut J2 ?_ ?_
 ·rw [wC_seq]; simp only [XY, simprocAttr, f1, r0', l1]
  obtain ⟨I, hI⟩ : ∃ I : Nat → Fr → St → Prop, ∀ j fr S, I j fr S ↔ ∃ (i : Nat), j + i = l.length ∧ fr 1 = .ptr (up 0 n) 0 ∧ fr 4 = .ptr kr 0 ∧ fr 62 = tv ∧ fr 63 = .int .i64 l.length ∧ fr 64 = .int .i64 i ∧ Gr S5 S ∧ (l.any fun p => !finS l p.2) = ((l.drop i).any fun p => !finS l p.2) := ⟨_, fun _ _ _ => Iff.rfl⟩
  refine wC_loop I l.length (by omega) ((hI _ _ _).2 ⟨0, by omega, by simp only [XZ, simprocAttr, f1], by simp only [XZ, simprocAttr, f4], by simp only [XZ, simprocAttr], by simp only [XZ, simprocAttr], by simp only [XZ, simprocAttr] <;> rfl, Gr.refl C5.wf, rfl⟩) ?_
  clear f1 f4
  intro j fr S hIj
  obtain ⟨i, hj, f1, f4, f62, f63, f64, hg, hrec⟩ := (hI _ _ _).1 hIj
  by_cases hi : i < l.length
  ·have hi' : (i : Int) < l.length := by omega
   obtain ⟨r, q, nv1, kv1, a1, a3, a4, hty, d1, d2, d3, d4⟩ := nm_elem h2 (kst5 hg) hi
   rw [List.drop_eq_getElem_cons hi, List.any_cons] at hrec
   obtain ⟨N, hN'⟩ : ∃ N, N = l[i].1 := ⟨_, rfl⟩
   obtain ⟨T, hT⟩ : ∃ T, T = l[i].2 := ⟨_, rfl⟩
   rw [← hT] at hty hrec
   rw [← hN', ← hT] at a4
   have wS := hg.wf
   obtain ⟨nS, hnS⟩ : ∃ n, S.nx = up 0 n := ⟨_, up0 _⟩
   have oq := fun k => nes (ne_up wS hnS a3 k)
   have hadd1 : IntKind.i64.wrap ((i : Int) + 1) = ((i + 1 : Nat) : Int) := by rw [i64_in (by omega) (by omega)]; rfl
   rw [wC_seq]; simp only [XY, simprocAttr, f63, f64, hi']
   rw [wC_seqj]; simp only [XY, simprocAttr]
   rw [wC_seqj]; simp only [XY, simprocAttr]
   rw [wC_seq]; simp only [XY, simprocAttr, f62, f64, a1, a4, hnS, oq, d1, d2, d3, d4]
   obtain ⟨S6, hS6⟩ : ∃ S1, S1 = ((S.new fun t => .cells t [ofL [], .int .i64 0, ofL [], .snil, .snil]).wr (up 0 nS) S.t fun u => .cells u [ofL N, .int .i64 T.kind, ofL T.name, nv1, kv1]) := ⟨_, rfl⟩
   have g6 : Gr S S6 := by rw [hS6]; exact (Gr.refl wS).nw hnS (good_cells _) (good_cells _)
   obtain ⟨t6, r6⟩ : ∃ t, S6.row (up 0 nS) = .cells t [ofL N, .int .i64 T.kind, ofL T.name, nv1, kv1] := ⟨_, by rw [hS6]; simp only [XZ, simprocAttr, hnS]; rfl⟩
   rw [← hS6]
   have G6 := hg.trans g6
   have r0S := G6.cells r0'
   rw [wC_seq]; simp only [XY, simprocAttr, f1, r0S, r6]
   refine wCall_plain (finiteC (s := s) G6.wf (hsch.imp fun r p e => ⟨p, kst5 G6 r e⟩) (hty.gr g6) (by rw [← hll]; omega) (by rw [← hll]; exact hnd)) ?_
   rw [← hll]
   rintro _ S7 ⟨g7, rfl⟩
   cases hf : finS l T with
   | true =>
     rw [hf] at hrec
     simp only [XZ, simprocAttr, f64, hadd1]
     exact ⟨l.length - (i + 1), by omega, (hI _ _ _).2 ⟨i + 1, by omega, by simp only [XZ, simprocAttr, f1], by simp only [XZ, simprocAttr, f4], by simp only [XZ, simprocAttr, f62], by simp only [XZ, simprocAttr, f63], by simp only [XZ, simprocAttr], G6.trans g7, by rw [hrec]; rfl⟩⟩
   | false =>
     rw [hf] at hrec
     simp only [XZ, simprocAttr]
     refine fin _ _ (kst5 (G6.trans g7)) fun _ => ?_
     rw [hchk, hrec]; rfl
  ·have hi' : ¬ (i : Int) < l.length := by omega
   rw [List.drop_eq_nil_of_le (by omega)] at hrec
   simp only [XZ, simprocAttr, f63, f64, hi']
   exact (hJ2 _ _).2 ⟨by simp only [XZ, simprocAttr, f1], by simp only [XZ, simprocAttr, f4], hg, hrec⟩
 clear f1 f4
 intro fr S hJf
 obtain ⟨f1, f4, hg, hany⟩ := (hJ2 _ _).1 hJf
 rw [hany] at hchk
 have hchk : checkS s = if optssS l (everyS s) then 17 else 0 := hchk
 have r0S := hg.cells r0'
 rw [wC_seqj, wC_seq]; simp only [XY, simprocAttr, f1, r0S, cs1, cs2, cs3, cs4, cv1.1, cv1.2, cv2.1, cv2.2]
 refine wCall_plain (everyC (P := P) (Q := fun r => P r ∨ S.row r = .none) hg.wf (hsch.imp fun r p e => ⟨p, kst5 hg r e⟩) (by rw [← hll]; omega) (by rw [← hfs]; omega) (fun f hf => by have := hp4 f (by rw [hfs]; exact hf); omega) (fun r p => .inl p) fun r p => .inr p) ?_
 rintro ev S6 ⟨g6, hevl⟩
 have kS : S.row kr ≠ .none := by rw [hg.same kr L5.krne]; exact L5.krne
 have LS : LookAt (fun r => P r ∨ S.row r = .none) S kr rm l m3 := by
  have := L5.gr hg
  exact ⟨this.map.imp rfl fun r p _ => ⟨.inl p, rfl⟩, this.cell, fun r p => by rcases p with p | p; exact this.sep r p; exact fun e => kS (by rw [← e]; exact p), this.ne⟩
 have hcnt : ∀ t ∈ everyS s, cntT t < 1000000 := fun t ht => by
  rw [hev] at ht
  rcases List.mem_append.1 ht with ht | ht
  ·rcases List.mem_append.1 ht with ht | ht
   ·have := cnt_mem ht; omega
   ·rw [List.mem_singleton.1 ht]; omega
  ·unfold sgTys at ht
   obtain ⟨x, hx, htx⟩ := List.mem_flatten.1 ht
   obtain ⟨f, hf, rfl⟩ := List.mem_map.1 hx
   have h5 := cnt_mem htx
   have h6 := hpc f hf
   omega
 have hlenE : (everyS s).length < 1000000 := by
  have hk := sgTys_len fs fun f hf => by have := hp4 f hf; omega
  rw [hev]
  simp only [List.length_append, List.length_map, List.length_singleton]
  omega
 simp only [XY, simprocAttr, f4]
 refine wCall_plain (containsFuncC (fa := [.ptr kr 0]) (fb := []) (optsS l) g6.wf hevl hlenE fun i hi S' E' g' hE' => optsC _ _ (Nat.lt_succ_self _) _ S' kr rm l m3 E' g'.wf (LS.gr (g6.trans g')) hE' (by omega) (hcnt _ (List.getElem_mem hi))) ?_
 rintro _ S7 ⟨g7, rfl⟩
 rw [optssS_any] at hchk
 have GF := kst5 (hg.trans (g6.trans g7))
 cases ho : (everyS s).any (optsS l) with
 | true =>
   simp only [XZ, simprocAttr]
   refine fin _ _ GF fun _ => ?_
   rw [hchk, ho]; rfl
 | false =>
   simp only [XZ, simprocAttr]
   refine fin _ _ GF fun _ => ?_
   rw [hchk, ho]; rfl
theorem checkC {P : Pt → Prop} {st : St} {e1 : List V} {s : Sch} (hw : WF st) (h : SchC P st e1 s) :
  Does (tabT tabD) n_shape_Check [.agg e1] st fun v' st' => Gr st st' ∧ v' = .int .i64 (checkS s) :=
 checkP (P := fun r => P r ∧ st.row r ≠ .none) hw (h.imp fun r p e => ⟨⟨p, e⟩, rfl⟩) fun r p => p.2
end Go.Proofs.Ytlfnhkdeocbimaa
