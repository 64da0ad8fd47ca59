/- All types of a schema, in order. Which types have a value that ends. Whether a type has a value that ends. What is wrong with a schema. The table of a schema. Raw trees, few of all. Schemas made of raw trees. No condition. -/
import Derived.Test.YtbjfmnjnonnmeaaQ2
set_option linter.unusedVariables false
set_option linter.unusedSimpArgs false
set_option maxRecDepth 100000
namespace Go.Proofs.Ytbjfmnjnonnmeaa
open Eva Go.RowKit
theorem sgTys_snoc (l : List Sg) (f : Sg) : sgTys (l ++ [f]) = sgTys l ++ (f.params ++ [f.result]) := by unfold sgTys; simp
theorem sgTys_len : ∀ (l : List Sg), (∀ f ∈ l, f.params.length ≤ 100) → (sgTys l).length ≤ 101 * l.length
 | [], _ => Nat.zero_le _
 | f :: l, h => by
   have ih := sgTys_len l fun g hg => h g (List.mem_cons_of_mem _ hg)
   have := h f (by simp)
   have e : (sgTys (f :: l)).length = f.params.length + 1 + (sgTys l).length := by unfold sgTys; simp; omega
   rw [e, List.length_cons]
   omega
set_option maxHeartbeats 4000000 in
theorem everyC {P Q : Pt → Prop} {st : St} {e : List V} {s : Sch} (hw : WF st) (h : SchC P st e s) (hl1 : s.types.length ≤ 1000) (hl2 : s.sigs.length ≤ 1000) (hl3 : ∀ f ∈ s.sigs, f.params.length ≤ 100) (hQ : ∀ r, P r → Q r) (hN : ∀ r, st.row r = .none → Q r) :
  Does (tabT tabD) n_shape_every [.agg e] st fun v' st' => Gr st st' ∧ LstAt (TyC Q st') Q st' v' 4 (everyS s) := by
 refine does_fnG tabM at_shape_every rfl hw fun K fin => ?_
 obtain ⟨n, hn0⟩ : ∃ n, st.nx = up 0 n := ⟨_, up0 _⟩
 obtain ⟨c, tv, sv, rfl, h1, h2, h3⟩ := h
 obtain ⟨M, hM⟩ : ∃ M, M = s.main := ⟨_, rfl⟩
 obtain ⟨l, hl⟩ : ∃ l, l = s.types := ⟨_, rfl⟩
 obtain ⟨fs, hfs⟩ : ∃ l, l = s.sigs := ⟨_, rfl⟩
 have hev : everyS s = l.map Prod.snd ++ [M] ++ sgTys fs := by rw [hM, hl, hfs]; rfl
 rw [hev] at fin
 rw [← hM] at h1
 rw [← hl] at h2 hl1
 rw [← hfs] at h3 hl2 hl3
 obtain ⟨nv, kv, es, rfl, x1, x2, x3, x4⟩ := h1.inv
 have h1' : TyC P st [.int .i64 M.kind, ofL M.name, nv, kv] M := h1
 have l1 := h2.len
 have l2 := h3.len
 simp only [cf_shape_every, XY, simprocAttr]
 rw [wC_seq]; simp only [XY, simprocAttr, hn0, x1.sc, x2.sc, x1.cells, x2.cells, h2.sc.1, h3.sc.1]
 obtain ⟨S0, hS0⟩ : ∃ S0, S0 = (st.new fun t => .cells t [.int .i64 M.kind, ofL M.name, nv, kv, tv, sv]) := ⟨_, rfl⟩
 have g0 : Gr st S0 := by rw [hS0]; exact Gr.new hw (good_cells _)
 obtain ⟨t0, r0⟩ : ∃ t, S0.row (up 0 n) = .cells t [.int .i64 M.kind, ofL M.name, nv, kv, tv, sv] := ⟨_, by rw [hS0]; simp only [XZ, simprocAttr, hn0]; rfl⟩
 rw [← hS0]
 clear hS0
 have hM0 : TyC P S0 [.int .i64 M.kind, ofL M.name, nv, kv] M := h1'.gr g0
 have h2 : LstAt (NmC P S0) P S0 tv 5 l := h2.imp (fun e x h => h.imp fun r p e => ⟨p, g0.same r e⟩) fun r p e => ⟨p, g0.same r e⟩
 have h3 : LstAt (SgC P S0) P S0 sv 6 fs := h3.imp (fun e x h => h.imp fun r p e => ⟨p, g0.same r e⟩) fun r p e => ⟨p, g0.same r e⟩
 have hN : ∀ r, S0.row r = .none → Q r := fun r h => hN r (Ch.fresh (Ch.of (fun _ => False) g0) h)
 have c1 := x1.cells
 have c2 := x1.sc
 have c3 := x2.cells
 have c4 := x2.sc
 rw [wC_seq]; simp only [XY, simprocAttr]
 obtain ⟨J, hJ⟩ : ∃ J : Fr → St → Prop, ∀ fr S, J fr S ↔ (∃ v, fr 1 = .ptr (up 0 n) 0 ∧ fr 3 = v ∧ Gr S0 S ∧ TysF P S0 S v (l.map Prod.snd)) := ⟨_, fun _ _ => Iff.rfl⟩
 refine wC_cut J ?_ ?_
 ·rw [wC_seq]; simp only [XY, simprocAttr, r0, l1]
  obtain ⟨I, hI⟩ : ∃ I : Nat → Fr → St → Prop, ∀ j fr S, I j fr S ↔ ∃ (i : Nat) (v : V), j + i = l.length ∧ fr 1 = .ptr (up 0 n) 0 ∧ fr 3 = v ∧ fr 9 = tv ∧ fr 10 = .int .i64 l.length ∧ fr 11 = .int .i64 i ∧ Gr S0 S ∧ TysF P S0 S v ((l.take i).map Prod.snd) := ⟨_, fun _ _ _ => Iff.rfl⟩
  refine wC_loop I l.length (by omega) ((hI _ _ _).2 ⟨0, .snil, by omega, by simp only [XZ, simprocAttr], by simp only [XZ, simprocAttr], by simp only [XZ, simprocAttr], by simp only [XZ, simprocAttr], by simp only [XZ, simprocAttr] <;> rfl, Gr.refl g0.wf, TysF.nil _ _ _⟩) ?_
  intro j fr S hIj
  obtain ⟨i, v, hj, f1, f3, f9, f10, f11, hg, hv⟩ := (hI _ _ _).1 hIj
  by_cases hi : i < l.length
  ·have hi' : (i : Int) < l.length := by omega
   obtain ⟨r, q, e, a1, a2, a3, a4, ⟨c, he, hc⟩, a6, a7⟩ := h2.elem hi
   have hc0 := hc
   obtain ⟨nv1, kv1, es1, rfl, y1, y2, y3, y4⟩ := hc.inv
   subst he
   rw [← hg.same r a3] at a4
   have d1 := y1.cells
   have d2 := y1.sc
   have d3 := y2.cells
   have d4 := y2.sc
   have wS := hg.wf
   obtain ⟨nS, hnS⟩ : ∃ n, S.nx = up 0 n := ⟨_, up0 _⟩
   have a3S : S.row r ≠ .none := by rw [hg.same r a3]; exact a3
   have oq := fun k => nes (ne_up wS hnS a3S k)
   have hadd1 : IntKind.i64.wrap ((i : Int) + 1) = ((i + 1 : Nat) : Int) := by rw [i64_in (by omega) (by omega)]; rfl
   have htk : (l.take (i + 1)).map Prod.snd = (l.take i).map Prod.snd ++ [l[i].2] := by rw [List.take_succ_eq_append_getElem hi, List.map_append]; rfl
   obtain ⟨N, hN'⟩ : ∃ N, N = l[i].1 := ⟨_, rfl⟩
   obtain ⟨T, hT⟩ : ∃ T, T = l[i].2 := ⟨_, rfl⟩
   rw [← hT] at hc0 htk
   rw [← hN', ← hT] at a4
   rw [wC_seq]; simp only [XY, simprocAttr, f10, f11, hi']
   rw [wC_seqj]; simp only [XY, simprocAttr]
   rw [wC_seqj]; simp only [XY, simprocAttr]
   rw [wC_seq]; simp only [XY, simprocAttr, f9, f11, a1, a4, hnS, oq, d1, d2, d3, d4]
   obtain ⟨S1, hS1⟩ : ∃ S1, S1 = ((S.new fun t => .cells t [ofL [], .int .i64 0, ofL [], .snil, .snil]).wr (up 0 nS) S.t fun u => .cells u [ofL N, .int .i64 T.kind, ofL T.name, nv1, kv1]) := ⟨_, rfl⟩
   have g1 : Gr S S1 := by rw [hS1]; exact (Gr.refl wS).nw hnS (good_cells _) (good_cells _)
   obtain ⟨t1, r1⟩ : ∃ t, S1.row (up 0 nS) = .cells t [ofL N, .int .i64 T.kind, ofL T.name, nv1, kv1] := ⟨_, by rw [hS1]; simp only [XZ, simprocAttr, hnS]; rfl⟩
   rw [← hS1]
   have w1 := g1.wf
   have hn1 : S1.nx = up 1 nS := by rw [hS1]; simp only [XZ, simprocAttr, hnS]
   simp only [XY, simprocAttr, f3, r1, hn1, d1, d2, d3, d4]
   have gn : Gr S1 (S1.new fun t => .cells t [.int .i64 T.kind, ofL T.name, nv1, kv1]) := Gr.new w1 (good_cells _)
   refine wW_appT (ts' := [T]) ((hg.trans g1).trans gn) ((hv.gr g1).gr gn) (one_ty hn1 hc0.four) rfl (fun i a b => by
    have : i = 0 := by simpa using a
    subst this; exact hc0) (by simp) (by simp; omega) ?_
   intro S2 v2 g2 h5 rv kp
   rw [← htk] at h5
   simp only [XZ, simprocAttr, f11, hadd1]
   exact ⟨l.length - (i + 1), by omega, (hI _ _ _).2 ⟨i + 1, v2, by omega, by simp only [XZ, simprocAttr, f1], by simp only [XZ, simprocAttr], by simp only [XZ, simprocAttr, f9], by simp only [XZ, simprocAttr, f10], by simp only [XZ, simprocAttr], g2, h5⟩⟩
  ·have hi' : ¬ (i : Int) < l.length := by omega
   simp only [XZ, simprocAttr, f10, f11, hi']
   rw [List.take_of_length_le (by omega)] at hv
   exact (hJ _ _).2 ⟨v, by simp only [XZ, simprocAttr, f1], by simp only [XZ, simprocAttr, f3], hg, hv⟩
 intro fr S hJf
 obtain ⟨v, f1, f3, hg, hv⟩ := (hJ _ _).1 hJf
 have r1 := hg.cells r0
 have wS := hg.wf
 obtain ⟨nS, hnS⟩ : ∃ n, S.nx = up 0 n := ⟨_, up0 _⟩
 rw [wC_seq]; simp only [XY, simprocAttr, f1, f3, r1, hnS, c1, c2, c3, c4]
 have gn : Gr S (S.new fun t => .cells t [.int .i64 M.kind, ofL M.name, nv, kv]) := Gr.new wS (good_cells _)
 refine wW_appT (ts' := [M]) (hg.trans gn) (hv.gr gn) (one_ty hnS hM0.four) rfl (fun i a b => by
  have : i = 0 := by simpa using a
  subst this; exact hM0) (by simp) (by simp; omega) ?_
 intro S2 v2 g2 h5 _ _
 have r2 := g2.cells r0
 simp only [XY, simprocAttr]
 obtain ⟨J2, hJ2⟩ : ∃ J : Fr → St → Prop, ∀ fr S, J fr S ↔ (∃ v, fr 3 = v ∧ Gr S0 S ∧ TysF P S0 S v (l.map Prod.snd ++ [M] ++ sgTys fs)) := ⟨_, fun _ _ => Iff.rfl⟩
 refine wC_cut J2 ?_ ?_
 ·rw [wC_seq]; simp only [XY, simprocAttr, f1, r2, l2]
  obtain ⟨I, hI⟩ : ∃ I : Nat → Fr → St → Prop, ∀ j fr S, I j fr S ↔ ∃ (i : Nat) (v : V), j + i = fs.length ∧ fr 3 = v ∧ fr 27 = sv ∧ fr 28 = .int .i64 fs.length ∧ fr 29 = .int .i64 i ∧ Gr S0 S ∧ TysF P S0 S v (l.map Prod.snd ++ [M] ++ sgTys (fs.take i)) := ⟨_, fun _ _ _ => Iff.rfl⟩
  refine wC_loop I fs.length (by omega) ((hI _ _ _).2 ⟨0, v2, by omega, by simp only [XZ, simprocAttr], by simp only [XZ, simprocAttr], by simp only [XZ, simprocAttr], by simp only [XZ, simprocAttr] <;> rfl, g2, by rw [List.take_zero]; unfold sgTys; simpa using h5⟩) ?_
  intro j fr S hIj
  obtain ⟨i, v, hj, f3, f27, f28, f29, hg, hv⟩ := (hI _ _ _).1 hIj
  by_cases hi : i < fs.length
  ·have hi' : (i : Int) < fs.length := by omega
   obtain ⟨r, q, e, a1, a2, a3, a4, ⟨pv, c, he, ⟨ep, p1, p2, p3⟩, hc⟩, a6, a7⟩ := h3.elem hi
   have hc0 := hc
   obtain ⟨nv1, kv1, es1, rfl, y1, y2, y3, y4⟩ := hc.inv
   subst he
   rw [← hg.same r a3] at a4
   have d1 := y1.cells
   have d2 := y1.sc
   have d3 := y2.cells
   have d4 := y2.sc
   have d5 := p1.cells
   have d6 := p1.sc
   have wS := hg.wf
   obtain ⟨nS, hnS⟩ : ∃ n, S.nx = up 0 n := ⟨_, up0 _⟩
   have a3S : S.row r ≠ .none := by rw [hg.same r a3]; exact a3
   have oq := fun k => nes (ne_up wS hnS a3S k)
   have hadd1 : IntKind.i64.wrap ((i : Int) + 1) = ((i + 1 : Nat) : Int) := by rw [i64_in (by omega) (by omega)]; rfl
   obtain ⟨f, hf⟩ : ∃ f, f = fs[i] := ⟨_, rfl⟩
   have htk : sgTys (fs.take (i + 1)) = sgTys (fs.take i) ++ (f.params ++ [f.result]) := by rw [List.take_succ_eq_append_getElem hi, sgTys_snoc, hf]
   have hfl := hl3 f (by rw [hf]; exact List.getElem_mem hi)
   have htl := sgTys_len (fs.take i) fun g hg => hl3 g (List.mem_of_mem_take hg)
   rw [List.length_take] at htl
   rw [← hf] at a4 hc0 p2 p3
   rw [wC_seq]; simp only [XY, simprocAttr, f28, f29, hi']
   rw [wC_seqj]; simp only [XY, simprocAttr]
   rw [wC_seqj]; simp only [XY, simprocAttr]
   rw [wC_seq]; simp only [XY, simprocAttr, f27, f29, a1, a4, hnS, oq, d1, d2, d3, d4, d5, d6]
   obtain ⟨S1, hS1⟩ : ∃ S1, S1 = ((S.new fun t => .cells t [ofL [], .snil, .int .i64 0, ofL [], .snil, .snil]).wr (up 0 nS) S.t fun u => .cells u [ofL f.name, pv, .int .i64 f.result.kind, ofL f.result.name, nv1, kv1]) := ⟨_, rfl⟩
   have g1 : Gr S S1 := by rw [hS1]; exact (Gr.refl wS).nw hnS (good_cells _) (good_cells _)
   obtain ⟨t1, r1⟩ : ∃ t, S1.row (up 0 nS) = .cells t [ofL f.name, pv, .int .i64 f.result.kind, ofL f.result.name, nv1, kv1] := ⟨_, by rw [hS1]; simp only [XZ, simprocAttr, hnS]; rfl⟩
   rw [← hS1]
   have hvn : rowOf v ≠ some (up 0 nS) := fun e => hv.alive e (nx0 wS hnS 0)
   simp only [XY, simprocAttr, f3, r1]
   refine wW_appT (ts' := f.params) (hg.trans g1) (hv.gr g1) ((p1.gr hg).gr g1) p2 p3 (by omega) (by simp; omega) ?_
   intro S2 v2 g2 h5 rv kp
   have r2 : S2.row (up 0 nS) = .cells t1 [ofL f.name, pv, .int .i64 f.result.kind, ofL f.result.name, nv1, kv1] := by rw [kp _ (ne_cells r1) hvn, r1]
   have w2 := g2.wf
   obtain ⟨n2, hn2⟩ : ∃ n, S2.nx = up 0 n := ⟨_, up0 _⟩
   simp only [XY, simprocAttr, r2, hn2, d1, d2, d3, d4]
   have gn : Gr S2 (S2.new fun t => .cells t [.int .i64 f.result.kind, ofL f.result.name, nv1, kv1]) := Gr.new w2 (good_cells _)
   refine wW_appT (ts' := [f.result]) (g2.trans gn) (h5.gr gn) (one_ty hn2 hc0.four) rfl (fun i a b => by
    have : i = 0 := by simpa using a
    subst this; exact hc0) (by simp) (by simp; omega) ?_
   intro S3 v3 g3 h6 _ _
   have h6 : TysF P S0 S3 v3 (l.map Prod.snd ++ [M] ++ sgTys (fs.take (i + 1))) := by rw [htk]; simpa using h6
   simp only [XZ, simprocAttr, f29, hadd1]
   refine ⟨apartAll_ok (v := v) (w := .ptr (up 0 nS) 2) (q := up 0 nS) (by simp only [XZ, simprocAttr, f3]) (by simp only [XZ, simprocAttr]) rfl hvn, ?_⟩
   exact ⟨fs.length - (i + 1), by omega, (hI _ _ _).2 ⟨i + 1, v3, by omega, by simp only [XZ, simprocAttr], by simp only [XZ, simprocAttr, f27], by simp only [XZ, simprocAttr, f28], by simp only [XZ, simprocAttr], g3, h6⟩⟩
  ·have hi' : ¬ (i : Int) < fs.length := by omega
   simp only [XZ, simprocAttr, f28, f29, hi']
   rw [List.take_of_length_le (by omega)] at hv
   exact (hJ2 _ _).2 ⟨v, by simp only [XZ, simprocAttr, f3], hg, hv⟩
 intro fr S hJf
 obtain ⟨v, f3, hg, hv⟩ := (hJ2 _ _).1 hJf
 simp only [XZ, simprocAttr, f3]
 exact fin _ _ (fun r e => (g0.trans hg).same r e) fun _ => hv.lst hg hQ hN
theorem endsS_mk (has : Str → Bool) (k : Int) (n : Str) (ns : List Str) (ks : List Ty) (deep : Nat) : endsS has (.mk k n ns ks) deep = if 12 < deep then false else if k = 9 then has n else if k = 8 then endsAny has ks (deep + 1) else if k = 7 then endsAll has ks (deep + 1) else true := by rw [endsS]
theorem endsAny_any (has : Str → Bool) (deep : Nat) : ∀ ks : List Ty, endsAny has ks deep = ks.any fun t => endsS has t deep
 | [] => by rw [endsAny]; rfl
 | t :: r => by rw [endsAny, endsAny_any has deep r]; rfl
theorem endsAll_any (has : Str → Bool) (deep : Nat) : ∀ ks : List Ty, endsAll has ks deep = !(ks.any fun t => !endsS has t deep)
 | [] => by rw [endsAll]; rfl
 | t :: r => by rw [endsAll, endsAll_any has deep r]; simp
def hasE (has : List (Str × Bool)) : List (Str × V) := has.map fun p => (p.1, V.bool p.2)
theorem at_has (n : Str) : ∀ has : List (Str × Bool), ansL (.bool false) false (at_ n (hasE has)) = .bool (gB n has)
 | [] => rfl
 | (a, b) :: r => by
   have ih := at_has n r
   unfold hasE at ih ⊢
   rw [List.map_cons, at_, gB]
   by_cases e : n = a
   ·rw [if_pos e, if_pos e]; rfl
   ·rw [if_neg e, if_neg e]; exact ih
set_option maxHeartbeats 4000000 in
theorem endsC : ∀ (m : Nat) (ty : Ty), tsz ty < m → ∀ (P : Pt → Prop) (st : St) (rh : Pt) (has : List (Str × Bool)) (e : List V) (deep : Nat), WF st → MobAt st rh ofL (hasE has) → TyC P st e ty → deep ≤ 13 → cntT ty < 1000000 →
  Does (tabT tabD) n_shape_ends [.agg e, .map rh, .int .i64 deep] st fun v st' => Gr st st' ∧ v = .bool (endsS (fun x => gB x has) ty deep)
 | 0, _, h => absurd h (by omega)
 | m + 1, .mk k nm ns ks, hm => by
   intro P st rh has e deep hw hmob hx hdeep hsz
   refine does_fnG tabM at_shape_ends rfl hw fun K fin => ?_
   obtain ⟨n, hn0⟩ : ∃ n, st.nx = up 0 n := ⟨_, up0 _⟩
   obtain ⟨nv, kv, es, rfl, x1, x2, x3, x4⟩ := hx.inv'
   have hS := endsS_mk (fun x => gB x has) k nm ns ks deep
   have hlen : ks.length < 1000000 := by have h1 := cnt_len ks; rw [cntT_mk] at hsz; omega
   have hx2 : LstAt (TyC P st) P st kv 4 ks := ⟨es, x2, x3, x4⟩
   have c1 := x1.cells
   have c2 := x1.sc
   have c3 := x2.cells
   have c4 := x2.sc
   obtain ⟨I, hI⟩ : ∃ I : Fr → St → Prop, ∀ fr S, I fr S ↔ (Gr st S ∧ fr 3 = .ptr (up 0 n) 0 ∧ fr 4 = .ptr (up 1 n) 0 ∧ fr 5 = .ptr (up 2 n) 0 ∧ (∃ t, S.row (up 0 n) = .cells t [.int .i64 k, ofL nm, nv, kv]) ∧ (∃ t, S.row (up 1 n) = .cells t [.map rh]) ∧ (∃ t, S.row (up 2 n) = .cells t [.int .i64 deep])) := ⟨_, fun _ _ => Iff.rfl⟩
   simp only [cf_shape_ends, XY, simprocAttr]
   refine wC_scut I ?_ ?_
   ·simp only [XZ, simprocAttr, hn0, c1, c2, c3, c4]
    exact (hI _ _).2 ⟨((Gr.new hw (good_cells _)).nn (good_cells _)).nn (good_cells _), by simp only [XZ, simprocAttr], by simp only [XZ, simprocAttr], by simp only [XZ, simprocAttr], ⟨_, by simp only [XZ, simprocAttr, hn0]; rfl⟩, ⟨_, by simp only [XZ, simprocAttr, hn0]; rfl⟩, ⟨_, by simp only [XZ, simprocAttr, hn0]; rfl⟩⟩
   intro fr S hIf
   obtain ⟨hg, f3, f4, f5, ⟨t0, r0⟩, ⟨t1, r1⟩, ⟨t2, r2⟩⟩ := (hI _ _).1 hIf
   by_cases hd : 12 < deep
   ·have hd' : (12 : Int) < (deep : Int) := by omega
    rw [wC_seqj, wC_seq]; simp only [XZ, simprocAttr, f5, r2, hd']
    refine fin _ _ (fun r e => hg.same r e) fun _ => ?_
    rw [hS, if_pos hd]
   have hd' : ¬ (12 : Int) < (deep : Int) := by omega
   rw [if_neg hd] at hS
   rw [wC_seqj, wC_seq]; simp only [XY, simprocAttr, f5, r2, hd']
   have wS := hg.wf
   obtain ⟨nS, hnS⟩ : ∃ n, S.nx = up 0 n := ⟨_, up0 _⟩
   rw [wC_seq]; simp only [XY, simprocAttr, f4, f5, hnS]
   obtain ⟨S1, hS1⟩ : ∃ S1, S1 = ((S.new fun t => .cells t [.fnil]).wr (up 0 nS) S.t fun u => .cells u [.fn n_shape_ends_1 [] [.ptr (up 1 n) 0, .ptr (up 2 n) 0]]) := ⟨_, rfl⟩
   have g1 : Gr S S1 := by rw [hS1]; exact (Gr.refl wS).nw hnS (good_cells _) (good_cells _)
   obtain ⟨t3, r3⟩ : ∃ t, S1.row (up 0 nS) = .cells t [.fn n_shape_ends_1 [] [.ptr (up 1 n) 0, .ptr (up 2 n) 0]] := ⟨_, by rw [hS1]; simp only [XZ, simprocAttr, hnS]; rfl⟩
   rw [← hS1]
   have G1 := hg.trans g1
   have r0 := g1.cells r0
   have r1 := g1.cells r1
   have r2 := g1.cells r2
   have hx3 : LstAt (TyC P S1) P S1 kv 4 ks := hx2.imp (fun e x h => h.gr G1) fun r p e => ⟨p, G1.same r e⟩
   have clo : ∀ (i : Nat) (hi : i < ks.length) (S' : St) (e : List V), Gr S1 S' → TyC P S' e ks[i] → Does (tabT tabD) n_shape_ends_1 ([] ++ [.agg e] ++ [.ptr (up 1 n) 0, .ptr (up 2 n) 0]) S' fun v S'' => Gr S' S'' ∧ v = .bool (endsS (fun x => gB x has) ks[i] (deep + 1)) := fun i hi S' e g' hx' => by
    have h1 := cnt_kid hi
    have h2 := cntT_mk k nm ns ks
    have w' := g'.wf
    obtain ⟨n', hn'⟩ : ∃ n, S'.nx = up 0 n := ⟨_, up0 _⟩
    have e4 := hx'.four
    have eok := hx'.ok
    have etk : e.take 4 = e := by rw [← e4, List.take_length]
    refine does_fnG tabM at_shape_ends_1 rfl w' fun K fin => ?_
    have hadd : IntKind.i64.wrap ((deep : Int) + 1) = ((deep + 1 : Nat) : Int) := by rw [i64_in (by omega) (by omega)]; rfl
    have b1 := g'.cells r1
    have b2 := g'.cells r2
    have gb : Gr S' (S'.new fun t => .cells t e) := Gr.new w' (good_cells _)
    have b1 := gb.cells b1
    have b2 := gb.cells b2
    simp only [cf_shape_ends_1, XZ, simprocAttr, hn', e4, eok, etk, b1, b2, hadd]
    refine wCall_plain (endsC m ks[i] (by have := tsz_kid (k := k) (n := nm) (ns := ns) hi; omega) P _ rh has e (deep + 1) gb.wf ?_ (hx'.gr gb) (by omega) (by omega)) ?_
    ·exact hmob.of (by rw [gb.same rh (by rw [g'.same rh (by rw [G1.same rh hmob.ne]; exact hmob.ne), G1.same rh hmob.ne]; exact hmob.ne), g'.same rh (by rw [G1.same rh hmob.ne]; exact hmob.ne), G1.same rh hmob.ne])
    rintro _ S2 ⟨g2, rfl⟩
    simp only [XZ, simprocAttr]
    exact fin _ _ (fun r e => (gb.trans g2).same r e) fun _ => rfl
   by_cases k9 : k = 9
   ·have hmS : MobAt S1 rh ofL (hasE has) := hmob.of (G1.same rh hmob.ne)
    have hlk := lookup_at (enc := ofL) (e := .one .s) hmS (.bool false) false nm (str_heq nm _) rfl
    rw [at_has] at hlk
    rw [if_pos k9] at hS
    simp only [XZ, simprocAttr, f3, f4, r0, r1, k9, hlk]
    refine fin _ _ (fun r e => G1.same r e) fun _ => ?_
    rw [hS]
   rw [if_neg k9] at hS
   by_cases k8 : k = 8
   ·rw [if_pos k8, endsAny_any] at hS
    simp only [XZ, simprocAttr, f3, r0, r3, k9, k8]
    refine wCall_plain (containsFuncC (fa := []) (fb := [.ptr (up 1 n) 0, .ptr (up 2 n) 0]) (fun t => endsS (fun x => gB x has) t (deep + 1)) G1.wf hx3 hlen clo) ?_
    rintro _ S2 ⟨g2, rfl⟩
    simp only [XZ, simprocAttr]
    refine fin _ _ (fun r e => (G1.trans g2).same r e) fun _ => ?_
    rw [hS]
   rw [if_neg k8] at hS
   by_cases k7 : k = 7
   ·rw [if_pos k7, endsAll_any] at hS
    simp only [XZ, simprocAttr, f3, r0, k9, k8, k7]
    refine wCall_plain (containsFuncC (fa := []) (fb := [.ptr (up 0 nS) 0]) (fun t => !endsS (fun x => gB x has) t (deep + 1)) G1.wf hx3 hlen fun i hi S' e g' hx' => ?_) ?_
    ·refine does_fnG tabM at_shape_ends_2 rfl g'.wf fun K fin => ?_
     obtain ⟨n', hn'⟩ : ∃ n, S'.nx = up 0 n := ⟨_, up0 _⟩
     have e4 := hx'.four
     have eok := hx'.ok
     have etk : e.take 4 = e := by rw [← e4, List.take_length]
     have gb : Gr S' (S'.new fun t => .cells t e) := Gr.new g'.wf (good_cells _)
     have b3 := gb.cells (g'.cells r3)
     simp only [cf_shape_ends_2, XZ, simprocAttr, hn', e4, eok, etk, b3]
     refine wCall_plain (by simpa using clo i hi _ e (g'.trans gb) (hx'.gr gb)) ?_
     rintro _ S2 ⟨g2, rfl⟩
     simp only [XZ, simprocAttr]
     exact fin _ _ (fun r e => (gb.trans g2).same r e) fun _ => rfl
    rintro _ S2 ⟨g2, rfl⟩
    simp only [XZ, simprocAttr]
    refine fin _ _ (fun r e => (G1.trans g2).same r e) fun _ => ?_
    rw [hS]
   rw [if_neg k7] at hS
   simp only [XZ, simprocAttr, f3, r0, k9, k8, k7]
   refine fin _ _ (fun r e => G1.same r e) fun _ => ?_
   rw [hS]
theorem set_has (n : Str) (b : Bool) : ∀ has : List (Str × Bool), set_ n (V.bool b) (hasE has) = hasE (sB n b has)
 | [] => rfl
 | (a, c) :: r => by
   have ih := set_has n b r
   unfold hasE at ih ⊢
   rw [List.map_cons, set_, sB]
   by_cases e : n = a
   ·rw [if_pos e, if_pos e]; rfl
   ·rw [if_neg e, if_neg e, ih]; rfl
theorem nm_elem {P : Pt → Prop} {st S : St} {v : V} {l : List (Str × Ty)} (h : LstAt (NmC P st) P st v 5 l) (hS : ∀ r, st.row r ≠ .none → S.row r = st.row r) {i : Nat} (hi : i < l.length) :
  ∃ r q nv kv, iaddrSV 5 v (.int .i64 i) = some (.ptr r q, .no) ∧ S.row r ≠ .none ∧ ldn (S.row r) q 5 = some (.agg [ofL l[i].1, .int .i64 l[i].2.kind, ofL l[i].2.name, nv, kv], .no) ∧ TyC P S [.int .i64 l[i].2.kind, ofL l[i].2.name, nv, kv] l[i].2 ∧ (nv.cells = some [nv] ∧ nv.sc = true ∧ kv.cells = some [kv] ∧ kv.sc = true) := by
 obtain ⟨r, q, e, a1, a2, a3, a4, ⟨c, he, hc⟩, a6, a7⟩ := h.elem hi
 have hc0 := hc
 obtain ⟨nv1, kv1, es1, rfl, y1, y2, y3, y4⟩ := hc.inv
 subst he
 rw [← hS r a3] at a4
 exact ⟨r, q, nv1, kv1, a1, by rw [hS r a3]; exact a3, a4, hc0.imp fun r p e => ⟨p, hS r e⟩, y1.cells, y1.sc, y2.cells, y2.sc⟩
theorem roundsS_succ (l : List (Str × Ty)) (k : Nat) (has : List (Str × Bool)) : roundsS l (k + 1) has = roundsS l k (roundS l has) := by rw [roundsS]
theorem roundS_cons (p : Str × Ty) (r : List (Str × Ty)) (has : List (Str × Bool)) : roundS (p :: r) has = roundS r (sB p.1 (gB p.1 has || endsS (fun x => gB x has) p.2 1) has) := by obtain ⟨a, b⟩ := p; rw [roundS]
set_option maxHeartbeats 8000000 in
theorem finiteP {P : Pt → Prop} {st : St} {e1 e2 : List V} {s : Sch} {t : Ty} (hw : WF st) (h : SchC P st e1 s) (ht : TyC P st e2 t) (hP : ∀ r, P r → st.row r ≠ .none) (hl : s.types.length ≤ 1000) (hd : (s.types.map Prod.fst).Nodup) :
  Does (tabT tabD) n_shape_Finite [.agg e1, .agg e2] st fun v' st' => Gr st st' ∧ v' = .bool (finS s.types t) := by
 refine does_fnG tabM at_shape_Finite rfl hw fun K fin => ?_
 obtain ⟨n, hn0⟩ : ∃ n, st.nx = up 0 n := ⟨_, up0 _⟩
 have hsch := h
 obtain ⟨c, tv, sv, rfl, h1, h2, h3⟩ := h
 obtain ⟨M, hM⟩ : ∃ M, M = s.main := ⟨_, rfl⟩
 obtain ⟨l, hll⟩ : ∃ l, l = s.types := ⟨_, rfl⟩
 rw [← hM] at h1
 rw [← hll] at h2 hl fin
 obtain ⟨nv, kv, es, rfl, x1, x2, x3, x4⟩ := h1.inv
 have ht0 := ht
 obtain ⟨nv', kv', es', rfl, y1, y2, y3, y4⟩ := ht.inv
 have l1 := h2.len
 have cs1 := x1.cells
 have cs2 := x1.sc
 have cs3 := x2.cells
 have cs4 := x2.sc
 have ct1 := y1.cells
 have ct2 := y1.sc
 have ct3 := y2.cells
 have ct4 := y2.sc
 have cv1 := h2.sc
 have cv2 := h3.sc
 simp only [cf_shape_Finite, XY, simprocAttr]
 obtain ⟨I, hI⟩ : ∃ I : Fr → St → Prop, ∀ fr S, I fr S ↔ (Gr st S ∧ fr 2 = .ptr (up 0 n) 0 ∧ fr 3 = .ptr (up 1 n) 0 ∧ (∃ u, S.row (up 0 n) = .cells u [.int .i64 M.kind, ofL M.name, nv, kv, tv, sv]) ∧ (∃ u, S.row (up 1 n) = .cells u [.int .i64 t.kind, ofL t.name, nv', kv'])) := ⟨_, fun _ _ => Iff.rfl⟩
 refine wC_scut I ?_ ?_
 ·simp only [XZ, simprocAttr, hn0, cs1, cs2, cs3, cs4, ct1, ct2, ct3, ct4, cv1.1, cv1.2, cv2.1, cv2.2]
  exact (hI _ _).2 ⟨(Gr.new hw (good_cells _)).nn (good_cells _), by simp only [XZ, simprocAttr], by simp only [XZ, simprocAttr], ⟨_, by simp only [XZ, simprocAttr, hn0]; rfl⟩, ⟨_, by simp only [XZ, simprocAttr, hn0]; rfl⟩⟩
 intro fr S hIf
 obtain ⟨g0, f2, f3, ⟨t0, r0⟩, ⟨t1, r1⟩⟩ := (hI _ _).1 hIf
 rw [wC_seq]; simp only [XY, simprocAttr, f2, r0]
 refine wCall_plain (namedC (P := P) g0.wf (hsch.imp fun r p e => ⟨p, g0.same r e⟩) (by rw [← hll]; exact hl) hd) ?_
 rintro _ S1 ⟨g1, rm, rfl, hrm, hnm⟩
 rw [← hll] at hnm
 have r0 := g1.cells r0
 have r1 := g1.cells r1
 have G1 := g0.trans g1
 have w1 := g1.wf
 obtain ⟨n1, hn1⟩ : ∃ n, S1.nx = up 0 n := ⟨_, up0 _⟩
 have spl : splice [.mnil, .int .i64 0] 0 [.map rm] = [.map rm, .int .i64 0] := rfl
 simp only [XY, simprocAttr, hn1, sc_mnil, cells_mnil]
 obtain ⟨S2, hS2⟩ : ∃ S2, S2 = (S1.new fun t => .cells t [.map rm, .int .i64 0]) := ⟨_, rfl⟩
 have g2 : Gr S1 S2 := by rw [hS2]; exact Gr.new w1 (good_cells _)
 obtain ⟨kr, hkr⟩ : ∃ p, p = up 0 n1 := ⟨_, rfl⟩
 obtain ⟨tk, rk⟩ : ∃ u, S2.row kr = .cells u [.map rm, .int .i64 0] := ⟨_, by rw [hS2, hkr]; simp only [XZ, simprocAttr, hn1]; rfl⟩
 have qk1 : S1.row kr = .none := by rw [hkr]; exact nx0 w1 hn1 0
 rw [← hS2, ← hkr]
 clear hS2
 have G2 := G1.trans g2
 have n0k : up 0 n ≠ kr := fun h => by rw [h, qk1] at r0; cases r0
 have n1k : up 1 n ≠ kr := fun h => by rw [h, qk1] at r1; cases r1
 have r0 := g2.cells r0
 have r1 := g2.cells r1
 have hmn : S1.row rm ≠ .none := by obtain ⟨_, h, _⟩ := hnm; exact h.ne
 have qk : st.row kr = .none := Ch.fresh (Ch.of (fun _ => False) G1) qk1
 have old_k : ∀ r, st.row r ≠ .none → r ≠ kr := fun r e h => e (by rw [h]; exact qk)
 have L2 : LookAt P S2 kr rm l 0 :=
  ⟨hnm.imp (g2.same rm hmn) fun r p e => ⟨p, g2.same r e⟩, ⟨tk, rk⟩, fun r p => old_k r (hP r p), fun e => hmn (by rw [e]; exact qk1)⟩
 have keep : ∀ {S' : St}, Ch (fun r => r = kr) S2 S' → ∀ r, st.row r ≠ .none → S'.row r = st.row r := fun c r e => by rw [c.same r (by rw [G2.same r e]; exact e) (old_k r e), G2.same r e]
 have kcell : ∀ {S' : St} {p : Pt} {u : Nat} {x : List V}, Ch (fun r => r = kr) S2 S' → S2.row p = .cells u x → p ≠ kr → S'.row p = .cells u x := fun c e n => by rw [c.same _ (ne_cells e) n, e]
 obtain ⟨J1, hJ1⟩ : ∃ J : Fr → St → Prop, ∀ fr S, J fr S ↔ (∃ met, fr 2 = .ptr (up 0 n) 0 ∧ fr 3 = .ptr (up 1 n) 0 ∧ fr 5 = .ptr kr 0 ∧ Ch (fun r => r = kr) S2 S ∧ LookAt P S kr rm l met ∧ (maysS (hasN l) (l.map Prod.snd) 1 0).1 = 0) := ⟨_, fun _ _ => Iff.rfl⟩
 refine wC_cut J1 ?_ ?_
 ·rw [wC_seq]; simp only [XY, simprocAttr, f2, r0, l1]
  obtain ⟨I, hI⟩ : ∃ I : Nat → Fr → St → Prop, ∀ j fr S, I j fr S ↔ ∃ (i met : Nat), j + i = l.length ∧ fr 2 = .ptr (up 0 n) 0 ∧ fr 3 = .ptr (up 1 n) 0 ∧ fr 5 = .ptr kr 0 ∧ fr 16 = tv ∧ fr 17 = .int .i64 l.length ∧ fr 18 = .int .i64 i ∧ Ch (fun r => r = kr) S2 S ∧ LookAt P S kr rm l met ∧ met ≤ 400 ∧ maysS (hasN l) (l.map Prod.snd) 1 0 = maysS (hasN l) ((l.map Prod.snd).drop i) 1 met := ⟨_, fun _ _ _ => Iff.rfl⟩
  refine wC_loop I l.length (by omega) ((hI _ _ _).2 ⟨0, 0, by omega, by simp only [XZ, simprocAttr, f2], by simp only [XZ, simprocAttr, f3], by simp only [XZ, simprocAttr], by simp only [XZ, simprocAttr], by simp only [XZ, simprocAttr], by simp only [XZ, simprocAttr] <;> rfl, Ch.refl _ g2.wf, L2, by omega, rfl⟩) ?_
  clear f2 f3
  intro j fr S hIj
  obtain ⟨i, met, hj, f2, f3, f5, f16, f17, f18, hC, hL, hmet, hrec⟩ := (hI _ _ _).1 hIj
  by_cases hi : i < l.length
  ·have hi' : (i : Int) < l.length := by omega
   obtain ⟨r, q, nv1, kv1, a1, a3, a4, hty, d1, d2, d3, d4⟩ := nm_elem h2 (keep hC) hi
   obtain ⟨N, hN'⟩ : ∃ N, N = l[i].1 := ⟨_, rfl⟩
   obtain ⟨T, hT⟩ : ∃ T, T = l[i].2 := ⟨_, rfl⟩
   rw [← hT] at hty
   rw [← hN', ← hT] at a4
   have hd : (l.map Prod.snd).drop i = T :: (l.map Prod.snd).drop (i + 1) := by
    rw [List.drop_eq_getElem_cons (by simpa using hi), List.getElem_map, ← hT]
   rw [hd, maysS_cons] at hrec
   have wS := hC.wf
   obtain ⟨nS, hnS⟩ : ∃ n, S.nx = up 0 n := ⟨_, up0 _⟩
   have oq := fun k => nes (ne_up wS hnS a3 k)
   have hadd1 : IntKind.i64.wrap ((i : Int) + 1) = ((i + 1 : Nat) : Int) := by rw [i64_in (by omega) (by omega)]; rfl
   rw [wC_seq]; simp only [XY, simprocAttr, f17, f18, hi']
   rw [wC_seqj]; simp only [XY, simprocAttr]
   rw [wC_seqj]; simp only [XY, simprocAttr]
   rw [wC_seq]; simp only [XY, simprocAttr, f16, f18, a1, a4, hnS, oq, d1, d2, d3, d4]
   obtain ⟨S3, hS3⟩ : ∃ S1, S1 = ((S.new fun t => .cells t [ofL [], .int .i64 0, ofL [], .snil, .snil]).wr (up 0 nS) S.t fun u => .cells u [ofL N, .int .i64 T.kind, ofL T.name, nv1, kv1]) := ⟨_, rfl⟩
   have g3 : Gr S S3 := by rw [hS3]; exact (Gr.refl wS).nw hnS (good_cells _) (good_cells _)
   obtain ⟨t3, r3⟩ : ∃ t, S3.row (up 0 nS) = .cells t [ofL N, .int .i64 T.kind, ofL T.name, nv1, kv1] := ⟨_, by rw [hS3]; simp only [XZ, simprocAttr, hnS]; rfl⟩
   rw [← hS3]
   rw [wC_seq]; simp only [XY, simprocAttr, f5, r3]
   refine wCall_plain (mayD (deep := 1) g3.wf (hL.gr g3) (hty.gr g3) (by decide) hmet) ?_
   rintro _ S4 ⟨c4, L4, rfl⟩
   have C4 : Ch (fun r => r = kr) S2 S4 := (hC.trans (Ch.of _ g3) fun r w => .inl w).trans c4 fun r w => .inl w
   have hm4 := mayS_met (hasN l) T 1 met hmet
   by_cases he : (mayS (hasN l) T 1 met).1 = 0
   ·rw [if_neg (by simpa using he)] at hrec
    simp only [XZ, simprocAttr, he, f18, hadd1]
    exact ⟨l.length - (i + 1), by omega, (hI _ _ _).2 ⟨i + 1, _, by omega, by simp only [XZ, simprocAttr, f2], by simp only [XZ, simprocAttr, f3], by simp only [XZ, simprocAttr, f5], by simp only [XZ, simprocAttr, f16], by simp only [XZ, simprocAttr, f17], by simp only [XZ, simprocAttr], C4, L4, hm4.2 he, hrec⟩⟩
   ·rw [if_pos (by simpa using he)] at hrec
    simp only [XZ, simprocAttr, he]
    refine fin _ _ (keep C4) fun _ => ?_
    unfold finS
    rw [if_pos (by rw [hrec]; exact he)]
  ·have hi' : ¬ (i : Int) < l.length := by omega
   rw [List.drop_eq_nil_of_le (by simp; omega), maysS_nil] at hrec
   simp only [XZ, simprocAttr, f17, f18, hi']
   exact (hJ1 _ _).2 ⟨met, by simp only [XZ, simprocAttr, f2], by simp only [XZ, simprocAttr, f3], by simp only [XZ, simprocAttr, f5], hC, hL, by rw [hrec]⟩
 clear f2 f3 hIf hI
 intro fr S hJf
 obtain ⟨met, f2, f3, f5, hC, hL, hm0⟩ := (hJ1 _ _).1 hJf
 have hcn := maysS_cnt (hasN l) (l.map Prod.snd) 1 0 hm0
 have hmt := (maysS_met (hasN l) (l.map Prod.snd) 1 0 (by decide)).2 hm0
 obtain ⟨tk', rk'⟩ := hL.cell
 rw [wC_seq]; simp only [XY, simprocAttr, f5, rk']
 obtain ⟨S3, hS3⟩ : ∃ S3, S3 = (S.wr kr tk' fun u => .cells u [.map rm, .int .i64 0]) := ⟨_, rfl⟩
 have c3 : Ch (fun r => r = kr) S S3 := by rw [hS3]; exact (Ch.refl _ hC.wf).wr (ne_cells rk') (by rw [rk']; rfl) (.inl rfl) (good_cells _)
 have L3 : LookAt P S3 kr rm l 0 := hL.ch c3 ⟨_, by rw [hS3]; exact row_wr_same _ _ _ _⟩
 have C3 : Ch (fun r => r = kr) S2 S3 := hC.trans c3 fun r w => .inl w
 rw [← hS3]
 have r1' := kcell C3 r1 n1k
 rw [wC_seqj, wC_seq]; simp only [XY, simprocAttr, f3, f5, r1', ct1, ct2, ct3, ct4]
 refine wCall_plain (mayD (deep := 1) C3.wf L3 (ht0.imp fun r p e => ⟨p, keep C3 r e⟩) (by decide) (by decide)) ?_
 rintro _ S4 ⟨c4, L4, rfl⟩
 have C4 : Ch (fun r => r = kr) S2 S4 := C3.trans c4 fun r w => .inl w
 by_cases he : (mayS (hasN l) t 1 0).1 = 0
 rotate_left
 ·simp only [XZ, simprocAttr, he]
  refine fin _ _ (keep C4) fun _ => ?_
  unfold finS
  rw [if_neg (by simpa using hm0), if_pos he]
 have hct := mayS_cnt (hasN l) t 1 0 he
 have hmt2 := (mayS_met (hasN l) t 1 0 (by decide)).2 he
 have hfin : finS l t = endsS (fun x => gB x (roundsS l l.length [])) t 1 := by
  unfold finS
  rw [if_neg (by simpa using hm0), if_neg (by simpa using he)]
 rw [hfin] at fin
 have r0' := kcell C4 r0 n0k
 have r1' := kcell C4 r1 n1k
 have w4 := C4.wf
 obtain ⟨n4, hn4⟩ : ∃ n, S4.nx = up 0 n := ⟨_, up0 _⟩
 simp only [XY, simprocAttr, he]
 rw [wC_seq]; simp only [XY, simprocAttr, hn4]
 obtain ⟨S5, hS5⟩ : ∃ S5, S5 = (S4.new fun t => .mob t []) := ⟨_, rfl⟩
 have g5 : Gr S4 S5 := by rw [hS5]; exact Gr.new w4 (good_mob _)
 obtain ⟨rh, hrh⟩ : ∃ p, p = up 0 n4 := ⟨_, rfl⟩
 have qh : S4.row rh = .none := by rw [hrh]; exact nx0 w4 hn4 0
 obtain ⟨th, mh⟩ : ∃ u, S5.row rh = .mob u ((hasE []).map fun p => (ofL p.1, p.2)) := ⟨_, by rw [hS5, hrh]; simp only [XZ, simprocAttr, hn4]; rfl⟩
 rw [← hS5, ← hrh]
 clear hS5
 have keep4 : ∀ {S' : St}, Gr S4 S' → ∀ r, st.row r ≠ .none → S'.row r = st.row r := fun g r e => by rw [g.same r (by rw [keep C4 r e]; exact e), keep C4 r e]
 obtain ⟨J2, hJ2⟩ : ∃ J : Fr → St → Prop, ∀ fr S, J fr S ↔ (fr 3 = .ptr (up 1 n) 0 ∧ fr 8 = .map rh ∧ Gr S4 S ∧ ∃ u, S.row rh = .mob u ((hasE (roundsS l l.length [])).map fun p => (ofL p.1, p.2))) := ⟨_, fun _ _ => Iff.rfl⟩
 refine wC_cut J2 ?_ ?_
 ·have r0'' := g5.cells r0'
  rw [wC_seq]; simp only [XY, simprocAttr, f2, r0'', l1]
  obtain ⟨I, hI⟩ : ∃ I : Nat → Fr → St → Prop, ∀ j fr S, I j fr S ↔ ∃ (i : Nat) (has : List (Str × Bool)), j + i = l.length ∧ fr 2 = .ptr (up 0 n) 0 ∧ fr 3 = .ptr (up 1 n) 0 ∧ fr 8 = .map rh ∧ fr 38 = .int .i64 l.length ∧ fr 39 = .int .i64 i ∧ Gr S4 S ∧ (∃ u, S.row rh = .mob u ((hasE has).map fun p => (ofL p.1, p.2))) ∧ roundsS l l.length [] = roundsS l (l.length - i) has := ⟨_, fun _ _ _ => Iff.rfl⟩
  refine wC_loop I l.length (by omega) ((hI _ _ _).2 ⟨0, [], by omega, by simp only [XZ, simprocAttr, f2], by simp only [XZ, simprocAttr, f3], by simp only [XZ, simprocAttr], by simp only [XZ, simprocAttr], by simp only [XZ, simprocAttr] <;> rfl, g5, ⟨th, mh⟩, rfl⟩) ?_
  clear f2 f3 f5
  intro j fr S hIj
  obtain ⟨i, has, hj, f2, f3, f8, f38, f39, hg, hmob, hrec⟩ := (hI _ _ _).1 hIj
  by_cases hi : i < l.length
  ·have hi' : (i : Int) < l.length := by omega
   have hadd1 : IntKind.i64.wrap ((i : Int) + 1) = ((i + 1 : Nat) : Int) := by rw [i64_in (by omega) (by omega)]; rfl
   have rS := hg.cells r0'
   have hst : l.length - i = (l.length - (i + 1)) + 1 := by omega
   rw [hst, roundsS_succ] at hrec
   rw [wC_seq]; simp only [XY, simprocAttr, f38, f39, hi']
   rw [wC_seqj]; simp only [XY, simprocAttr]
   obtain ⟨J3, hJ3⟩ : ∃ J : Fr → St → Prop, ∀ fr S, J fr S ↔ (fr 2 = .ptr (up 0 n) 0 ∧ fr 3 = .ptr (up 1 n) 0 ∧ fr 8 = .map rh ∧ fr 38 = .int .i64 l.length ∧ fr 39 = .int .i64 i ∧ Gr S4 S ∧ ∃ u, S.row rh = .mob u ((hasE (roundS l has)).map fun p => (ofL p.1, p.2))) := ⟨_, fun _ _ => Iff.rfl⟩
   refine wC_cut J3 ?_ ?_
   ·simp only [XY, simprocAttr]
    rw [wC_seq]; simp only [XY, simprocAttr, f2, rS, l1]
    obtain ⟨I2, hI2⟩ : ∃ I : Nat → Fr → St → Prop, ∀ j fr S, I j fr S ↔ ∃ (k : Nat) (hk : List (Str × Bool)), j + k = l.length ∧ fr 2 = .ptr (up 0 n) 0 ∧ fr 3 = .ptr (up 1 n) 0 ∧ fr 8 = .map rh ∧ fr 38 = .int .i64 l.length ∧ fr 39 = .int .i64 i ∧ fr 42 = tv ∧ fr 43 = .int .i64 l.length ∧ fr 44 = .int .i64 k ∧ Gr S4 S ∧ (∃ u, S.row rh = .mob u ((hasE hk).map fun p => (ofL p.1, p.2))) ∧ roundS l has = roundS (l.drop k) hk := ⟨_, fun _ _ _ => Iff.rfl⟩
    refine wC_loop I2 l.length (by omega) ((hI2 _ _ _).2 ⟨0, has, by omega, by simp only [XZ, simprocAttr, f2], by simp only [XZ, simprocAttr, f3], by simp only [XZ, simprocAttr, f8], by simp only [XZ, simprocAttr, f38], by simp only [XZ, simprocAttr, f39], by simp only [XZ, simprocAttr], by simp only [XZ, simprocAttr], by simp only [XZ, simprocAttr] <;> rfl, hg, hmob, rfl⟩) ?_
    clear f2 f3 f8 f38 f39
    intro j2 fr S hIj
    obtain ⟨k, hk, hj2, f2, f3, f8, f38, f39, f42, f43, f44, hg, ⟨th, hmob⟩, hrec2⟩ := (hI2 _ _ _).1 hIj
    by_cases hkl : k < l.length
    ·have hkl' : (k : Int) < l.length := by omega
     have hadd2 : IntKind.i64.wrap ((k : Int) + 1) = ((k + 1 : Nat) : Int) := by rw [i64_in (by omega) (by omega)]; rfl
     obtain ⟨r, q, nv1, kv1, a1, a3, a4, hty, d1, d2, d3, d4⟩ := nm_elem h2 (keep4 hg) hkl
     have hcnt : cntT l[k].2 < 1000000 := by
      have := cnt_kid (ks := l.map Prod.snd) (i := k) (by simpa using hkl)
      rw [List.getElem_map] at this
      omega
     rw [List.drop_eq_getElem_cons hkl, roundS_cons] at hrec2
     obtain ⟨N, hN'⟩ : ∃ N, N = l[k].1 := ⟨_, rfl⟩
     obtain ⟨T, hT⟩ : ∃ T, T = l[k].2 := ⟨_, rfl⟩
     rw [← hT] at hty hcnt
     rw [← hN', ← hT] at a4 hrec2
     have wS := hg.wf
     obtain ⟨nS, hnS⟩ : ∃ n, S.nx = up 0 n := ⟨_, up0 _⟩
     have oq := fun k => nes (ne_up wS hnS a3 k)
     rw [wC_seq]; simp only [XY, simprocAttr, f43, f44, hkl']
     rw [wC_seqj]; simp only [XY, simprocAttr]
     rw [wC_seqj]; simp only [XY, simprocAttr]
     rw [wC_seq]; simp only [XY, simprocAttr, f42, f44, a1, a4, hnS, oq, d1, d2, d3, d4]
     obtain ⟨S1, hS1⟩ : ∃ S1, S1 = ((S.new fun t => .cells t [ofL [], .int .i64 0, ofL [], .snil, .snil]).wr (up 0 nS) S.t fun u => .cells u [ofL N, .int .i64 T.kind, ofL T.name, nv1, kv1]) := ⟨_, rfl⟩
     have g1 : Gr S S1 := by rw [hS1]; exact (Gr.refl wS).nw hnS (good_cells _) (good_cells _)
     obtain ⟨t1, rb⟩ : ∃ t, S1.row (up 0 nS) = .cells t [ofL N, .int .i64 T.kind, ofL T.name, nv1, kv1] := ⟨_, by rw [hS1]; simp only [XZ, simprocAttr, hnS]; rfl⟩
     rw [← hS1]
     have hmne : S.row rh ≠ .none := by rw [hmob]; exact fun e => by cases e
     have m1 : S1.row rh = .mob th ((hasE hk).map fun p => (ofL p.1, p.2)) := by rw [g1.same rh hmne, hmob]
     have hlk := lookup_at (enc := ofL) (e := .one .s) ⟨th, m1⟩ (.bool false) false N (str_heq N _) rfl
     rw [at_has] at hlk
     have G1 := hg.trans g1
     have stp : ∀ (S6 : St) (b : Bool), Gr S1 S6 → b = (gB N hk || endsS (fun x => gB x hk) T 1) → Gr S4 (S6.wr rh th fun u => .mob u ((hasE (sB N b hk)).map fun p => (ofL p.1, p.2))) ∧ (∃ u, (S6.wr rh th fun u => .mob u ((hasE (sB N b hk)).map fun p => (ofL p.1, p.2))).row rh = .mob u ((hasE (sB N b hk)).map fun p => (ofL p.1, p.2))) ∧ roundS l has = roundS (l.drop (k + 1)) (sB N b hk) := fun S6 b g hb => by
      have m6 : S6.row rh = .mob th ((hasE hk).map fun p => (ofL p.1, p.2)) := by rw [g.same rh (by rw [m1]; exact fun e => by cases e), m1]
      exact ⟨(G1.trans g).wr qh (by rw [m6]; exact fun e => by cases e) (by rw [m6]; rfl) (good_mob _), ⟨_, row_wr_same _ _ _ _⟩, by rw [hrec2, hb]⟩
     cases hb : gB N hk with
     | true =>
       have hup := mupd_at (enc := ofL) (e := .one .s) m1 N (.bool true) (str_heq N _) rfl
       rw [set_has] at hup
       obtain ⟨s1, s2, s3⟩ := stp S1 true (Gr.refl g1.wf) (by rw [hb]; rfl)
       rw [hb] at hlk
       simp only [XZ, simprocAttr, f8, hlk, hup, apartAll_nil, f44, hadd2]
       exact ⟨l.length - (k + 1), by omega, (hI2 _ _ _).2 ⟨k + 1, _, by omega, by simp only [XZ, simprocAttr, f2], by simp only [XZ, simprocAttr, f3], by simp only [XZ, simprocAttr, f8], by simp only [XZ, simprocAttr, f38], by simp only [XZ, simprocAttr, f39], by simp only [XZ, simprocAttr, f42], by simp only [XZ, simprocAttr, f43], by simp only [XZ, simprocAttr], s1, s2, s3⟩⟩
     | false =>
       rw [hb] at hlk
       simp only [XY, simprocAttr, f8, hlk, rb]
       refine wCall_marked (endsC _ T (Nat.lt_succ_self _) P _ rh hk _ 1 (wf_low g1.wf S1.t) ⟨th, m1⟩ ((hty.gr g1).imp fun r p _ => ⟨p, rfl⟩) (by decide) (by omega)) ?_
       rintro _ S6 g6 rfl
       have m6 : S6.row rh = .mob th ((hasE hk).map fun p => (ofL p.1, p.2)) := by rw [g6.same rh (by rw [m1]; exact fun e => by cases e), m1]
       obtain ⟨b, hbb⟩ : ∃ b, b = endsS (fun x => gB x hk) T 1 := ⟨_, rfl⟩
       rw [← hbb]
       have hup := mupd_at (enc := ofL) (e := .one .s) m6 N (.bool b) (str_heq N _) rfl
       rw [set_has] at hup
       obtain ⟨s1, s2, s3⟩ := stp S6 b g6 (by rw [hb, hbb]; rfl)
       simp only [XZ, simprocAttr, hup, apartAll_nil, f44, hadd2]
       exact ⟨l.length - (k + 1), by omega, (hI2 _ _ _).2 ⟨k + 1, _, by omega, by simp only [XZ, simprocAttr, f2], by simp only [XZ, simprocAttr, f3], by simp only [XZ, simprocAttr, f8], by simp only [XZ, simprocAttr, f38], by simp only [XZ, simprocAttr, f39], by simp only [XZ, simprocAttr, f42], by simp only [XZ, simprocAttr, f43], by simp only [XZ, simprocAttr], s1, s2, s3⟩⟩
    ·have hkl' : ¬ (k : Int) < l.length := by omega
     rw [List.drop_eq_nil_of_le (by omega)] at hrec2
     have hrec2 : roundS l has = hk := hrec2
     simp only [XZ, simprocAttr, f43, f44, hkl']
     exact (hJ3 _ _).2 ⟨by simp only [XZ, simprocAttr, f2], by simp only [XZ, simprocAttr, f3], by simp only [XZ, simprocAttr, f8], by simp only [XZ, simprocAttr, f38], by simp only [XZ, simprocAttr, f39], hg, th, by rw [hrec2]; exact hmob⟩
   clear f2 f3 f8 f38 f39
   intro fr S hJf
   obtain ⟨f2, f3, f8, f38, f39, hg, hmob⟩ := (hJ3 _ _).1 hJf
   simp only [XZ, simprocAttr, f39, hadd1]
   exact ⟨l.length - (i + 1), by omega, (hI _ _ _).2 ⟨i + 1, _, by omega, by simp only [XZ, simprocAttr, f2], by simp only [XZ, simprocAttr, f3], by simp only [XZ, simprocAttr, f8], by simp only [XZ, simprocAttr, f38], by simp only [XZ, simprocAttr], hg, hmob, hrec⟩⟩
  ·have hi' : ¬ (i : Int) < l.length := by omega
   have h0 : l.length - i = 0 := by omega
   rw [h0] at hrec
   have hrec : roundsS l l.length [] = has := hrec
   simp only [XZ, simprocAttr, f38, f39, hi']
   exact (hJ2 _ _).2 ⟨by simp only [XZ, simprocAttr, f3], by simp only [XZ, simprocAttr, f8], hg, by rw [hrec]; exact hmob⟩
 clear f2 f3 f5
 intro fr S hJf
 obtain ⟨f3, f8, hg, ⟨u, hmob⟩⟩ := (hJ2 _ _).1 hJf
 have rS := hg.cells r1'
 simp only [XZ, simprocAttr, f3, f8, rS, ct1, ct2, ct3, ct4]
 refine wCall_plain (endsC _ t (Nat.lt_succ_self _) P S rh (roundsS l l.length []) _ 1 hg.wf ⟨u, hmob⟩ (ht0.imp fun r p e => ⟨p, keep4 hg r e⟩) (by decide) (by omega)) ?_
 rintro _ S6 ⟨g6, rfl⟩
 simp only [XZ, simprocAttr]
 exact fin _ _ (keep4 (hg.trans g6)) fun _ => rfl
theorem finiteC {P : Pt → Prop} {st : St} {e1 e2 : List V} {s : Sch} {t : Ty} (hw : WF st) (h : SchC P st e1 s) (ht : TyC P st e2 t) (hl : s.types.length ≤ 1000) (hd : (s.types.map Prod.fst).Nodup) :
  Does (tabT tabD) n_shape_Finite [.agg e1, .agg e2] st fun v' st' => Gr st st' ∧ v' = .bool (finS s.types t) :=
 finiteP (P := fun r => P r ∧ st.row r ≠ .none) hw (h.imp fun r p e => ⟨⟨p, e⟩, rfl⟩) (ht.imp fun r p e => ⟨⟨p, e⟩, rfl⟩) (fun r p => p.2) hl hd
set_option maxHeartbeats 8000000 in
theorem checkP {P : Pt → Prop} {st : St} {e1 : List V} {s : Sch} (hw : WF st) (h : SchC P st e1 s) (hP : ∀ r, P r → st.row r ≠ .none) :
  Does (tabT tabD) n_shape_Check [.agg e1] st fun v' st' => Gr st st' ∧ v' = .int .i64 (checkS s) := by
 refine does_fnG tabM at_shape_Check rfl hw fun K fin => ?_
 obtain ⟨n, hn0⟩ : ∃ n, st.nx = up 0 n := ⟨_, up0 _⟩
 have hchk := checkS_eq s
 have hev := everyS_eq s
 have hsch := h
 obtain ⟨c, tv, sv, rfl, h1, h2, h3⟩ := h
 obtain ⟨M, hM⟩ : ∃ M, M = s.main := ⟨_, rfl⟩
 obtain ⟨l, hll⟩ : ∃ l, l = s.types := ⟨_, rfl⟩
 obtain ⟨fs, hfs⟩ : ∃ l, l = s.sigs := ⟨_, rfl⟩
 rw [← hM] at h1
 rw [← hll] at h2
 rw [← hfs] at h3
 rw [← hll, ← hM, ← hfs] at hchk hev
 have hM0 := h1
 obtain ⟨nv, kv, es, rfl, x1, x2, x3, x4⟩ := h1.inv
 have l1 := h2.len
 have l2 := h3.len
 have cs1 := x1.cells
 have cs2 := x1.sc
 have cs3 := x2.cells
 have cs4 := x2.sc
 have cv1 := h2.sc
 have cv2 := h3.sc
 simp only [cf_shape_Check, XY, simprocAttr]
 rw [wC_seq]; simp only [XY, simprocAttr, hn0, cs1, cs2, cs3, cs4, cv1.1, cv1.2, cv2.1, cv2.2]
 obtain ⟨S, hS⟩ : ∃ S0, S0 = (st.new fun t => .cells t [.int .i64 M.kind, ofL M.name, nv, kv, tv, sv]) := ⟨_, rfl⟩
 have g0 : Gr st S := by rw [hS]; exact Gr.new hw (good_cells _)
 obtain ⟨t0, r0⟩ : ∃ t, S.row (up 0 n) = .cells t [.int .i64 M.kind, ofL M.name, nv, kv, tv, sv] := ⟨_, by rw [hS]; simp only [XZ, simprocAttr, hn0]; rfl⟩
 rw [← hS]
 clear hS
 by_cases b1 : 12 < l.length
 ·have b1' : (12 : Int) < l.length := by omega
  rw [wC_seqj, wC_seq]; simp only [XZ, simprocAttr, r0, l1, b1']
  refine fin _ _ (fun r e => g0.same r e) fun _ => ?_
  rw [hchk, if_pos (.inl b1)]
 have b1' : ¬ (12 : Int) < l.length := by omega
 by_cases b2 : 12 < fs.length
 ·have b2' : (12 : Int) < fs.length := by omega
  rw [wC_seqj, wC_seq]; simp only [XZ, simprocAttr, r0, l1, l2, b1', b2']
  refine fin _ _ (fun r e => g0.same r e) fun _ => ?_
  rw [hchk, if_pos (.inr b2)]
 have b2' : ¬ (12 : Int) < fs.length := by omega
 rw [if_neg (fun h => by rcases h with h | h; exact b1 h; exact b2 h)] at hchk
 rw [wC_seqj, wC_seq]; simp only [XY, simprocAttr, r0, l1, l2, b1', b2']
 rw [wC_seqj, wC_seq]; simp only [XY, simprocAttr, r0]
 refine wCall_plain (typesC (P := P) g0.wf (h2.imp (fun e x h => h.imp fun r p e => ⟨p, g0.same r e⟩) fun r p e => ⟨p, g0.same r e⟩) (by omega)) ?_
 rintro _ S1 ⟨g1, rfl⟩
 have G1 := g0.trans g1
 have r0 := g1.cells r0
 by_cases ht0 : typesS none (l.map Prod.fst) = 0
 rotate_left
 ·simp only [XZ, simprocAttr, ht0]
  refine fin _ _ (fun r e => G1.same r e) fun _ => ?_
  rw [hchk, if_pos ht0]
 rw [if_neg (fun h => h ht0)] at hchk
 have hnd := typesS_nodup ht0
 simp only [XY, simprocAttr]
 rw [wC_seq]; simp only [XY, simprocAttr, ht0]
 rw [wC_seq]; simp only [XY, simprocAttr, r0]
 refine wCall_plain (namedC (P := P) g1.wf (hsch.imp fun r p e => ⟨p, G1.same r e⟩) (by rw [← hll]; omega) (by rw [← hll]; exact hnd)) ?_
 rintro _ S2 ⟨g2, rm, rfl, hrm, hnm⟩
 rw [← hll] at hnm
 have r0 := g2.cells r0
 have G2 := G1.trans g2
 have w2 := g2.wf
 obtain ⟨n2, hn2⟩ : ∃ n, S2.nx = up 0 n := ⟨_, up0 _⟩
 simp only [XY, simprocAttr, hn2, sc_mnil, cells_mnil]
 obtain ⟨S3, hS3⟩ : ∃ S3, S3 = (S2.new fun t => .cells t [.map rm, .int .i64 0]) := ⟨_, rfl⟩
 have g3 : Gr S2 S3 := by rw [hS3]; exact Gr.new w2 (good_cells _)
 obtain ⟨kr, hkr⟩ : ∃ p, p = up 0 n2 := ⟨_, rfl⟩
 obtain ⟨tk, rk⟩ : ∃ u, S3.row kr = .cells u [.map rm, .int .i64 0] := ⟨_, by rw [hS3, hkr]; simp only [XZ, simprocAttr, hn2]; rfl⟩
 have qk2 : S2.row kr = .none := by rw [hkr]; exact nx0 w2 hn2 0
 rw [← hS3, ← hkr]
 clear hS3
 have G3 := G2.trans g3
 have n0k : up 0 n ≠ kr := fun h => by rw [h, qk2] at r0; cases r0
 have r0 := g3.cells r0
 have hmn : S2.row rm ≠ .none := by obtain ⟨_, h, _⟩ := hnm; exact h.ne
 have qk : st.row kr = .none := Ch.fresh (Ch.of (fun _ => False) G2) qk2
 have old_k : ∀ r, st.row r ≠ .none → r ≠ kr := fun r e h => e (by rw [h]; exact qk)
 have L3 : LookAt P S3 kr rm l 0 :=
  ⟨hnm.imp (g3.same rm hmn) fun r p e => ⟨p, g3.same r e⟩, ⟨tk, rk⟩, fun r p => old_k r (hP r p), fun e => hmn (by rw [e]; exact qk2)⟩
 have keep : ∀ {S' : St}, Ch (fun r => r = kr) S3 S' → ∀ r, st.row r ≠ .none → S'.row r = st.row r := fun c r e => by rw [c.same r (by rw [G3.same r e]; exact e) (old_k r e), G3.same r e]
 have kcell : ∀ {S' : St} {p : Pt} {u : Nat} {x : List V}, Ch (fun r => r = kr) S3 S' → S3.row p = .cells u x → p ≠ kr → S'.row p = .cells u x := fun c e n => by rw [c.same _ (ne_cells e) n, e]
 obtain ⟨J1, hJ1⟩ : ∃ J : Fr → St → Prop, ∀ fr S, J fr S ↔ (fr 1 = .ptr (up 0 n) 0 ∧ fr 4 = .ptr kr 0 ∧ Ch (fun r => r = kr) S3 S ∧ LookAt P S kr rm l (maysS (hasN l) (l.map Prod.snd) 1 0).2 ∧ (maysS (hasN l) (l.map Prod.snd) 1 0).1 = 0) := ⟨_, fun _ _ => Iff.rfl⟩
 refine wC_cut J1 ?_ ?_
 ·rw [wC_seq]; simp only [XY, simprocAttr, r0, l1]
  obtain ⟨I, hI⟩ : ∃ I : Nat → Fr → St → Prop, ∀ j fr S, I j fr S ↔ ∃ (i met : Nat), j + i = l.length ∧ fr 1 = .ptr (up 0 n) 0 ∧ fr 4 = .ptr kr 0 ∧ fr 33 = tv ∧ fr 34 = .int .i64 l.length ∧ fr 35 = .int .i64 i ∧ Ch (fun r => r = kr) S3 S ∧ LookAt P S kr rm l met ∧ met ≤ 400 ∧ maysS (hasN l) (l.map Prod.snd) 1 0 = maysS (hasN l) ((l.map Prod.snd).drop i) 1 met := ⟨_, fun _ _ _ => Iff.rfl⟩
  refine wC_loop I l.length (by omega) ((hI _ _ _).2 ⟨0, 0, by omega, by simp only [XZ, simprocAttr], by simp only [XZ, simprocAttr], by simp only [XZ, simprocAttr], by simp only [XZ, simprocAttr], by simp only [XZ, simprocAttr] <;> rfl, Ch.refl _ g3.wf, L3, by omega, rfl⟩) ?_
  intro j fr S hIj
  obtain ⟨i, met, hj, f1, f4, f33, f34, f35, hC, hL, hmet, hrec⟩ := (hI _ _ _).1 hIj
  by_cases hi : i < l.length
  ·have hi' : (i : Int) < l.length := by omega
   obtain ⟨r, q, nv1, kv1, a1, a3, a4, hty, d1, d2, d3, d4⟩ := nm_elem h2 (keep hC) hi
   obtain ⟨N, hN'⟩ : ∃ N, N = l[i].1 := ⟨_, rfl⟩
   obtain ⟨T, hT⟩ : ∃ T, T = l[i].2 := ⟨_, rfl⟩
   rw [← hT] at hty
   rw [← hN', ← hT] at a4
   have hd : (l.map Prod.snd).drop i = T :: (l.map Prod.snd).drop (i + 1) := by
    rw [List.drop_eq_getElem_cons (by simpa using hi), List.getElem_map, ← hT]
   rw [hd, maysS_cons] at hrec
   have wS := hC.wf
   obtain ⟨nS, hnS⟩ : ∃ n, S.nx = up 0 n := ⟨_, up0 _⟩
   have oq := fun k => nes (ne_up wS hnS a3 k)
   have hadd1 : IntKind.i64.wrap ((i : Int) + 1) = ((i + 1 : Nat) : Int) := by rw [i64_in (by omega) (by omega)]; rfl
   rw [wC_seq]; simp only [XY, simprocAttr, f34, f35, hi']
   rw [wC_seqj]; simp only [XY, simprocAttr]
   rw [wC_seqj]; simp only [XY, simprocAttr]
   rw [wC_seq]; simp only [XY, simprocAttr, f33, f35, a1, a4, hnS, oq, d1, d2, d3, d4]
   obtain ⟨S4, hS4⟩ : ∃ S1, S1 = ((S.new fun t => .cells t [ofL [], .int .i64 0, ofL [], .snil, .snil]).wr (up 0 nS) S.t fun u => .cells u [ofL N, .int .i64 T.kind, ofL T.name, nv1, kv1]) := ⟨_, rfl⟩
   have g4 : Gr S S4 := by rw [hS4]; exact (Gr.refl wS).nw hnS (good_cells _) (good_cells _)
   obtain ⟨t4, r4⟩ : ∃ t, S4.row (up 0 nS) = .cells t [ofL N, .int .i64 T.kind, ofL T.name, nv1, kv1] := ⟨_, by rw [hS4]; simp only [XZ, simprocAttr, hnS]; rfl⟩
   rw [← hS4]
   rw [wC_seq]; simp only [XY, simprocAttr, f4, r4]
   refine wCall_plain (mayD (deep := 1) g4.wf (hL.gr g4) (hty.gr g4) (by decide) hmet) ?_
   rintro _ S5 ⟨c5, L5, rfl⟩
   have C5 : Ch (fun r => r = kr) S3 S5 := (hC.trans (Ch.of _ g4) fun r w => .inl w).trans c5 fun r w => .inl w
   have hm4 := mayS_met (hasN l) T 1 met hmet
   by_cases he : (mayS (hasN l) T 1 met).1 = 0
   ·rw [if_neg (by simpa using he)] at hrec
    simp only [XZ, simprocAttr, he, f35, hadd1]
    exact ⟨l.length - (i + 1), by omega, (hI _ _ _).2 ⟨i + 1, _, by omega, by simp only [XZ, simprocAttr, f1], by simp only [XZ, simprocAttr, f4], by simp only [XZ, simprocAttr, f33], by simp only [XZ, simprocAttr, f34], by simp only [XZ, simprocAttr], C5, L5, hm4.2 he, hrec⟩⟩
   ·rw [if_pos (by simpa using he)] at hrec
    simp only [XZ, simprocAttr, he]
    refine fin _ _ (keep C5) fun _ => ?_
    rw [hchk, hrec, if_pos he]
  ·have hi' : ¬ (i : Int) < l.length := by omega
   rw [List.drop_eq_nil_of_le (by simp; omega), maysS_nil] at hrec
   simp only [XZ, simprocAttr, f34, f35, hi']
   exact (hJ1 _ _).2 ⟨by simp only [XZ, simprocAttr, f1], by simp only [XZ, simprocAttr, f4], hC, by rw [hrec]; exact hL, by rw [hrec]⟩
 intro fr S hJf
 obtain ⟨f1, f4, hC, hL, hm0⟩ := (hJ1 _ _).1 hJf
 rw [if_neg (fun h => h hm0)] at hchk
 have hcn := maysS_cnt (hasN l) (l.map Prod.snd) 1 0 hm0
 have hmt := (maysS_met (hasN l) (l.map Prod.snd) 1 0 (by decide)).2 hm0
 obtain ⟨m1, hm1⟩ : ∃ m, m = (maysS (hasN l) (l.map Prod.snd) 1 0).2 := ⟨_, rfl⟩
 rw [← hm1] at hchk hL hmt hcn
 have r0' := kcell hC r0 n0k
 rw [wC_seqj, wC_seq]; simp only [XY, simprocAttr, f1, f4, r0', cs1, cs2, cs3, cs4]
 refine wCall_plain (mayD (deep := 1) hC.wf hL (hM0.imp fun r p e => ⟨p, keep hC r e⟩) (by decide) hmt) ?_
 rintro _ S4 ⟨c4, L4, rfl⟩
 have C4 : Ch (fun r => r = kr) S3 S4 := hC.trans c4 fun r w => .inl w
 by_cases he : (mayS (hasN l) M 1 m1).1 = 0
 rotate_left
 ·simp only [XZ, simprocAttr, he]
  refine fin _ _ (keep C4) fun _ => ?_
  rw [hchk, if_pos he]
 rw [if_neg (fun h => h he)] at hchk
 have hcnM := mayS_cnt (hasN l) M 1 m1 he
 have hmM := (mayS_met (hasN l) M 1 m1 hmt).2 he
 obtain ⟨m2, hm2⟩ : ∃ m, m = (mayS (hasN l) M 1 m1).2 := ⟨_, rfl⟩
 rw [← hm2] at hchk L4 hmM hcnM
 simp only [XY, simprocAttr]
 rw [wC_seq]; simp only [XY, simprocAttr, he]
 have r0' := kcell C4 r0 n0k
 rw [wC_seqj, wC_seq]; simp only [XY, simprocAttr, f1, f4, r0']
 refine wCall_plain (sigsC C4.wf L4 (h3.imp (fun e x h => h.imp fun r p e => ⟨p, keep C4 r e⟩) fun r p e => ⟨p, keep C4 r e⟩) (by omega) hmM) ?_
 rintro _ S5 ⟨c5, L5, rfl⟩
 have C5 : Ch (fun r => r = kr) S3 S5 := C4.trans c5 fun r w => .inl w
 by_cases hs0 : (sigsS (hasN l) none fs m2).1 = 0
 rotate_left
 ·simp only [XZ, simprocAttr, hs0]
  refine fin _ _ (keep C5) fun _ => ?_
  rw [hchk, if_pos hs0]
 rw [if_neg (fun h => h hs0)] at hchk
 obtain ⟨hp4, hpc, hms⟩ := sigsS_ok (hasN l) none fs m2 hmM hs0
 obtain ⟨m3, hm3⟩ : ∃ m, m = (sigsS (hasN l) none fs m2).2 := ⟨_, rfl⟩
 rw [← hm3] at L5 hms
 simp only [XY, simprocAttr]
 rw [wC_seq]; simp only [XY, simprocAttr, hs0]
 have r0' := kcell C5 r0 n0k
 have kst5 : ∀ {S' : St}, Gr S5 S' → ∀ r, st.row r ≠ .none → S'.row r = st.row r := fun g r e => by rw [g.same r (by rw [keep C5 r e]; exact e), keep C5 r e]
 obtain ⟨J2, hJ2⟩ : ∃ J : Fr → St → Prop, ∀ fr S, J fr S ↔ (fr 1 = .ptr (up 0 n) 0 ∧ fr 4 = .ptr kr 0 ∧ Gr S5 S ∧ (l.any fun p => !finS l p.2) = false) := ⟨_, fun _ _ => Iff.rfl⟩
 refine wC_cut J2 ?_ ?_
 ·rw [wC_seq]; simp only [XY, simprocAttr, f1, r0', l1]
  obtain ⟨I, hI⟩ : ∃ I : Nat → Fr → St → Prop, ∀ j fr S, I j fr S ↔ ∃ (i : Nat), j + i = l.length ∧ fr 1 = .ptr (up 0 n) 0 ∧ fr 4 = .ptr kr 0 ∧ fr 62 = tv ∧ fr 63 = .int .i64 l.length ∧ fr 64 = .int .i64 i ∧ Gr S5 S ∧ (l.any fun p => !finS l p.2) = ((l.drop i).any fun p => !finS l p.2) := ⟨_, fun _ _ _ => Iff.rfl⟩
  refine wC_loop I l.length (by omega) ((hI _ _ _).2 ⟨0, by omega, by simp only [XZ, simprocAttr, f1], by simp only [XZ, simprocAttr, f4], by simp only [XZ, simprocAttr], by simp only [XZ, simprocAttr], by simp only [XZ, simprocAttr] <;> rfl, Gr.refl C5.wf, rfl⟩) ?_
  clear f1 f4
  intro j fr S hIj
  obtain ⟨i, hj, f1, f4, f62, f63, f64, hg, hrec⟩ := (hI _ _ _).1 hIj
  by_cases hi : i < l.length
  ·have hi' : (i : Int) < l.length := by omega
   obtain ⟨r, q, nv1, kv1, a1, a3, a4, hty, d1, d2, d3, d4⟩ := nm_elem h2 (kst5 hg) hi
   rw [List.drop_eq_getElem_cons hi, List.any_cons] at hrec
   obtain ⟨N, hN'⟩ : ∃ N, N = l[i].1 := ⟨_, rfl⟩
   obtain ⟨T, hT⟩ : ∃ T, T = l[i].2 := ⟨_, rfl⟩
   rw [← hT] at hty hrec
   rw [← hN', ← hT] at a4
   have wS := hg.wf
   obtain ⟨nS, hnS⟩ : ∃ n, S.nx = up 0 n := ⟨_, up0 _⟩
   have oq := fun k => nes (ne_up wS hnS a3 k)
   have hadd1 : IntKind.i64.wrap ((i : Int) + 1) = ((i + 1 : Nat) : Int) := by rw [i64_in (by omega) (by omega)]; rfl
   rw [wC_seq]; simp only [XY, simprocAttr, f63, f64, hi']
   rw [wC_seqj]; simp only [XY, simprocAttr]
   rw [wC_seqj]; simp only [XY, simprocAttr]
   rw [wC_seq]; simp only [XY, simprocAttr, f62, f64, a1, a4, hnS, oq, d1, d2, d3, d4]
   obtain ⟨S6, hS6⟩ : ∃ S1, S1 = ((S.new fun t => .cells t [ofL [], .int .i64 0, ofL [], .snil, .snil]).wr (up 0 nS) S.t fun u => .cells u [ofL N, .int .i64 T.kind, ofL T.name, nv1, kv1]) := ⟨_, rfl⟩
   have g6 : Gr S S6 := by rw [hS6]; exact (Gr.refl wS).nw hnS (good_cells _) (good_cells _)
   obtain ⟨t6, r6⟩ : ∃ t, S6.row (up 0 nS) = .cells t [ofL N, .int .i64 T.kind, ofL T.name, nv1, kv1] := ⟨_, by rw [hS6]; simp only [XZ, simprocAttr, hnS]; rfl⟩
   rw [← hS6]
   have G6 := hg.trans g6
   have r0S := G6.cells r0'
   rw [wC_seq]; simp only [XY, simprocAttr, f1, r0S, r6]
   refine wCall_plain (finiteC (s := s) G6.wf (hsch.imp fun r p e => ⟨p, kst5 G6 r e⟩) (hty.gr g6) (by rw [← hll]; omega) (by rw [← hll]; exact hnd)) ?_
   rw [← hll]
   rintro _ S7 ⟨g7, rfl⟩
   cases hf : finS l T with
   | true =>
     rw [hf] at hrec
     simp only [XZ, simprocAttr, f64, hadd1]
     exact ⟨l.length - (i + 1), by omega, (hI _ _ _).2 ⟨i + 1, by omega, by simp only [XZ, simprocAttr, f1], by simp only [XZ, simprocAttr, f4], by simp only [XZ, simprocAttr, f62], by simp only [XZ, simprocAttr, f63], by simp only [XZ, simprocAttr], G6.trans g7, by rw [hrec]; rfl⟩⟩
   | false =>
     rw [hf] at hrec
     simp only [XZ, simprocAttr]
     refine fin _ _ (kst5 (G6.trans g7)) fun _ => ?_
     rw [hchk, hrec]; rfl
  ·have hi' : ¬ (i : Int) < l.length := by omega
   rw [List.drop_eq_nil_of_le (by omega)] at hrec
   simp only [XZ, simprocAttr, f63, f64, hi']
   exact (hJ2 _ _).2 ⟨by simp only [XZ, simprocAttr, f1], by simp only [XZ, simprocAttr, f4], hg, hrec⟩
 clear f1 f4
 intro fr S hJf
 obtain ⟨f1, f4, hg, hany⟩ := (hJ2 _ _).1 hJf
 rw [hany] at hchk
 have hchk : checkS s = if optssS l (everyS s) then 17 else 0 := hchk
 have r0S := hg.cells r0'
 rw [wC_seqj, wC_seq]; simp only [XY, simprocAttr, f1, r0S, cs1, cs2, cs3, cs4, cv1.1, cv1.2, cv2.1, cv2.2]
 refine wCall_plain (everyC (P := P) (Q := fun r => P r ∨ S.row r = .none) hg.wf (hsch.imp fun r p e => ⟨p, kst5 hg r e⟩) (by rw [← hll]; omega) (by rw [← hfs]; omega) (fun f hf => by have := hp4 f (by rw [hfs]; exact hf); omega) (fun r p => .inl p) fun r p => .inr p) ?_
 rintro ev S6 ⟨g6, hevl⟩
 have kS : S.row kr ≠ .none := by rw [hg.same kr L5.krne]; exact L5.krne
 have LS : LookAt (fun r => P r ∨ S.row r = .none) S kr rm l m3 := by
  have := L5.gr hg
  exact ⟨this.map.imp rfl fun r p _ => ⟨.inl p, rfl⟩, this.cell, fun r p => by rcases p with p | p; exact this.sep r p; exact fun e => kS (by rw [← e]; exact p), this.ne⟩
 have hcnt : ∀ t ∈ everyS s, cntT t < 1000000 := fun t ht => by
  rw [hev] at ht
  rcases List.mem_append.1 ht with ht | ht
  ·rcases List.mem_append.1 ht with ht | ht
   ·have := cnt_mem ht; omega
   ·rw [List.mem_singleton.1 ht]; omega
  ·unfold sgTys at ht
   obtain ⟨x, hx, htx⟩ := List.mem_flatten.1 ht
   obtain ⟨f, hf, rfl⟩ := List.mem_map.1 hx
   have h5 := cnt_mem htx
   have h6 := hpc f hf
   omega
 have hlenE : (everyS s).length < 1000000 := by
  have hk := sgTys_len fs fun f hf => by have := hp4 f hf; omega
  rw [hev]
  simp only [List.length_append, List.length_map, List.length_singleton]
  omega
 simp only [XY, simprocAttr, f4]
 refine wCall_plain (containsFuncC (fa := [.ptr kr 0]) (fb := []) (optsS l) g6.wf hevl hlenE fun i hi S' E' g' hE' => optsC _ _ (Nat.lt_succ_self _) _ S' kr rm l m3 E' g'.wf (LS.gr (g6.trans g')) hE' (by omega) (hcnt _ (List.getElem_mem hi))) ?_
 rintro _ S7 ⟨g7, rfl⟩
 rw [optssS_any] at hchk
 have GF := kst5 (hg.trans (g6.trans g7))
 cases ho : (everyS s).any (optsS l) with
 | true =>
   simp only [XZ, simprocAttr]
   refine fin _ _ GF fun _ => ?_
   rw [hchk, ho]; rfl
 | false =>
   simp only [XZ, simprocAttr]
   refine fin _ _ GF fun _ => ?_
   rw [hchk, ho]; rfl
theorem checkC {P : Pt → Prop} {st : St} {e1 : List V} {s : Sch} (hw : WF st) (h : SchC P st e1 s) :
  Does (tabT tabD) n_shape_Check [.agg e1] st fun v' st' => Gr st st' ∧ v' = .int .i64 (checkS s) :=
 checkP (P := fun r => P r ∧ st.row r ≠ .none) hw (h.imp fun r p e => ⟨⟨p, e⟩, rfl⟩) fun r p => p.2
set_option maxHeartbeats 8000000 in
theorem newC {P : Pt → Prop} {st : St} {e1 : List V} {s : Sch} (hw : WF st) (h : SchC P st e1 s) :
  Does (tabT tabD) n_cons_New [.agg e1] st fun v S => Gr st S ∧ NewX st v S (newS s) := by
 refine does_fnG tabM at_cons_New rfl hw fun K fin => ?_
 obtain ⟨n, hn0⟩ : ∃ n, st.nx = up 0 n := ⟨_, up0 _⟩
 have hnew := newS_eq s
 have hsch := h
 obtain ⟨c, tv, sv, rfl, h1, h2, h3⟩ := h
 obtain ⟨M, hM⟩ : ∃ M, M = s.main := ⟨_, rfl⟩
 obtain ⟨l, hll⟩ : ∃ l, l = s.types := ⟨_, rfl⟩
 obtain ⟨fs, hfs⟩ : ∃ l, l = s.sigs := ⟨_, rfl⟩
 rw [← hM] at h1
 rw [← hll] at h2
 rw [← hfs] at h3
 rw [← hll, ← hM, ← hfs] at hnew
 have hM0 := h1
 obtain ⟨nv, kv, es, rfl, x1, x2, x3, x4⟩ := h1.inv
 have l1 := h2.len
 have l2 := h3.len
 have cs1 := x1.cells
 have cs2 := x1.sc
 have cs3 := x2.cells
 have cs4 := x2.sc
 have cv1 := h2.sc
 have cv2 := h3.sc
 simp only [cf_cons_New, XY, simprocAttr]
 rw [wC_seq]; simp only [XY, simprocAttr, hn0, cs1, cs2, cs3, cs4, cv1.1, cv1.2, cv2.1, cv2.2]
 obtain ⟨S0, hS0⟩ : ∃ S0, S0 = (st.new fun t => .cells t [.int .i64 M.kind, ofL M.name, nv, kv, tv, sv]) := ⟨_, rfl⟩
 have g0 : Gr st S0 := by rw [hS0]; exact Gr.new hw (good_cells _)
 obtain ⟨t0, r0⟩ : ∃ t, S0.row (up 0 n) = .cells t [.int .i64 M.kind, ofL M.name, nv, kv, tv, sv] := ⟨_, by rw [hS0]; simp only [XZ, simprocAttr, hn0]; rfl⟩
 rw [← hS0]
 clear hS0
 rw [wC_seqj, wC_seq]; simp only [XY, simprocAttr, r0, cs1, cs2, cs3, cs4, cv1.1, cv1.2, cv2.1, cv2.2]
 refine wCall_plain (checkC (P := P) g0.wf (hsch.imp fun r p e => ⟨p, g0.same r e⟩)) ?_
 rintro _ S1 ⟨g1, rfl⟩
 have G1 := g0.trans g1
 by_cases hc : checkS s = 0
 rotate_left
 ·simp only [XZ, simprocAttr, hc]
  refine fin _ _ (fun r e => G1.same r e) fun _ => ?_
  rw [hnew, if_pos hc]; exact rfl
 rw [if_neg (fun h => h hc)] at hnew
 obtain ⟨hl12, hs12, _, _, _, hp4⟩ := checkS_ok hc
 rw [← hll] at hl12
 rw [← hfs] at hs12 hp4
 simp only [XY, simprocAttr]
 rw [wC_seq]; simp only [XY, simprocAttr, hc]
 have w1 := g1.wf
 obtain ⟨n1, hn1⟩ : ∃ n, S1.nx = up 0 n := ⟨_, up0 _⟩
 rw [wC_seq]; simp only [XY, simprocAttr, hn1, sc_mnil, cells_mnil]
 obtain ⟨S2, hS2⟩ : ∃ S2, S2 = ((((S1.new fun t => .mob t []).new fun t => .mob t []).new fun t => .mob t []).new fun t => .cells t [.snil, .map (up 0 n1), .map (up 1 n1), .int .i64 0, .map (up 2 n1)]) := ⟨_, rfl⟩
 have g2 : Gr S1 S2 := by rw [hS2]; exact (((Gr.new w1 (good_mob _)).nn (good_mob _)).nn (good_mob _)).nn (good_cells _)
 have hT : Tab (fun r => r = up 0 n1 ∨ r = up 1 n1 ∨ r = up 2 n1 ∨ r = up 3 n1) (fun _ => False) S2 (up 3 n1) emptyTb := by
  refine ⟨.snil, up 0 n1, up 1 n1, up 2 n1, [], [], ⟨⟨_, by rw [hS2]; simp only [XZ, simprocAttr, hn1]; rfl⟩, ⟨.inr (.inr (.inr rfl)), .inl rfl, .inr (.inl rfl), .inr (.inr (.inl rfl))⟩, ?_, fun r f => f.elim, ⟨?_, ?_, ?_⟩, ⟨rfl, .inl ⟨rfl, rfl⟩⟩, fun e h => absurd h (by simp), rfl, fun i h => absurd h (by simp), fun n h => absurd h (by simp [emptyTb]), by decide, ⟨_, by rw [hS2]; simp only [XZ, simprocAttr, hn1]; rfl⟩, ⟨_, by rw [hS2]; simp only [XZ, simprocAttr, hn1]; rfl⟩, ⟨_, by rw [hS2]; simp only [XZ, simprocAttr, hn1]; rfl⟩, rfl, fun i h => absurd h (by simp)⟩⟩
  ·intro r hr
   rcases hr with e | e | e | e
   all_goals rw [hS2, e]; simp only [XZ, simprocAttr, hn1]
   all_goals exact fun e => by cases e
  ·rw [up_ne]; decide
  ·rw [up_ne]; decide
  ·rw [up_ne]; decide
 rw [← hS2]
 obtain ⟨W2, hW2⟩ : ∃ W : Pt → Prop, W = fun r => r = up 0 n1 ∨ r = up 1 n1 ∨ r = up 2 n1 ∨ r = up 3 n1 := ⟨_, rfl⟩
 obtain ⟨rt, hrt⟩ : ∃ p, p = up 3 n1 := ⟨_, rfl⟩
 rw [← hW2, ← hrt] at hT
 rw [← hrt]
 have T2 : TabX S2 W2 rt emptyTb := ⟨g2.wf, _, hT⟩
 have K2 : Kept S1 (fun _ => False) S2 W2 := fun r e _ => ⟨g2.same r e, fun w => by
  rw [hW2] at w
  rcases w with w | w | w | w <;> exact e (by rw [w]; exact nx0 w1 hn1 _)⟩
 have K02 : Kept S0 (fun _ => False) S2 W2 := fun r e n => by
  obtain ⟨a, b⟩ := K2 r (by rw [g1.same r e]; exact e) n
  exact ⟨by rw [a, g1.same r e], b⟩
 clear hS2 hW2 hrt hT
 have kst : ∀ {S : St} {W : Pt → Prop}, Kept S0 (fun _ => False) S W → ∀ r, st.row r ≠ .none → S.row r = st.row r := fun k r e => by
  rw [(k r (by rw [g0.same r e]; exact e) fun h => h).1, g0.same r e]
 have kty : ∀ {S : St} {W : Pt → Prop} {e : List V} {t : Ty}, Kept S0 (fun _ => False) S W → TyC P st e t → TyC (fun r => ¬ W r) S e t := fun k h => h.imp fun r p e => ⟨(k r (by rw [g0.same r e]; exact e) fun h => h).2, kst k r e⟩
 have kcell : ∀ {S : St} {W : Pt → Prop}, Kept S0 (fun _ => False) S W → S.row (up 0 n) = .cells t0 [.int .i64 M.kind, ofL M.name, nv, kv, tv, sv] := fun k => k.row r0 fun h => h
 obtain ⟨J1, hJ1⟩ : ∃ J : Fr → St → Prop, ∀ fr S, J fr S ↔ (∃ W, fr 1 = .ptr (up 0 n) 0 ∧ fr 5 = .ptr rt 0 ∧ TabX S W rt (addDefs l emptyTb).1 ∧ Kept S0 (fun _ => False) S W ∧ (addDefs l emptyTb).2 = 0) := ⟨_, fun _ _ => Iff.rfl⟩
 refine wC_cut J1 ?_ ?_
 ·rw [wC_seq]; simp only [XY, simprocAttr, kcell K02, l1]
  obtain ⟨I, hI⟩ : ∃ I : Nat → Fr → St → Prop, ∀ j fr S, I j fr S ↔ ∃ (i : Nat) (W : Pt → Prop) (tb : Tb), j + i = l.length ∧ fr 1 = .ptr (up 0 n) 0 ∧ fr 5 = .ptr rt 0 ∧ fr 30 = tv ∧ fr 31 = .int .i64 l.length ∧ fr 32 = .int .i64 i ∧ TabX S W rt tb ∧ Kept S0 (fun _ => False) S W ∧ addDefs l emptyTb = addDefs (l.drop i) tb := ⟨_, fun _ _ _ => Iff.rfl⟩
  refine wC_loop I l.length (by omega) ((hI _ _ _).2 ⟨0, W2, emptyTb, by omega, by simp only [XZ, simprocAttr], by simp only [XZ, simprocAttr], by simp only [XZ, simprocAttr], by simp only [XZ, simprocAttr], by simp only [XZ, simprocAttr] <;> rfl, T2, K02, rfl⟩) ?_
  intro j fr S hIj
  obtain ⟨i, W, tb, hj, f1, f5, f30, f31, f32, hT, hK, hrec⟩ := (hI _ _ _).1 hIj
  by_cases hi : i < l.length
  ·have hi' : (i : Int) < l.length := by omega
   obtain ⟨r, q, nv1, kv1, a1, a3, a4, hty, d1, d2, d3, d4⟩ := nm_at h2 (kst hK) hi
   obtain ⟨N, hN'⟩ : ∃ N, N = l[i].1 := ⟨_, rfl⟩
   obtain ⟨T, hT'⟩ : ∃ T, T = l[i].2 := ⟨_, rfl⟩
   have hd : l.drop i = (N, T) :: l.drop (i + 1) := by rw [List.drop_eq_getElem_cons hi, hN', hT']
   rw [hd, addDefs_cons] at hrec
   rw [← hT'] at hty
   rw [← hN', ← hT'] at a4
   have wS := hT.1
   obtain ⟨nS, hnS⟩ : ∃ n, S.nx = up 0 n := ⟨_, up0 _⟩
   have oq := fun k => nes (ne_up wS hnS a3 k)
   have hadd1 : IntKind.i64.wrap ((i : Int) + 1) = ((i + 1 : Nat) : Int) := by rw [i64_in (by omega) (by omega)]; rfl
   rw [wC_seq]; simp only [XY, simprocAttr, f31, f32, hi']
   rw [wC_seqj]; simp only [XY, simprocAttr]
   rw [wC_seqj]; simp only [XY, simprocAttr]
   rw [wC_seq]; simp only [XY, simprocAttr, f30, f32, a1, a4, hnS, oq, d1, d2, d3, d4]
   obtain ⟨S3, hS3⟩ : ∃ S1, S1 = ((S.new fun t => .cells t [ofL [], .int .i64 0, ofL [], .snil, .snil]).wr (up 0 nS) S.t fun u => .cells u [ofL N, .int .i64 T.kind, ofL T.name, nv1, kv1]) := ⟨_, rfl⟩
   have g3 : Gr S S3 := by rw [hS3]; exact (Gr.refl wS).nw hnS (good_cells _) (good_cells _)
   obtain ⟨t3, r3⟩ : ∃ t, S3.row (up 0 nS) = .cells t [ofL N, .int .i64 T.kind, ofL T.name, nv1, kv1] := ⟨_, by rw [hS3]; simp only [XZ, simprocAttr, hnS]; rfl⟩
   have q3 : ¬ W (up 0 nS) := hT.own (nx0 wS hnS 0)
   rw [← hS3]
   have K3 := hK.trans (Kept.gr g3 W)
   have T3 := hT.gr g3
   rw [wC_seq]; simp only [XY, simprocAttr, f5, r3]
   refine wCall_plain (addX T3 (kty K3 hty)) ?_
   rintro _ S4 ⟨W4, T4, K4, rfl⟩
   have KK := K3.trans K4
   have r4 := K4.row r3 q3
   simp only [XY, simprocAttr]
   by_cases he : (addT T 400 tb).2.2.1 = 0
   ·rw [if_neg (fun h => h he)] at hrec
    obtain ⟨tt, lv, ra, rn, rs, rc, tm, ms, hup, T5, K5⟩ := T4.setNamed N (addT T 400 tb).2.1
    have hup := hup S4 rfl
    rw [wC_seqj, wC_seq]; simp only [XY, simprocAttr, he]
    simp only [XZ, simprocAttr, f5, rc, r4, hup, apartAll_nil, f32, hadd1]
    exact ⟨l.length - (i + 1), by omega, (hI _ _ _).2 ⟨i + 1, W4, _, by omega, by simp only [XZ, simprocAttr, f1], by simp only [XZ, simprocAttr, f5], by simp only [XZ, simprocAttr, f30], by simp only [XZ, simprocAttr, f31], by simp only [XZ, simprocAttr], T5, KK.trans K5, hrec⟩⟩
   ·rw [if_pos he] at hrec
    simp only [XZ, simprocAttr, he]
    refine fin _ _ (kst KK) fun _ => ?_
    rw [hnew, hrec, if_pos he]; exact rfl
  ·have hi' : ¬ (i : Int) < l.length := by omega
   rw [List.drop_eq_nil_of_le (by omega), addDefs] at hrec
   simp only [XZ, simprocAttr, f31, f32, hi']
   exact (hJ1 _ _).2 ⟨W, by simp only [XZ, simprocAttr, f1], by simp only [XZ, simprocAttr, f5], by rw [hrec]; exact hT, hK, by rw [hrec]⟩
 intro fr S hJf
 obtain ⟨W, f1, f5, hT, hK, hz⟩ := (hJ1 _ _).1 hJf
 rw [if_neg (fun h => h hz)] at hnew
 obtain ⟨tbA, htbA⟩ : ∃ t, t = (addDefs l emptyTb).1 := ⟨_, rfl⟩
 rw [← htbA] at hT hnew
 rw [wC_seq]; simp only [XY, simprocAttr, f1, f5, kcell hK, cs1, cs2, cs3, cs4]
 refine wCall_plain (addX hT (kty hK hM0)) ?_
 rintro _ S3 ⟨W3, T3, K3, rfl⟩
 have KK := hK.trans K3
 simp only [XY, simprocAttr]
 by_cases he : (addT M 400 tbA).2.2.1 = 0
 rotate_left
 ·rw [if_pos he] at hnew
  simp only [XZ, simprocAttr, he]
  refine fin _ _ (kst KK) fun _ => ?_
  rw [hnew]; exact rfl
 rw [if_neg (fun h => h he)] at hnew
 rw [wC_seqj, wC_seq]; simp only [XY, simprocAttr, he]
 obtain ⟨tm, lv, ra, rn, rs, rc, T4, K4⟩ := T3.setMain (addT M 400 tbA).2.1
 rw [wC_seq]; simp only [XY, simprocAttr, f5, rc]
 obtain ⟨S4, hS4⟩ : ∃ S4, S4 = (S3.wr rt tm fun u => .cells u [lv, .map ra, .map rn, .int .i64 ((addT M 400 tbA).2.1 : Nat), .map rs]) := ⟨_, rfl⟩
 rw [← hS4] at T4 K4 ⊢
 clear hS4
 have K04 := KK.trans K4
 obtain ⟨tbB, htbB⟩ : ∃ t : Tb, t = { (addT M 400 tbA).1 with main := (addT M 400 tbA).2.1 } := ⟨_, rfl⟩
 rw [← htbB] at T4 hnew
 obtain ⟨J2, hJ2⟩ : ∃ J : Fr → St → Prop, ∀ fr S, J fr S ↔ (∃ W, fr 5 = .ptr rt 0 ∧ TabX S W rt (addSigs fs tbB).1 ∧ Kept S0 (fun _ => False) S W ∧ (addSigs fs tbB).2 = 0) := ⟨_, fun _ _ => Iff.rfl⟩
 refine wC_cut J2 ?_ ?_
 ·rw [wC_seq]; simp only [XY, simprocAttr, f1, kcell K04, l2]
  obtain ⟨I, hI⟩ : ∃ I : Nat → Fr → St → Prop, ∀ j fr S, I j fr S ↔ ∃ (i : Nat) (W : Pt → Prop) (tb : Tb), j + i = fs.length ∧ fr 5 = .ptr rt 0 ∧ fr 69 = sv ∧ fr 70 = .int .i64 fs.length ∧ fr 71 = .int .i64 i ∧ TabX S W rt tb ∧ Kept S0 (fun _ => False) S W ∧ addSigs fs tbB = addSigs (fs.drop i) tb := ⟨_, fun _ _ _ => Iff.rfl⟩
  refine wC_loop I fs.length (by omega) ((hI _ _ _).2 ⟨0, W3, tbB, by omega, by simp only [XZ, simprocAttr, f5], by simp only [XZ, simprocAttr], by simp only [XZ, simprocAttr], by simp only [XZ, simprocAttr] <;> rfl, T4, K04, rfl⟩) ?_
  clear f1 f5
  intro j fr S hIj
  obtain ⟨i, W, tb, hj, f5, f69, f70, f71, hT, hK, hrec⟩ := (hI _ _ _).1 hIj
  by_cases hi : i < fs.length
  ·have hi' : (i : Int) < fs.length := by omega
   obtain ⟨r, q, pv, nv1, kv1, a1, a3, a4, hps, hres, ⟨d5, d6⟩, d1, d2, d3, d4⟩ := sg_at h3 (kst hK) hi
   obtain ⟨f, hf⟩ : ∃ f, f = fs[i] := ⟨_, rfl⟩
   have hd : fs.drop i = f :: fs.drop (i + 1) := by rw [List.drop_eq_getElem_cons hi, hf]
   have hf4 := hp4 f (by rw [hf]; exact List.getElem_mem hi)
   rw [hd, addSigs_cons] at hrec
   rw [← hf] at a4 hps hres
   have lp : lenLV pv = some (.int .i64 f.params.length, .no) := (tys_lst.1 hps).len
   have wS := hT.1
   obtain ⟨nS, hnS⟩ : ∃ n, S.nx = up 0 n := ⟨_, up0 _⟩
   have oq := fun k => nes (ne_up wS hnS a3 k)
   have hadd1 : IntKind.i64.wrap ((i : Int) + 1) = ((i + 1 : Nat) : Int) := by rw [i64_in (by omega) (by omega)]; rfl
   obtain ⟨c, hcl⟩ : ∃ c, c = f.params.length + 1 := ⟨_, rfl⟩
   have haddp : IntKind.i64.wrap ((f.params.length : Int) + 1) = (c : Int) := by rw [i64_in (by omega) (by omega), hcl]; rfl
   rw [wC_seq]; simp only [XY, simprocAttr, f70, f71, hi']
   rw [wC_seqj]; simp only [XY, simprocAttr]
   rw [wC_seqj]; simp only [XY, simprocAttr]
   rw [wC_seq]; simp only [XY, simprocAttr, f69, f71, a1, a4, hnS, oq, d1, d2, d3, d4, d5, d6]
   obtain ⟨S5, hS5⟩ : ∃ S1, S1 = ((S.new fun t => .cells t [ofL [], .snil, .int .i64 0, ofL [], .snil, .snil]).wr (up 0 nS) S.t fun u => .cells u [ofL f.name, pv, .int .i64 f.result.kind, ofL f.result.name, nv1, kv1]) := ⟨_, rfl⟩
   have g5 : Gr S S5 := by rw [hS5]; exact (Gr.refl wS).nw hnS (good_cells _) (good_cells _)
   obtain ⟨t5, r5⟩ : ∃ t, S5.row (up 0 nS) = .cells t [ofL f.name, pv, .int .i64 f.result.kind, ofL f.result.name, nv1, kv1] := ⟨_, by rw [hS5]; simp only [XZ, simprocAttr, hnS]; rfl⟩
   have q5 : ¬ W (up 0 nS) := hT.own (nx0 wS hnS 0)
   rw [← hS5]
   have K5 := hK.trans (Kept.gr g5 W)
   have T5 := hT.gr g5
   have w5 := g5.wf
   obtain ⟨n5, hn5⟩ : ∃ n, S5.nx = up 0 n := ⟨_, up0 _⟩
   have hmk := mksl_ints (st := S5) (c := c) (by omega)
   rw [hn5] at hmk
   rw [wC_seq]; simp only [XY, simprocAttr, r5, lp, haddp, hmk]
   obtain ⟨rl, hrl⟩ : ∃ p, p = up 0 n5 := ⟨_, rfl⟩
   have ql : S5.row rl = .none := by rw [hrl]; exact nx0 w5 hn5 0
   obtain ⟨S6, hS6⟩ : ∃ S6, S6 = (S5.new fun t => .cells t (List.replicate c (.int .i64 0))) := ⟨_, rfl⟩
   have g6 : Gr S5 S6 := by rw [hS6]; exact Gr.new w5 (good_cells _)
   obtain ⟨t6, r6⟩ : ∃ t, S6.row rl = .cells t (List.replicate c (.int .i64 0)) := ⟨_, by rw [hS6, hrl]; simp only [XZ, simprocAttr, hn5]; rfl⟩
   rw [← hS6, ← hrl]
   have n5l : up 0 nS ≠ rl := fun e => by rw [e, ql] at r5; cases r5
   clear hS6
   have K6 := K5.trans (Kept.gr g6 W)
   have T6 := T5.z g6 ql
   have r56 := g6.cells r5
   have qlW : ¬ W rl := T5.own ql
   have stl : st.row rl = .none := by
    cases hh : st.row rl with
    | none => rfl
    | _ =>
      have := kst K5 rl (by rw [hh]; exact fun e => by cases e)
      rw [ql, hh] at this; cases this
   have w6 := g6.wf
   obtain ⟨ep, p1, p2, p3⟩ := hps
   have hK6ty : ∀ {e t}, TyC P st e t → TyC (fun r => ¬ (W r ∨ r = rl)) S6 e t := fun h => h.imp fun r p e => by
    have e0 : S0.row r ≠ .none := by rw [g0.same r e]; exact e
    exact ⟨fun w => by rcases w with w | w; exact (K6 r e0 fun h => h).2 w; exact e (by rw [w]; exact stl), kst K6 r e⟩
   have p1S : SlAt (fun r => ¬ (W r ∨ r = rl)) S6 pv 4 ep := p1.imp fun r p e => by
    have e0 : S0.row r ≠ .none := by rw [g0.same r e]; exact e
    exact ⟨fun w => by rcases w with w | w; exact (K6 r e0 fun h => h).2 w; exact e (by rw [w]; exact stl), kst K6 r e⟩
   have hep : okC ep := fun e he => by
    obtain ⟨j, hj, rfl⟩ := List.mem_iff_getElem.1 he
    exact (p3 j hj (by omega)).ok
   obtain ⟨ts, hts⟩ : ∃ ts, ts = f.params ++ [f.result] := ⟨_, rfl⟩
   have htl : ts.length = c := by rw [hts, hcl]; simp
   rw [← hts] at hrec
   obtain ⟨J3, hJ3⟩ : ∃ J : Fr → St → Prop, ∀ fr S, J fr S ↔ (∃ W' t, fr 5 = .ptr rt 0 ∧ fr 13 = .ptr (up 0 nS) 0 ∧ fr 14 = .slx rl 0 c 1 c ∧ fr 69 = sv ∧ fr 70 = .int .i64 fs.length ∧ fr 71 = .int .i64 i ∧ TabX S W' rt (addList ts tb).1 ∧ Kept S6 (fun r => W r ∨ r = rl) S (fun r => W' r ∨ r = rl) ∧ S.row rl = .cells t ((addList ts tb).2.1.map fun n : Nat => V.int .i64 (n : Int)) ∧ ¬ W' rl ∧ (addList ts tb).2.1.length = c ∧ (addList ts tb).2.2 = 0) := ⟨_, fun _ _ => Iff.rfl⟩
   refine wC_cut J3 ?_ ?_
   ·rw [wC_seq]; simp only [XY, simprocAttr, r56]
    refine wCall_marked (cloneF_Type (wf_low w6 S6.t) (p1S.low _) hep (by omega)) ?_
    rintro cv S7 g7 hcv
    have hcv : SlF S6 S7 cv 4 ep := hcv
    have r57 := g7.cells r56
    have w7 := g7.wf
    obtain ⟨n7, hn7⟩ : ∃ n, S7.nx = up 0 n := ⟨_, up0 _⟩
    simp only [XY, simprocAttr, r57, hn7, d1, d2, d3, d4]
    have gn : Gr S7 (S7.new fun t => .cells t [.int .i64 f.result.kind, ofL f.result.name, nv1, kv1]) := Gr.new w7 (good_cells _)
    have hres6 := hK6ty hres
    have hcvT : TysF (fun r => ¬ (W r ∨ r = rl)) S6 S7 cv f.params := ⟨ep, hcv, p2, fun i a b => hK6ty (p3 i a b)⟩
    refine wW_appT (ts' := [f.result]) (g7.trans gn) (hcvT.gr gn) (one_ty hn7 hres.four) rfl (fun i a b => by
     have : i = 0 := by simpa using a
     subst this; exact hres6) (by simp) (by simp; omega) ?_
    intro S8 v8 g8 h8 _ _
    rw [← hts] at h8
    have hv8 : LstAt (TyC (fun r => ¬ (W r ∨ r = rl)) S8) (fun r => ¬ (W r ∨ r = rl)) S8 v8 4 ts := h8.lst g8 (fun r p => p) fun r e w => by
     rcases w with w | w
     ·exact T6.x.own e w
     ·rw [w, r6] at e; cases e
    have l8 := hv8.len
    have rl8 := g8.cells r6
    have T8 := T6.gr g8
    simp only [XY, simprocAttr, l8, htl, apartAll_nil]
    obtain ⟨I3, hI3⟩ : ∃ I : Nat → Fr → St → Prop, ∀ j fr S, I j fr S ↔ ∃ (k : Nat) (W' : Pt → Prop) (tb' : Tb) (t : Nat) (ids : List Nat), j + k = c ∧ fr 5 = .ptr rt 0 ∧ fr 13 = .ptr (up 0 nS) 0 ∧ fr 14 = .slx rl 0 k 1 c ∧ fr 69 = sv ∧ fr 70 = .int .i64 fs.length ∧ fr 71 = .int .i64 i ∧ fr 86 = v8 ∧ fr 87 = .int .i64 c ∧ fr 88 = .int .i64 k ∧ TabZ S W' (fun r => r = rl) rt tb' ∧ Kept S8 (fun r => W r ∨ r = rl) S (fun r => W' r ∨ r = rl) ∧ S.row rl = .cells t ((ids.map fun n : Nat => V.int .i64 (n : Int)) ++ List.replicate (c - k) (.int .i64 0)) ∧ ¬ W' rl ∧ ids.length = k ∧ addList ts tb = ((addList (ts.drop k) tb').1, ids ++ (addList (ts.drop k) tb').2.1, (addList (ts.drop k) tb').2.2) := ⟨_, fun _ _ _ => Iff.rfl⟩
    refine wC_loop I3 c (by omega) ((hI3 _ _ _).2 ⟨0, W, tb, _, [], by omega, by simp only [XZ, simprocAttr, f5], by simp only [XZ, simprocAttr], by simp only [XZ, simprocAttr], by simp only [XZ, simprocAttr, f69], by simp only [XZ, simprocAttr, f70], by simp only [XZ, simprocAttr, f71], by simp only [XZ, simprocAttr], by simp only [XZ, simprocAttr], by simp only [XZ, simprocAttr] <;> rfl, T8, Kept.refl _ _, rl8, qlW, rfl, by simp⟩) ?_
    clear f5 f69 f70 f71
    intro j3 fr Sa hIa
    obtain ⟨k, Wa, ta, ua, ids, hjk, f5, f13, f14, f69, f70, f71, f86, f87, f88, hTa, hKa, hra, hWa, hids, hreca⟩ := (hI3 _ _ _).1 hIa
    by_cases hk : k < c
    ·have hk' : (k : Int) < c := by omega
     have haddk : IntKind.i64.wrap ((k : Int) + 1) = ((k + 1 : Nat) : Int) := by rw [i64_in (by omega) (by omega)]; rfl
     have hkts : k < ts.length := by omega
     obtain ⟨r', q', e', b1, b2, b3, b4, b5, b6, b7⟩ := hv8.elem hkts
     have b3a := (hKa r' b3 b2).1
     rw [← b3a] at b4
     have b3' : Sa.row r' ≠ .none := by rw [b3a]; exact b3
     have b5' : TyC (fun r => ¬ (Wa r ∨ r = rl)) Sa e' ts[k] := hKa.ty b5
     obtain ⟨nv2, kv2, es2, rfl, y1, y2, y3, y4⟩ := b5.inv
     have c1 := y1.cells
     have c2 := y1.sc
     have c3 := y2.cells
     have c4 := y2.sc
     have wA := hTa.1
     obtain ⟨nA, hnA⟩ : ∃ n, Sa.nx = up 0 n := ⟨_, up0 _⟩
     have oq := fun k => nes (ne_up wA hnA b3' k)
     rw [List.drop_eq_getElem_cons hkts, addList_cons] at hreca
     obtain ⟨T, hTt⟩ : ∃ T, T = ts[k] := ⟨_, rfl⟩
     rw [← hTt] at hreca b4 b5'
     rw [wC_seq]; simp only [XY, simprocAttr, f87, f88, hk']
     rw [wC_seqj]; simp only [XY, simprocAttr]
     rw [wC_seqj]; simp only [XY, simprocAttr]
     rw [wC_seq]; simp only [XY, simprocAttr, f86, f88, b1, b4, hnA, oq, c1, c2, c3, c4]
     obtain ⟨Sb, hSb⟩ : ∃ S1, S1 = ((Sa.new fun t => .cells t [.int .i64 0, ofL [], .snil, .snil]).wr (up 0 nA) Sa.t fun u => .cells u [.int .i64 T.kind, ofL T.name, nv2, kv2]) := ⟨_, rfl⟩
     have gb : Gr Sa Sb := by rw [hSb]; exact (Gr.refl wA).nw hnA (good_cells _) (good_cells _)
     obtain ⟨tb2, rb⟩ : ∃ t, Sb.row (up 0 nA) = .cells t [.int .i64 T.kind, ofL T.name, nv2, kv2] := ⟨_, by rw [hSb]; simp only [XZ, simprocAttr, hnA]; rfl⟩
     rw [← hSb]
     have hTb := hTa.gr gb
     have hrb := gb.cells hra
     rw [wC_seq]; simp only [XY, simprocAttr, f5, rb]
     refine wCall_plain (addZ hTb (fun r e => by rw [e, hrb]; exact fun e => by cases e) ((b5'.gr gb).imp fun r p _ => ⟨fun w => p (.inl w), rfl⟩)) ?_
     rintro _ Sc ⟨Wc, Tc, Kc, rfl⟩
     have KK := hKa.trans (((Kept.gr gb Wa).trans Kc).plus fun r => r = rl)
     have hrc := Kc.row hrb hWa
     have hWc : ¬ Wc rl := Kc.out (ne_cells hrb) hWa
     simp only [XY, simprocAttr]
     by_cases he : (addT T 400 ta).2.2.1 = 0
     ·rw [if_neg (fun h => h he)] at hreca
      rw [wC_seqj, wC_seq]; simp only [XY, simprocAttr, he]
      have wc := Tc.1
      obtain ⟨nc, hnc⟩ : ∃ n, Sc.nx = up 0 n := ⟨_, up0 _⟩
      have gd : Gr Sc (Sc.new fun t => .cells t [.int .i64 ((addT T 400 ta).2.1 : Nat)]) := Gr.new wc (good_cells _)
      have happ := app_room (st := Sc.new fun t => .cells t [.int .i64 ((addT T 400 ta).2.1 : Nat)]) (r := rl) (q := up 0 nc) (i := k) (c := c) (gd.cells hrc) (by simp; omega) (by rw [← hnc]; exact row_new_nx _ _) rfl (by omega) (by omega)
      have hspl : splice ((ids.map fun n : Nat => V.int .i64 (n : Int)) ++ List.replicate (c - k) (.int .i64 0)) k [V.int .i64 ((addT T 400 ta).2.1 : Nat)] = ((ids ++ [(addT T 400 ta).2.1]).map fun n : Nat => V.int .i64 (n : Int)) ++ List.replicate (c - (k + 1)) (.int .i64 0) := by
       have hl : (ids.map fun n : Nat => V.int .i64 (n : Int)).length = k := by simp [hids]
       have hck : c - k = (c - (k + 1)) + 1 := by omega
       unfold splice
       rw [List.take_append_of_le_length (by omega), ← hl, List.take_length, List.drop_append, hl, hck, List.replicate_succ]
       simp
       omega
      rw [hspl] at happ
      simp only [XZ, simprocAttr, f14, hnc, happ, f88, haddk]
      have hKd := KK.trans (((Kept.gr gd Wc).plus fun r => r = rl).trans (Kept.wr (S := Sc.new fun t => .cells t [.int .i64 ((addT T 400 ta).2.1 : Nat)]) (W := fun r => Wc r ∨ r = rl) (t := ua) (f := fun u => .cells u (((ids ++ [(addT T 400 ta).2.1]).map fun n : Nat => V.int .i64 (n : Int)) ++ List.replicate (c - (k + 1)) (.int .i64 0))) (p := rl) (.inr rfl)))
      have hrd := gd.cells hrc
      exact ⟨c - (k + 1), by omega, (hI3 _ _ _).2 ⟨k + 1, Wc, _, _, ids ++ [(addT T 400 ta).2.1], by omega, by simp only [XZ, simprocAttr, f5], by simp only [XZ, simprocAttr, f13], by simp only [XZ, simprocAttr], by simp only [XZ, simprocAttr, f69], by simp only [XZ, simprocAttr, f70], by simp only [XZ, simprocAttr, f71], by simp only [XZ, simprocAttr, f86], by simp only [XZ, simprocAttr, f87], by simp only [XZ, simprocAttr], (Tc.gr gd).wr rfl hWc (ne_cells hrd) (by rw [hrd]; rfl) (good_cells _), hKd, row_wr_same _ _ _ _, hWc, by simp [hids], by rw [hreca]; simp⟩⟩
     ·rw [if_pos he] at hreca
      simp only [XZ, simprocAttr, he]
      refine fin _ _ (fun r e => ?_) fun _ => ?_
      ·have e0 : S0.row r ≠ .none := by rw [g0.same r e]; exact e
       have k6 := K6 r e0 fun h => h
       have ne : r ≠ rl := fun h => e (by rw [h]; exact stl)
       have k8 := KK r (by rw [g8.same r (by rw [k6.1]; exact e0), k6.1]; exact e0) (fun w => by rcases w with w | w; exact k6.2 w; exact ne w)
       rw [k8.1, g8.same r (by rw [k6.1]; exact e0), k6.1, g0.same r e]
      ·have h1 : (addList ts tb).2.2 = (addT T 400 ta).2.2.1 := by rw [hreca]
       rw [hnew, hrec, if_pos (by rw [if_pos (by rw [h1]; exact he)]; simp only; rw [h1]; exact he), if_pos (by rw [h1]; exact he)]
       show _ = V.tup [.pnil, .int .i64 (addList ts tb).2.2]
       rw [h1]
    ·have hk' : ¬ (k : Int) < c := by omega
     have hkc : k = c := by omega
     subst hkc
     rw [List.drop_eq_nil_of_le (by omega), addList] at hreca
     simp only [XZ, simprocAttr, f87, f88, hk']
     have e1 : (addList ts tb).1 = ta := by rw [hreca]
     have e2 : (addList ts tb).2.1 = ids := by rw [hreca]; simp
     have e3 : (addList ts tb).2.2 = 0 := by rw [hreca]
     rw [Nat.sub_self] at hra
     exact (hJ3 _ _).2 ⟨Wa, ua, by simp only [XZ, simprocAttr, f5], by simp only [XZ, simprocAttr, f13], by simp only [XZ, simprocAttr, f14], by simp only [XZ, simprocAttr, f69], by simp only [XZ, simprocAttr, f70], by simp only [XZ, simprocAttr, f71], by rw [e1]; exact hTa.x, (Kept.gr g8 _).trans hKa, by rw [e2]; simpa using hra, hWa, by rw [e2]; exact hids, e3⟩
   clear f5 f69 f70 f71
   intro fr Sa hJa
   obtain ⟨Wa, ua, f5, f13, f14, f69, f70, f71, hTa, hKa, hra, hWa, hids, he0⟩ := (hJ3 _ _).1 hJa
   rw [if_neg (fun h => h he0)] at hrec
   have hsl : SlAt (fun r => ¬ Wa r) Sa (.slx rl 0 c 1 c) 1 (ints (addList ts tb).2.1) := by
    have hi : (ints (addList ts tb).2.1).length = c := by rw [← hids]; unfold ints; simp
    have := SlAt.freshx (P := fun r => ¬ Wa r) (st := Sa) (r := rl) (t := ua) (z := 1) (es := ints (addList ts tb).2.1) (by rw [hra, ints_flat]) hWa (fun e he => by unfold ints at he; obtain ⟨x, _, rfl⟩ := List.mem_map.1 he; rfl)
    rw [hi] at this
    exact this
   obtain ⟨tt, lv2, ra2, rn2, rs2, rc2, tm2, ms2, hup, Tz, Kz⟩ := hTa.setSigs f.name hsl
   have hup := hup Sa rfl
   have rna : Sa.row (up 0 nS) = .cells t5 [ofL f.name, pv, .int .i64 f.result.kind, ofL f.result.name, nv1, kv1] := hKa.row r56 fun w => by rcases w with w | w; exact q5 w; exact n5l w
   simp only [XZ, simprocAttr, f5, f13, f14, rc2, rna, hup, apartAll_nil, f71, hadd1]
   have K0a : Kept S0 (fun _ => False) Sa Wa := fun r e n => by
    have k6 := K6 r e n
    have ne : r ≠ rl := fun h => by
     have := g6.same r (by rw [(K5 r e n).1]; exact e)
     rw [h, ql, r6] at this; cases this
    have k8 := hKa r (by rw [k6.1]; exact e) (fun w => by rcases w with w | w; exact k6.2 w; exact ne w)
    exact ⟨by rw [k8.1, k6.1], fun w => k8.2 (.inl w)⟩
   exact ⟨fs.length - (i + 1), by omega, (hI _ _ _).2 ⟨i + 1, Wa, _, by omega, by simp only [XZ, simprocAttr, f5], by simp only [XZ, simprocAttr, f69], by simp only [XZ, simprocAttr, f70], by simp only [XZ, simprocAttr], Tz, K0a.trans Kz, hrec⟩⟩
  ·have hi' : ¬ (i : Int) < fs.length := by omega
   rw [List.drop_eq_nil_of_le (by omega), addSigs] at hrec
   simp only [XZ, simprocAttr, f70, f71, hi']
   exact (hJ2 _ _).2 ⟨W, by simp only [XZ, simprocAttr, f5], by rw [hrec]; exact hT, hK, by rw [hrec]⟩
 clear f1 f5
 intro fr S hJf
 obtain ⟨W, f5, hT, hK, hz⟩ := (hJ2 _ _).1 hJf
 rw [if_neg (fun h => h hz)] at hnew
 simp only [XZ, simprocAttr, f5]
 refine fin _ _ (kst hK) fun _ => ?_
 rw [hnew]
 exact ⟨rt, W, rfl, hT, fun r e _ => ⟨kst hK r e, (hK r (by rw [g0.same r e]; exact e) fun h => h).2⟩⟩
set_option maxHeartbeats 2000000 in
theorem fewAllC {P : Pt → Prop} {st : St} {e1 : List V} {q1 : Rw} {v2 v3 : V} {ts ss : List Rw} (hw : WF st) (h1 : RwC P st e1 q1) (h2 : RwsAt P st v2 ts) (h3 : RwsAt P st v3 ss) :
  Does (tabT tabD) n_spruelaw3_FewAll [.agg e1, v2, v3] st fun v S => Gr st S ∧ ∃ b, v = .bool b := by
 refine does_fn at_spruelaw3_FewAll rfl ?_
 obtain ⟨n0, hn0⟩ : ∃ n, st.nx = up 0 n := ⟨_, up0 _⟩
 have g1 := h1
 obtain ⟨nv1, kv1, es1, rfl, _, _, _, a1, a2, _, _, _⟩ := h1.inv
 have c1 := a1.cells
 have s1 := a1.sc
 have c2 := a2.cells
 have s2 := a2.sc
 obtain ⟨l2, s3, c3, m2⟩ := h2.len
 obtain ⟨l3, s4, c4, m3⟩ := h3.len
 simp only [cf_spruelaw3_FewAll, XY, simprocAttr]
 rw [wC_seq]; simp only [XY, simprocAttr, hn0, c1, s1, c2, s2]
 obtain ⟨S0, hS0⟩ : ∃ S0, S0 = (st.new fun t => .cells t [.int .i64 q1.kind, .int .i64 q1.n, nv1, kv1]) := ⟨_, rfl⟩
 have g0 : Gr st S0 := by rw [hS0]; exact Gr.new hw (good_cells _)
 obtain ⟨t0, r0⟩ : ∃ t, S0.row (up 0 n0) = .cells t [.int .i64 q1.kind, .int .i64 q1.n, nv1, kv1] := ⟨_, by rw [hS0]; simp only [XZ, simprocAttr, hn0]; rfl⟩
 rw [← hS0]
 clear hS0
 rw [wC_seqj, wC_seq]; simp only [XY, simprocAttr, r0]
 refine wCall_plain (fewC g1 _ g0 60 (by decide) (by decide)) ?_
 rintro _ S1 ⟨gf, m, rfl, _, _⟩
 have gs := g0.trans gf
 by_cases i1 : m = 0
 ·simp only [XZ, simprocAttr, i1, l2, l3]
  exact ⟨gs, _, rfl⟩
 by_cases i2 : (6 : Int) < ts.length
 ·simp only [XZ, simprocAttr, i1, l2, l3, i2]
  exact ⟨gs, _, rfl⟩
 by_cases i3 : (6 : Int) < ss.length
 ·simp only [XZ, simprocAttr, i1, l2, l3, i2, i3]
  exact ⟨gs, _, rfl⟩
 simp only [XY, simprocAttr, i1, l2, l3, i2, i3]
 obtain ⟨J, hJ⟩ : ∃ J : Fr → St → Prop, ∀ fr S, J fr S ↔ (fr 2 = v3 ∧ Gr st S) := ⟨_, fun _ _ => Iff.rfl⟩
 refine wC_cut J ?_ ?_
 ·rw [wC_seq]; simp only [XY, simprocAttr]
  obtain ⟨L, hL⟩ : ∃ L : Nat → Fr → St → Prop, ∀ j fr S, L j fr S ↔ ∃ i : Nat, j + i = ts.length ∧ fr 1 = v2 ∧ fr 2 = v3 ∧ fr 7 = .int .i64 i ∧ Gr st S := ⟨_, fun _ _ _ => Iff.rfl⟩
  refine wC_loop L ts.length (by omega) ((hL _ _ _).2 ⟨0, by omega, by simp only [XZ, simprocAttr], by simp only [XZ, simprocAttr], by simp only [XZ, simprocAttr] <;> rfl, gs⟩) ?_
  intro j fr S hLj
  obtain ⟨i, hj, f1, f2, f7, hg⟩ := (hL _ _ _).1 hLj
  by_cases hi : i < ts.length
  ·have hi' : (i : Int) < ts.length := by omega
   obtain ⟨r, o, kv, nv, b1, b2, b3, b4, _⟩ := (h2.gr hg).elem hi
   have hadd1 : IntKind.i64.wrap ((i : Int) + 1) = ((i + 1 : Nat) : Int) := by rw [i64_in (by omega) (by omega)]; rfl
   rw [wC_seqj, wC_seq]; simp only [XY, simprocAttr, f1, f7, l2, hi']
   rw [wC_seqj]; simp only [XY, simprocAttr]
   rw [wC_seq]; simp only [XY, simprocAttr, f1, f7, b1, b3]
   refine wCall_plain (fewC b4 _ (Gr.refl hg.wf) 30 (by decide) (by decide)) ?_
   rintro _ S' ⟨g', m', rfl, _, _⟩
   by_cases i4 : m' = 0
   ·simp only [XZ, simprocAttr, i4]
    exact ⟨hg.trans g', _, rfl⟩
   ·simp only [XZ, simprocAttr, i4, f7, hadd1]
    exact ⟨ts.length - (i + 1), by omega, (hL _ _ _).2 ⟨i + 1, by omega, by simp only [XZ, simprocAttr, f1], by simp only [XZ, simprocAttr, f2], by simp only [XZ, simprocAttr], hg.trans g'⟩⟩
  ·have hi' : ¬ (i : Int) < ts.length := by omega
   simp only [XZ, simprocAttr, f1, f7, l2, hi']
   exact (hJ _ _).2 ⟨by simp only [XZ, simprocAttr, f2], hg⟩
 intro fr S hJf
 obtain ⟨f2, hg⟩ := (hJ _ _).1 hJf
 obtain ⟨J2, hJ2⟩ : ∃ J : Fr → St → Prop, ∀ fr S, J fr S ↔ (Gr st S) := ⟨_, fun _ _ => Iff.rfl⟩
 refine wC_cut J2 ?_ ?_
 ·rw [wC_seq]; simp only [XY, simprocAttr]
  obtain ⟨L, hL⟩ : ∃ L : Nat → Fr → St → Prop, ∀ j fr S, L j fr S ↔ ∃ i : Nat, j + i = ss.length ∧ fr 2 = v3 ∧ fr 8 = .int .i64 i ∧ Gr st S := ⟨_, fun _ _ _ => Iff.rfl⟩
  refine wC_loop L ss.length (by omega) ((hL _ _ _).2 ⟨0, by omega, by simp only [XZ, simprocAttr, f2], by simp only [XZ, simprocAttr] <;> rfl, hg⟩) ?_
  intro j fr S hLj
  obtain ⟨i, hj, f2, f8, hg⟩ := (hL _ _ _).1 hLj
  by_cases hi : i < ss.length
  ·have hi' : (i : Int) < ss.length := by omega
   obtain ⟨r, o, kv, nv, b1, b2, b3, b4, _⟩ := (h3.gr hg).elem hi
   have hadd1 : IntKind.i64.wrap ((i : Int) + 1) = ((i + 1 : Nat) : Int) := by rw [i64_in (by omega) (by omega)]; rfl
   rw [wC_seqj, wC_seq]; simp only [XY, simprocAttr, f2, f8, l3, hi']
   rw [wC_seqj]; simp only [XY, simprocAttr]
   rw [wC_seq]; simp only [XY, simprocAttr, f2, f8, b1, b3]
   refine wCall_plain (fewC b4 _ (Gr.refl hg.wf) 20 (by decide) (by decide)) ?_
   rintro _ S' ⟨g', m', rfl, _, _⟩
   by_cases i4 : m' = 0
   ·simp only [XZ, simprocAttr, i4]
    exact ⟨hg.trans g', _, rfl⟩
   ·simp only [XZ, simprocAttr, i4, f8, hadd1]
    exact ⟨ss.length - (i + 1), by omega, (hL _ _ _).2 ⟨i + 1, by omega, by simp only [XZ, simprocAttr, f2], by simp only [XZ, simprocAttr], hg.trans g'⟩⟩
  ·have hi' : ¬ (i : Int) < ss.length := by omega
   simp only [XZ, simprocAttr, f2, f8, l3, hi']
   exact (hJ2 _ _).2 hg
 intro fr S hJf
 have hg := (hJ2 _ _).1 hJf
 simp only [XZ, simprocAttr]
 exact ⟨hg, _, rfl⟩
theorem nms_elem {P : Pt → Prop} {st : St} {v : V} {ns : List Str} (h : SlAt P st v 1 (strs ns)) {i : Nat} (hi : i < ns.length) : ∃ r o, iaddrSV 1 v (.int .i64 i) = some (.ptr r o, .no) ∧ P r ∧ st.row r ≠ .none ∧ ld1 (st.row r) o = some (ofL ns[i], .no) := by
 have l1 : (strs ns).length = ns.length := strs_len _
 obtain ⟨q, o, a1, a2, a3, a4, a5⟩ := h.elem (i := i) (by omega)
 refine ⟨q, o, a1, a2, a3, ?_⟩
 have e : (strs ns)[i] = [ofL ns[i]] := by simp [strs]
 have := a5 0 (by rw [e]; simp)
 simp only [e] at this
 exact this
set_option maxHeartbeats 8000000 in
theorem schemaC {P : Pt → Prop} {st : St} {e1 : List V} {q1 : Rw} {v2 v3 : V} {ts ss : List Rw} (hw : WF st) (h1 : RwC P st e1 q1) (h2 : RwsAt P st v2 ts) (h3 : RwsAt P st v3 ss) :
  Does (tabT tabD) n_spruelaw3_Schema [.agg e1, v2, v3] st fun v S => Gr st S ∧ ∃ e, v = .agg e ∧ SchC (fun r => st.row r = .none) S e (schemaS q1 ts ss) := by
 refine does_fn at_spruelaw3_Schema rfl ?_
 obtain ⟨n0, hn0⟩ : ∃ n, st.nx = up 0 n := ⟨_, up0 _⟩
 have g1 := h1
 obtain ⟨nv1, kv1, es1, rfl, _, _, _, a1, a2, _, _, _⟩ := h1.inv
 have c1 := a1.cells
 have s1 := a1.sc
 have c2 := a2.cells
 have s2 := a2.sc
 obtain ⟨l2, s3, c3, m2⟩ := h2.len
 obtain ⟨l3, s4, c4, m3⟩ := h3.len
 obtain ⟨b3, hb3⟩ : ∃ b, b = up 0 n0 := ⟨_, rfl⟩
 obtain ⟨b6, hb6⟩ : ∃ b, b = up 1 n0 := ⟨_, rfl⟩
 obtain ⟨b7, hb7⟩ : ∃ b, b = up 2 n0 := ⟨_, rfl⟩
 have n3 : st.row b3 = .none := by rw [hb3]; exact nx0 hw hn0 0
 have n6 : st.row b6 = .none := by rw [hb6]; exact nx0 hw hn0 1
 have n7 : st.row b7 = .none := by rw [hb7]; exact nx0 hw hn0 2
 have ne67 : b6 ≠ b7 := by rw [hb6, hb7, up_ne]; decide
 have ne37 : b3 ≠ b7 := by rw [hb3, hb7, up_ne]; decide
 have ne36 : b3 ≠ b6 := by rw [hb3, hb6, up_ne]; decide
 obtain ⟨nms, hnms⟩ : ∃ l, l = tyNms.take ts.length := ⟨_, rfl⟩
 have hT4 : tyNms.length = 4 := rfl
 have hnl : nms.length = min 4 ts.length := by rw [hnms, List.length_take, hT4]; omega
 have hnt : tyNms.take nms.length = nms := by
  rw [hnl, hnms]
  rcases Nat.le_total 4 ts.length with h | h
  ·rw [Nat.min_eq_left h, List.take_of_length_le (by omega), List.take_of_length_le (by omega)]
  ·rw [Nat.min_eq_right h]
 obtain ⟨B, hB⟩ : ∃ B : Pt → Prop, ∀ r, B r ↔ (st.row r ≠ .none ∨ r = b6 ∨ r = b7) := ⟨_, fun _ => Iff.rfl⟩
 have B6 : B b6 := (hB _).2 (.inr (.inl rfl))
 have B7 : B b7 := (hB _).2 (.inr (.inr rfl))
 have B3 : ¬ B b3 := fun h => by rcases (hB _).1 h with h | h | h; exact h n3; exact ne36 h; exact ne37 h
 obtain ⟨I, hI⟩ : ∃ I : Fr → St → Prop, ∀ fr S, I fr S ↔ (fr 1 = v2 ∧ fr 2 = v3 ∧ fr 3 = .ptr b3 0 ∧ fr 6 = .ptr b6 0 ∧ fr 7 = .ptr b7 0 ∧ fr 8 = .snil ∧ Gr st S ∧ (∃ t, S.row b3 = .cells t [.int .i64 q1.kind, .int .i64 q1.n, nv1, kv1]) ∧ (∃ t, S.row b6 = .cells t [.int .i64 0, ofL [], .snil, .snil, .snil, .snil]) ∧ (∃ t, S.row b7 = .cells t [.int .i64 0, ofL [], .snil, .snil, .snil, .snil])) := ⟨_, fun _ _ => Iff.rfl⟩
 simp only [cf_spruelaw3_Schema, XY, simprocAttr]
 rw [wC_seq]; simp only [XY, simprocAttr, hn0, c1, s1, c2, s2]
 rw [wC_seq]; simp only [XY, simprocAttr, hn0]
 rw [wC_seq]; simp only [XY, simprocAttr]
 rw [← hb3, ← hb6, ← hb7]
 obtain ⟨S0, hS0⟩ : ∃ S0, S0 = (((st.new fun t => .cells t [.int .i64 q1.kind, .int .i64 q1.n, nv1, kv1]).new fun t => .cells t [.int .i64 0, ofL [], .snil, .snil, .snil, .snil]).new fun t => .cells t [.int .i64 0, ofL [], .snil, .snil, .snil, .snil]) := ⟨_, rfl⟩
 have g0 : Gr st S0 := by rw [hS0]; exact ((Gr.new hw (good_cells _)).nn (good_cells _)).nn (good_cells _)
 obtain ⟨t3, r3⟩ : ∃ t, S0.row b3 = .cells t [.int .i64 q1.kind, .int .i64 q1.n, nv1, kv1] := ⟨_, by rw [hS0, hb3]; simp only [XZ, simprocAttr, hn0]; rfl⟩
 obtain ⟨t6, r6⟩ : ∃ t, S0.row b6 = .cells t [.int .i64 0, ofL [], .snil, .snil, .snil, .snil] := ⟨_, by rw [hS0, hb6]; simp only [XZ, simprocAttr, hn0]; rfl⟩
 obtain ⟨t7, r7⟩ : ∃ t, S0.row b7 = .cells t [.int .i64 0, ofL [], .snil, .snil, .snil, .snil] := ⟨_, by rw [hS0, hb7]; simp only [XZ, simprocAttr, hn0]; rfl⟩
 rw [← hS0]
 clear hS0 hI I
 obtain ⟨J1, hJ1⟩ : ∃ J : Fr → St → Prop, ∀ fr S, J fr S ↔ (∃ nv, fr 1 = v2 ∧ fr 2 = v3 ∧ fr 3 = .ptr b3 0 ∧ fr 6 = .ptr b6 0 ∧ fr 7 = .ptr b7 0 ∧ fr 8 = nv ∧ Gr S0 S ∧ SlF S0 S nv 1 (strs nms)) := ⟨_, fun _ _ => Iff.rfl⟩
 refine wC_cut J1 ?_ ?_
 ·rw [wC_seq]; simp only [XY, simprocAttr]
  obtain ⟨L, hL⟩ : ∃ L : Nat → Fr → St → Prop, ∀ j fr S, L j fr S ↔ ∃ (i : Nat) (nv : V), j + i = nms.length ∧ fr 1 = v2 ∧ fr 2 = v3 ∧ fr 3 = .ptr b3 0 ∧ fr 6 = .ptr b6 0 ∧ fr 7 = .ptr b7 0 ∧ fr 8 = nv ∧ fr 9 = .int .i64 i ∧ Gr S0 S ∧ SlF S0 S nv 1 (strs (tyNms.take i)) := ⟨_, fun _ _ _ => Iff.rfl⟩
  refine wC_loop L nms.length (by omega) ((hL _ _ _).2 ⟨0, .snil, by omega, by simp only [XZ, simprocAttr], by simp only [XZ, simprocAttr], by simp only [XZ, simprocAttr], by simp only [XZ, simprocAttr], by simp only [XZ, simprocAttr], by simp only [XZ, simprocAttr], by simp only [XZ, simprocAttr] <;> rfl, Gr.refl g0.wf, SlF.nil _ _ _⟩) ?_
  intro j fr S hLj
  obtain ⟨i, nv, hj, f1, f2, f3, f6, f7, f8, f9, hg, hs⟩ := (hL _ _ _).1 hLj
  have done : ∀ fr', i = nms.length → fr' 1 = v2 → fr' 2 = v3 → fr' 3 = .ptr b3 0 → fr' 6 = .ptr b6 0 → fr' 7 = .ptr b7 0 → fr' 8 = nv → J1 fr' S := fun fr' e f1 f2 f3 f6 f7 f8 => (hJ1 _ _).2 ⟨nv, f1, f2, f3, f6, f7, f8, hg, by rw [e, hnt] at hs; exact hs⟩
  by_cases hi : i < ts.length
  ·have hi' : (i : Int) < ts.length := by omega
   by_cases h4 : i < 4
   ·have h4' : (i : Int) < 4 := by omega
    have hit : i < tyNms.length := by omega
    have wS := hg.wf
    obtain ⟨nS, hnS⟩ : ∃ n, S.nx = up 0 n := ⟨_, up0 _⟩
    have hadd1 : IntKind.i64.wrap ((i : Int) + 1) = ((i + 1 : Nat) : Int) := by rw [i64_in (by omega) (by omega)]; rfl
    rw [wC_seqj, wC_seq]; simp only [XY, simprocAttr, f1, f9, l2, hi', h4']
    have app : ∀ {R : V → St → Prop}, (∀ S' v', Gr S0 S' → SlF S0 S' v' 1 (strs (tyNms.take (i + 1))) → R v' S') → wW (appV ((S.new fun t => .cells t [ofL [65], ofL [66, 101, 101], ofL [67, 97, 116], ofL [68, 111, 103]]).new fun t => .cells t [ofL tyNms[i]]) 1 nv (.slx (up 1 nS) 0 1 1 1)) ((S.new fun t => .cells t [ofL [65], ofL [66, 101, 101], ofL [67, 97, 116], ofL [68, 111, 103]]).new fun t => .cells t [ofL tyNms[i]]) R := fun k => by
     have ga : Gr S (S.new fun t => .cells t [ofL [65], ofL [66, 101, 101], ofL [67, 97, 116], ofL [68, 111, 103]]) := Gr.new wS (good_cells _)
     have gb := Gr.new (f := fun t => .cells t [ofL tyNms[i]]) ga.wf (good_cells _)
     have hone := one_at (st := (S.new fun t => .cells t [ofL [65], ofL [66, 101, 101], ofL [67, 97, 116], ofL [68, 111, 103]])) (z := 1) (e := [ofL tyNms[i]]) rfl
     rw [show (S.new fun t => Row.cells t [ofL [65], ofL [66, 101, 101], ofL [67, 97, 116], ofL [68, 111, 103]]).nx = up 1 nS by simp only [XZ, simprocAttr, hnS]] at hone
     refine wW_appF (S0 := S0) ((hg.trans ga).trans gb) ((hs.gr ga).gr gb) hone (fun e he => by rw [List.mem_singleton.1 he]; rfl) (by simp) (by rw [strs_len, List.length_take]; simp; omega) fun S' v' a b _ => k S' v' a ?_
     rw [List.take_succ_eq_append_getElem hit, show strs (tyNms.take i ++ [tyNms[i]]) = strs (tyNms.take i) ++ [[ofL tyNms[i]]] by unfold strs; rw [List.map_append, List.map_append]; rfl]
     exact b
    have nxt : ∀ fr' S' v', fr' 1 = v2 → fr' 2 = v3 → fr' 3 = .ptr b3 0 → fr' 6 = .ptr b6 0 → fr' 7 = .ptr b7 0 → fr' 8 = v' → fr' 9 = .int .i64 ((i + 1 : Nat) : Int) → Gr S0 S' → SlF S0 S' v' 1 (strs (tyNms.take (i + 1))) → ∃ m, m < j ∧ L m fr' S' := fun fr' S' v' x1 x2 x3 x4 x5 x6 x7 x8 x9 => ⟨j - 1, by omega, (hL _ _ _).2 ⟨i + 1, v', by omega, x1, x2, x3, x4, x5, x6, x7, x8, x9⟩⟩
    rw [wC_seqj]; simp only [XY, simprocAttr]
    rcases (show i = 0 ∨ i = 1 ∨ i = 2 ∨ i = 3 by omega) with rfl | rfl | rfl | rfl
    all_goals simp only [XZ, simprocAttr, f8, f9, hnS]
    all_goals first | refine ⟨⟨by decide, by decide⟩, app fun S' v' ga hs' => ?_⟩ | refine app fun S' v' ga hs' => ?_
    all_goals simp only [XZ, simprocAttr, f9, hadd1]
    all_goals exact nxt _ _ _ (by simp only [XZ, simprocAttr, f1]) (by simp only [XZ, simprocAttr, f2]) (by simp only [XZ, simprocAttr, f3]) (by simp only [XZ, simprocAttr, f6]) (by simp only [XZ, simprocAttr, f7]) (by simp only [XZ, simprocAttr]) (by simp only [XZ, simprocAttr]) ga hs'
   ·have h4' : ¬ (i : Int) < 4 := by omega
    simp only [XZ, simprocAttr, f1, f9, l2, hi', h4']
    exact done _ (by omega) (by simp only [XZ, simprocAttr, f1]) (by simp only [XZ, simprocAttr, f2]) (by simp only [XZ, simprocAttr, f3]) (by simp only [XZ, simprocAttr, f6]) (by simp only [XZ, simprocAttr, f7]) (by simp only [XZ, simprocAttr, f8])
  ·have hi' : ¬ (i : Int) < ts.length := by omega
   simp only [XZ, simprocAttr, f1, f9, l2, hi']
   exact done _ (by omega) (by simp only [XZ, simprocAttr, f1]) (by simp only [XZ, simprocAttr, f2]) (by simp only [XZ, simprocAttr, f3]) (by simp only [XZ, simprocAttr, f6]) (by simp only [XZ, simprocAttr, f7]) (by simp only [XZ, simprocAttr, f8])
 intro fr S1 hJf
 obtain ⟨nv, f1, f2, f3, f6, f7, f8, hg1, hs1⟩ := (hJ1 _ _).1 hJf
 have gs1 := g0.trans hg1
 have B0 : ∀ r, B r → S0.row r ≠ .none := fun r h => by
  rcases (hB _).1 h with h | h | h
  ·rw [g0.same r h]; exact h
  ·rw [h]; exact ne_cells r6
  ·rw [h]; exact ne_cells r7
 have B1 : ∀ r, B r → S1.row r ≠ .none := fun r h => by rw [hg1.same r (B0 r h)]; exact B0 r h
 have hnv : ∀ {S : St}, (∀ r, S1.row r ≠ .none → ¬ B r → S.row r = S1.row r) → SlAt (fun _ => True) S nv 1 (strs nms) := fun k => hs1.at.imp fun r p e => ⟨trivial, k r e fun b => B0 r b p⟩
 have len8 : lenLV nv = some (.int .i64 nms.length, .no) := by have := hs1.at.len; rwa [strs_len] at this
 have q3 := hg1.cells r3
 have q6 := hg1.cells r6
 have q7 := hg1.cells r7
 have hn1000 : nms.length < 1000 := by omega
 have T5 : TreeAt nms 5 := treeC nms hn1000 4 (by decide)
 have T6 : TreeAt nms 6 := treeC nms hn1000 5 (by decide)
 have T4 : TreeAt nms 4 := treeC nms hn1000 3 (by decide)
 have htl : (typesOf nms ts).length = nms.length := typesOf_len _ _ (by omega)
 obtain ⟨J2, hJ2⟩ : ∃ J : Fr → St → Prop, ∀ fr S, J fr S ↔ (∃ tv t, fr 2 = v3 ∧ fr 3 = .ptr b3 0 ∧ fr 6 = .ptr b6 0 ∧ fr 7 = .ptr b7 0 ∧ fr 8 = nv ∧ LsF NmC st S1 B 5 S tv (typesOf nms ts) ∧ S.row b7 = .cells t [.int .i64 0, ofL [], .snil, .snil, tv, .snil] ∧ S.row b6 = .cells t6 [.int .i64 0, ofL [], .snil, .snil, .snil, .snil]) := ⟨_, fun _ _ => Iff.rfl⟩
 refine wC_cut J2 ?_ ?_
 ·rw [wC_seq]; simp only [XY, simprocAttr]
  obtain ⟨L, hL⟩ : ∃ L : Nat → Fr → St → Prop, ∀ j fr S, L j fr S ↔ ∃ (i : Nat) (tv : V) (t : Nat), j + i = nms.length ∧ fr 1 = v2 ∧ fr 2 = v3 ∧ fr 3 = .ptr b3 0 ∧ fr 6 = .ptr b6 0 ∧ fr 7 = .ptr b7 0 ∧ fr 8 = nv ∧ fr 10 = .int .i64 i ∧ LsF NmC st S1 B 5 S tv ((typesOf nms ts).take i) ∧ S.row b7 = .cells t [.int .i64 0, ofL [], .snil, .snil, tv, .snil] ∧ S.row b6 = .cells t6 [.int .i64 0, ofL [], .snil, .snil, .snil, .snil] := ⟨_, fun _ _ _ => Iff.rfl⟩
  refine wC_loop L nms.length (by omega) ((hL _ _ _).2 ⟨0, .snil, t7, by omega, by simp only [XZ, simprocAttr, f1], by simp only [XZ, simprocAttr, f2], by simp only [XZ, simprocAttr, f3], by simp only [XZ, simprocAttr, f6], by simp only [XZ, simprocAttr, f7], by simp only [XZ, simprocAttr, f8], by simp only [XZ, simprocAttr] <;> rfl, LsF.nil gs1, q7, q6⟩) ?_
  clear f1 f2 f3 f6 f7 f8
  intro j fr S hLj
  obtain ⟨i, tv, t, hj, f1, f2, f3, f6, f7, f8, f10, hF, r7, r6⟩ := (hL _ _ _).1 hLj
  by_cases hi : i < nms.length
  ·have hi' : (i : Int) < nms.length := by omega
   have hadd1 : IntKind.i64.wrap ((i : Int) + 1) = ((i + 1 : Nat) : Int) := by rw [i64_in (by omega) (by omega)]; rfl
   obtain ⟨ra, oa, a1, _, _, a4⟩ := nms_elem (hnv hF.keep) hi
   obtain ⟨rb, ob, kb, vb, b1, b2, b4, b5, _⟩ := (h2.gr hF.g).elem (i := i) (by omega)
   have hit : i < (typesOf nms ts).length := by omega
   have hget := typesOf_get nms ts i hi (by omega) hit
   rw [wC_seqj, wC_seq]; simp only [XY, simprocAttr, f8, f10, len8, hi']
   rw [wC_seqj]; simp only [XY, simprocAttr]
   simp only [XY, simprocAttr, f7, r7, f8, f10, a1, a4, f1, b1, b4]
   refine wCall_marked (T5 (wf_low hF.g.wf S.t) (b5.imp fun r p _ => ⟨p, rfl⟩) ((hnv hF.keep).imp fun r p _ => ⟨p, rfl⟩)) ?_
   rintro _ S2 gt ⟨x, rfl, hx⟩
   obtain ⟨X, hX⟩ : ∃ X, X = treeS nms 5 ts[i] := ⟨_, rfl⟩
   rw [← hX] at hx hget
   have hx0 := hx
   obtain ⟨xn, xk, xe, rfl, u1, u2, u3, u4⟩ := hx.inv
   have d1 := u1.cells
   have d2 := u1.sc
   have d3 := u2.cells
   have d4 := u2.sc
   have w2 := gt.wf
   obtain ⟨n2, hn2⟩ : ∃ n, S2.nx = up 0 n := ⟨_, up0 _⟩
   have F2 := hF.gr (C := NmC) NmC.imp gt
   simp only [XY, simprocAttr, hn2, d1, d2, d3, d4]
   have gn : Gr S2 (S2.new fun t => .cells t [ofL nms[i], .int .i64 X.kind, ofL X.name, xn, xk]) := Gr.new w2 (good_cells _)
   have F3 := F2.gr (C := NmC) NmC.imp gn
   have hone := one_at (st := S2) (z := 5) (e := [ofL nms[i], .int .i64 X.kind, ofL X.name, xn, xk]) rfl
   rw [hn2] at hone
   have h5 : NmC (fun r => ¬ B r ∧ rowOf tv ≠ some r) (S2.new fun t => .cells t [ofL nms[i], .int .i64 X.kind, ofL X.name, xn, xk]) [ofL nms[i], .int .i64 X.kind, ofL X.name, xn, xk] (nms[i], X) := ⟨_, rfl, hx0.imp fun r p e => ⟨⟨fun b => hF.live r (B1 r b) p, fun e => hF.alive e p⟩, gn.same r e⟩⟩
   refine wW_appL (C := NmC) NmC.imp F3 hone (by simp only [allSc, List.all_cons, List.all_nil, d2, d4]; rfl) h5 B1 (by rw [List.length_take]; omega) fun S4 v4 F4 kp => ?_
   rw [← hget, ← List.take_succ_eq_append_getElem hit] at F4
   have d5 := F4.sc
   have r62 := gn.cells (gt.cells r6)
   have r64 := (kp b6 (ne_cells r62) fun e => B1 b6 B6 (hF.own _ e)).trans r62
   have r72 := gn.cells (gt.cells r7)
   have r74 := (kp b7 (ne_cells r72) fun e => B1 b7 B7 (hF.own _ e)).trans r72
   simp only [XZ, simprocAttr, f7, r74, f10, hadd1, apartAll_nil, d5.1, d5.2]
   exact ⟨j - 1, by omega, (hL _ _ _).2 ⟨i + 1, v4, _, by omega, by simp only [XZ, simprocAttr, f1], by simp only [XZ, simprocAttr, f2], by simp only [XZ, simprocAttr, f3], by simp only [XZ, simprocAttr, f6], by simp only [XZ, simprocAttr, f7], by simp only [XZ, simprocAttr, f8], by simp only [XZ, simprocAttr], F4.wr (C := NmC) NmC.imp B7 n7 (B1 _ B7) r74, row_wr_same _ _ _ _, (row_wr_ne _ _ _ ne67).trans r64⟩⟩
  ·have hi' : ¬ (i : Int) < nms.length := by omega
   simp only [XZ, simprocAttr, f8, f10, len8, hi']
   rw [List.take_of_length_le (by omega)] at hF
   exact (hJ2 _ _).2 ⟨tv, t, by simp only [XZ, simprocAttr, f2], by simp only [XZ, simprocAttr, f3], by simp only [XZ, simprocAttr, f6], by simp only [XZ, simprocAttr, f7], by simp only [XZ, simprocAttr, f8], hF, r7, r6⟩
 clear f1 f2 f3 f6 f7 f8
 intro fr S hJf
 obtain ⟨tv, t, f2, f3, f6, f7, f8, hF, r7, r6⟩ := (hJ2 _ _).1 hJf
 have r3 : S.row b3 = .cells t3 [.int .i64 q1.kind, .int .i64 q1.n, nv1, kv1] := (hF.keep b3 (ne_cells q3) B3).trans q3
 rw [wC_seq]; simp only [XY, simprocAttr, f3, f7, f8, r3]
 refine wCall_plain (T6 hF.g.wf (g1.gr hF.g) (hnv hF.keep)) ?_
 rintro _ Sm ⟨gm, x, rfl, hx⟩
 obtain ⟨M, hM⟩ : ∃ M, M = treeS nms 6 q1 := ⟨_, rfl⟩
 rw [← hM] at hx
 have hx0 := hx
 obtain ⟨mn, mk, xe, rfl, u1, u2, u3, u4⟩ := hx.inv
 have y1 := u1.cells
 have y2 := u1.sc
 have y3 := u2.cells
 have y4 := u2.sc
 have rm7 := gm.cells r7
 have rm6 := gm.cells r6
 have Fm := hF.gr (C := NmC) NmC.imp gm
 simp only [XY, simprocAttr, f7, rm7, y1, y2, y3, y4]
 have FM := Fm.wr (C := NmC) NmC.imp (c' := [.int .i64 M.kind, ofL M.name, mn, mk, tv, .snil]) B7 n7 (B1 _ B7) rm7
 have kM : ∀ r, ¬ B r → (Sm.wr b7 t fun u => .cells u [.int .i64 M.kind, ofL M.name, mn, mk, tv, .snil]).row r = Sm.row r := fun r n => row_wr_ne _ _ _ fun e => n (by rw [e]; exact B7)
 have rM7 : (Sm.wr b7 t fun u => .cells u [.int .i64 M.kind, ofL M.name, mn, mk, tv, .snil]).row b7 = .cells Sm.t [.int .i64 M.kind, ofL M.name, mn, mk, tv, .snil] := row_wr_same _ _ _ _
 have rM6 : (Sm.wr b7 t fun u => .cells u [.int .i64 M.kind, ofL M.name, mn, mk, tv, .snil]).row b6 = .cells t6 [.int .i64 0, ofL [], .snil, .snil, .snil, .snil] := (row_wr_ne _ _ _ ne67).trans rm6
 have hMt : TyC (fun r => ¬ B r) (Sm.wr b7 t fun u => .cells u [.int .i64 M.kind, ofL M.name, mn, mk, tv, .snil]) [.int .i64 M.kind, ofL M.name, mn, mk] M := hx0.imp fun r p _ => by
  have : ¬ B r := fun b => hF.live r (B1 r b) p
  exact ⟨this, kM r this⟩
 have hlt := FM.lst (C := NmC) NmC.imp B1
 obtain ⟨S2, hS2⟩ : ∃ S2, S2 = (Sm.wr b7 t fun u => .cells u [.int .i64 M.kind, ofL M.name, mn, mk, tv, .snil]) := ⟨_, rfl⟩
 obtain ⟨t2, rM7⟩ : ∃ t, S2.row b7 = .cells t [.int .i64 M.kind, ofL M.name, mn, mk, tv, .snil] := ⟨_, by rw [hS2]; exact rM7⟩
 rw [← hS2] at FM rM6 hMt hlt ⊢
 clear hS2 kM rm7 rm6 Fm
 have g2 := FM.g
 have keep2 := FM.keep
 have live2 := FM.live
 have B2 : ∀ r, B r → S2.row r ≠ .none := fun r b => FM.live r (B1 r b)
 clear FM
 have hsl : (sigsOf nms ss).length = min 4 ss.length := sigsOf_len _ _
 obtain ⟨J3, hJ3⟩ : ∃ J : Fr → St → Prop, ∀ fr S, J fr S ↔ (∃ sv t, fr 6 = .ptr b6 0 ∧ fr 7 = .ptr b7 0 ∧ LsF SgC st S2 B 6 S sv (sigsOf nms ss) ∧ S.row b7 = .cells t [.int .i64 M.kind, ofL M.name, mn, mk, tv, sv] ∧ S.row b6 = .cells t6 [.int .i64 0, ofL [], .snil, .snil, .snil, .snil]) := ⟨_, fun _ _ => Iff.rfl⟩
 refine wC_cut J3 ?_ ?_
 ·rw [wC_seq]; simp only [XY, simprocAttr]
  obtain ⟨L, hL⟩ : ∃ L : Nat → Fr → St → Prop, ∀ j fr S, L j fr S ↔ ∃ (i : Nat) (sv : V) (t : Nat), j + i = min 4 ss.length ∧ fr 2 = v3 ∧ fr 6 = .ptr b6 0 ∧ fr 7 = .ptr b7 0 ∧ fr 8 = nv ∧ fr 11 = .int .i64 i ∧ LsF SgC st S2 B 6 S sv ((sigsOf nms ss).take i) ∧ S.row b7 = .cells t [.int .i64 M.kind, ofL M.name, mn, mk, tv, sv] ∧ S.row b6 = .cells t6 [.int .i64 0, ofL [], .snil, .snil, .snil, .snil] := ⟨_, fun _ _ _ => Iff.rfl⟩
  refine wC_loop L (min 4 ss.length) (by omega) ((hL _ _ _).2 ⟨0, .snil, t2, by omega, by simp only [XZ, simprocAttr, f2], by simp only [XZ, simprocAttr, f6], by simp only [XZ, simprocAttr, f7], by simp only [XZ, simprocAttr, f8], by simp only [XZ, simprocAttr] <;> rfl, LsF.nil g2, rM7, rM6⟩) ?_
  clear f2 f3 f6 f7 f8 r7 r6 r3
  intro j fr S hLj
  obtain ⟨i, sv, t, hj, f2, f6, f7, f8, f11, hF, r7, r6⟩ := (hL _ _ _).1 hLj
  have hnS : ∀ r, S1.row r ≠ .none → ¬ B r → S.row r = S1.row r := fun r e n => by rw [hF.keep r (live2 r e) n]; exact keep2 r e n
  have done : ∀ fr', i = min 4 ss.length → fr' 6 = .ptr b6 0 → fr' 7 = .ptr b7 0 → J3 fr' S := fun fr' e f6 f7 => (hJ3 _ _).2 ⟨sv, t, f6, f7, by rw [List.take_of_length_le (by omega)] at hF; exact hF, r7, r6⟩
  by_cases hi : i < ss.length
  ·have hi' : (i : Int) < ss.length := by omega
   by_cases h4 : i < 4
   ·have h4' : (i : Int) < 4 := by omega
    have hadd1 : IntKind.i64.wrap ((i : Int) + 1) = ((i + 1 : Nat) : Int) := by rw [i64_in (by omega) (by omega)]; rfl
    have wS := hF.g.wf
    obtain ⟨nS, hnx⟩ : ∃ n, S.nx = up 0 n := ⟨_, up0 _⟩
    have gb : Gr S (S.new fun t => .cells t [ofL [102, 97], ofL [102, 98], ofL [102, 99], ofL [102, 100]]) := Gr.new wS (good_cells _)
    have hsg : SlAt (fun r => r = up 0 nS) (S.new fun t => .cells t [ofL [102, 97], ofL [102, 98], ofL [102, 99], ofL [102, 100]]) (.slx (up 0 nS) 0 4 1 4) 1 (strs sgNms) := SlAt.freshx (es := strs sgNms) (t := S.t) (by simp only [XZ, simprocAttr, hnx]; rfl) rfl (by decide)
    have hi4 : i < sgNms.length := h4
    obtain ⟨N, hN⟩ : ∃ N, N = sgNms[i] := ⟨_, rfl⟩
    obtain ⟨ra, oa, a1, rfl, a3, a4⟩ := nms_elem hsg hi4
    rw [← hN] at a4
    obtain ⟨rb, ob, kb, vb, b1, b2, b4, b5, b6', kes, kb1, kb2, kb3, kb4⟩ := (h3.gr hF.g).elem (i := i) hi
    rw [wC_seqj, wC_seq]; simp only [XY, simprocAttr, f2, f11, l3, hi', h4']
    rw [wC_seqj]; simp only [XY, simprocAttr]
    simp only [XY, simprocAttr, hnx] at a4
    have orb := fun k => nes (ne_up wS hnx b2 k)
    rw [wC_seq]; simp only [XY, simprocAttr, f2, f8, f11, hnx, a1, a4, b1, b4, orb]
    obtain ⟨Sb, hSb⟩ : ∃ Sb, Sb = (S.new fun t => .cells t [ofL [102, 97], ofL [102, 98], ofL [102, 99], ofL [102, 100]]) := ⟨_, rfl⟩
    rw [← hSb] at gb ⊢
    clear hSb
    refine wCall_marked (T4 (wf_low gb.wf Sb.t) ((b5.gr gb).imp fun r p _ => ⟨p, rfl⟩) (((hnv hnS).gr gb).imp fun r p _ => ⟨p, rfl⟩)) ?_
    rintro _ Sa gt ⟨x, rfl, hx⟩
    obtain ⟨X, hX⟩ : ∃ X, X = treeS nms 4 ss[i] := ⟨_, rfl⟩
    rw [← hX] at hx
    have hx0 := hx
    obtain ⟨xn, xk, xe, rfl, u1, u2, u3, u4⟩ := hx.inv
    have d1 := u1.cells
    have d2 := u1.sc
    have d3 := u2.cells
    have d4 := u2.sc
    have ga := gb.trans gt
    have wa := gt.wf
    obtain ⟨na, hna⟩ : ∃ n, Sa.nx = up 0 n := ⟨_, up0 _⟩
    simp only [XY, simprocAttr, hna, d1, d2, d3, d4, apartAll_nil]
    obtain ⟨b12, hb12⟩ : ∃ b, b = up 0 na := ⟨_, rfl⟩
    have n12 : Sa.row b12 = .none := by rw [hb12]; exact nx0 wa hna 0
    obtain ⟨Sc, hSc⟩ : ∃ Sc, Sc = ((Sa.new fun t => .cells t [ofL [], .snil, .int .i64 0, ofL [], .snil, .snil]).wr (up 0 na) Sa.t fun u => .cells u [ofL N, .snil, .int .i64 X.kind, ofL X.name, xn, xk]) := ⟨_, rfl⟩
    have gc : Gr Sa Sc := by rw [hSc]; exact (Gr.refl wa).nw hna (good_cells _) (good_cells _)
    obtain ⟨t12, r12⟩ : ∃ t, Sc.row b12 = .cells t [ofL N, .snil, .int .i64 X.kind, ofL X.name, xn, xk] := ⟨_, by rw [hSc, hb12]; simp only [XZ, simprocAttr, hna]; rfl⟩
    rw [← hSc, ← hb12]
    clear hSc
    obtain ⟨B', hB'⟩ : ∃ B' : Pt → Prop, ∀ r, B' r ↔ (Sa.row r ≠ .none ∨ r = b12) := ⟨_, fun _ => Iff.rfl⟩
    have B12 : B' b12 := (hB' _).2 (.inr rfl)
    have Bc : ∀ r, B' r → Sc.row r ≠ .none := fun r h => by
     rcases (hB' _).1 h with h | h
     ·rw [gc.same r h]; exact h
     ·rw [h]; exact ne_cells r12
    have hget := sigsOf_get nms ss i hi4 hi (by omega)
    rw [← hN, ← hX] at hget
    have hpl := paramsOf_len nms ss[i]
    obtain ⟨ps, hps⟩ : ∃ ps, ps = paramsOf nms ss[i] := ⟨_, rfl⟩
    rw [← hps] at hget hpl
    obtain ⟨J4, hJ4⟩ : ∃ J : Fr → St → Prop, ∀ fr S, J fr S ↔ (∃ pv t, fr 2 = v3 ∧ fr 6 = .ptr b6 0 ∧ fr 7 = .ptr b7 0 ∧ fr 8 = nv ∧ fr 11 = .int .i64 i ∧ fr 12 = .ptr b12 0 ∧ LsF TyC Sa Sc B' 4 S pv ps ∧ S.row b12 = .cells t [ofL N, pv, .int .i64 X.kind, ofL X.name, xn, xk]) := ⟨_, fun _ _ => Iff.rfl⟩
    refine wC_cut J4 ?_ ?_
    ·rw [wC_seq]; simp only [XY, simprocAttr]
     obtain ⟨L4, hL4⟩ : ∃ L : Nat → Fr → St → Prop, ∀ j fr S, L j fr S ↔ ∃ (k : Nat) (pv : V) (t : Nat), j + k = min 3 ss[i].kids.length ∧ fr 2 = v3 ∧ fr 6 = .ptr b6 0 ∧ fr 7 = .ptr b7 0 ∧ fr 8 = nv ∧ fr 11 = .int .i64 i ∧ fr 12 = .ptr b12 0 ∧ fr 13 = .int .i64 k ∧ LsF TyC Sa Sc B' 4 S pv (ps.take k) ∧ S.row b12 = .cells t [ofL N, pv, .int .i64 X.kind, ofL X.name, xn, xk] := ⟨_, fun _ _ _ => Iff.rfl⟩
     refine wC_loop L4 (min 3 ss[i].kids.length) (by omega) ((hL4 _ _ _).2 ⟨0, .snil, t12, by omega, by simp only [XZ, simprocAttr, f2], by simp only [XZ, simprocAttr, f6], by simp only [XZ, simprocAttr, f7], by simp only [XZ, simprocAttr, f8], by simp only [XZ, simprocAttr, f11], by simp only [XZ, simprocAttr], by simp only [XZ, simprocAttr] <;> rfl, LsF.nil gc, r12⟩) ?_
     clear f2 f6 f7 f8 f11 r12
     intro j' fr S' hLj
     obtain ⟨k, pv, tt, hj', f2, f6, f7, f8, f11, f12, f13, hF', r12⟩ := (hL4 _ _ _).1 hLj
     have done' : ∀ fr', k = min 3 ss[i].kids.length → fr' 2 = v3 → fr' 6 = .ptr b6 0 → fr' 7 = .ptr b7 0 → fr' 8 = nv → fr' 11 = .int .i64 i → fr' 12 = .ptr b12 0 → J4 fr' S' := fun fr' e x1 x2 x3 x4 x5 x6 => (hJ4 _ _).2 ⟨pv, tt, x1, x2, x3, x4, x5, x6, by rw [List.take_of_length_le (by omega)] at hF'; exact hF', r12⟩
     have gS : Gr S S' := ga.trans hF'.g
     have b2' : S'.row rb ≠ .none := by rw [gS.same rb b2]; exact b2
     rw [← gS.same rb b2] at b4 b6'
     have kl : lenLV kb = some (.int .i64 ss[i].kids.length, .no) := by rw [kb1.len, kb2]
     by_cases hk : k < ss[i].kids.length
     ·have hk' : (k : Int) < ss[i].kids.length := by omega
      by_cases hk3 : k < 3
      ·have hk3' : (k : Int) < 3 := by omega
       have hadk : IntKind.i64.wrap ((k : Int) + 1) = ((k + 1 : Nat) : Int) := by rw [i64_in (by omega) (by omega)]; rfl
       obtain ⟨rc, oc, k1, k2, k3, k4, k5⟩ := kb1.elem (i := k) (by omega)
       have hkid := (kb4 k (by omega) hk).gr gS
       rw [← gS.same rc k3] at k4
       rw [wC_seqj, wC_seq]; simp only [XY, simprocAttr, f2, f11, f13, b1, b6', kl, hk', hk3']
       rw [wC_seqj]; simp only [XY, simprocAttr]
       simp only [XY, simprocAttr, f2, f8, f11, f12, f13, r12, b1, b6', k1, k4]
       refine wCall_marked (T4 (wf_low hF'.g.wf S'.t) (hkid.imp fun r p _ => ⟨p, rfl⟩) (((hnv hnS).gr gS).imp fun r p _ => ⟨p, rfl⟩)) ?_
       rintro _ Se ge ⟨y, rfl, hy⟩
       have hpi : k < ps.length := by omega
       have hpg : ps[k] = treeS nms 4 ss[i].kids[k] := by
        have := paramsOf_get nms ss[i] k hk (by rw [← hps]; exact hpi)
        rw [← this]
        simp only [hps]
       obtain ⟨Y, hY⟩ : ∃ Y, Y = treeS nms 4 ss[i].kids[k] := ⟨_, rfl⟩
       rw [← hY] at hy hpg
       have hy0 := hy
       obtain ⟨yn, yk, ye, rfl, z1, z2, z3, z4⟩ := hy.inv
       have e1 := z1.cells
       have e2 := z1.sc
       have e3 := z2.cells
       have e4 := z2.sc
       have we := ge.wf
       obtain ⟨ne, hne⟩ : ∃ n, Se.nx = up 0 n := ⟨_, up0 _⟩
       have Fe := hF'.gr (C := TyC) TyC.imp ge
       have re := ge.cells r12
       simp only [XY, simprocAttr, hne, e1, e2, e3, e4]
       have gn : Gr Se (Se.new fun t => .cells t [.int .i64 Y.kind, ofL Y.name, yn, yk]) := Gr.new we (good_cells _)
       have Fg := Fe.gr (C := TyC) TyC.imp gn
       have hone := one_at (st := Se) (z := 4) (e := [.int .i64 Y.kind, ofL Y.name, yn, yk]) rfl
       rw [hne] at hone
       refine wW_appL (C := TyC) TyC.imp Fg hone (by simp only [allSc, List.all_cons, List.all_nil, e2, e4]; rfl) (hy0.imp fun r p e => ⟨⟨fun b => hF'.live r (Bc r b) p, fun e => hF'.alive e p⟩, gn.same r e⟩) Bc (by rw [List.length_take]; omega) fun Sf vf Ff kp => ?_
       rw [← hpg, ← List.take_succ_eq_append_getElem hpi] at Ff
       have d5 := Ff.sc
       have rg := gn.cells re
       have rf := (kp b12 (ne_cells rg) fun e => Bc b12 B12 (hF'.own _ e)).trans rg
       simp only [XZ, simprocAttr, f12, f13, rf, hadk, apartAll_nil, d5.1, d5.2]
       exact ⟨j' - 1, by omega, (hL4 _ _ _).2 ⟨k + 1, vf, _, by omega, by simp only [XZ, simprocAttr, f2], by simp only [XZ, simprocAttr, f6], by simp only [XZ, simprocAttr, f7], by simp only [XZ, simprocAttr, f8], by simp only [XZ, simprocAttr, f11], by simp only [XZ, simprocAttr, f12], by simp only [XZ, simprocAttr], Ff.wr (C := TyC) TyC.imp B12 n12 (Bc _ B12) rf, row_wr_same _ _ _ _⟩⟩
      ·have hk3' : ¬ (k : Int) < 3 := by omega
       simp only [XZ, simprocAttr, f2, f11, f13, b1, b6', kl, hk', hk3']
       exact done' _ (by omega) (by simp only [XZ, simprocAttr, f2]) (by simp only [XZ, simprocAttr, f6]) (by simp only [XZ, simprocAttr, f7]) (by simp only [XZ, simprocAttr, f8]) (by simp only [XZ, simprocAttr, f11]) (by simp only [XZ, simprocAttr, f12])
     ·have hk' : ¬ (k : Int) < ss[i].kids.length := by omega
      simp only [XZ, simprocAttr, f2, f11, f13, b1, b6', kl, hk']
      exact done' _ (by omega) (by simp only [XZ, simprocAttr, f2]) (by simp only [XZ, simprocAttr, f6]) (by simp only [XZ, simprocAttr, f7]) (by simp only [XZ, simprocAttr, f8]) (by simp only [XZ, simprocAttr, f11]) (by simp only [XZ, simprocAttr, f12])
    clear f2 f6 f7 f8 f11 r12
    intro fr S' hJf
    obtain ⟨pv, tt, f2, f6, f7, f8, f11, f12, hF', r12⟩ := (hJ4 _ _).1 hJf
    have gS : Gr S S' := ga.trans hF'.g
    have r7' := gS.cells r7
    have r6' := gS.cells r6
    have d5 := hF'.sc
    have hpv := hF'.lst (C := TyC) TyC.imp Bc
    obtain ⟨ns', hns⟩ : ∃ n, S'.nx = up 0 n := ⟨_, up0 _⟩
    have ws := hF'.g.wf
    have F' := hF.gr (C := SgC) SgC.imp gS
    simp only [XY, simprocAttr, f7, f12, r7', r12, d1, d2, d3, d4, d5.1, d5.2, hns]
    have gn : Gr S' (S'.new fun t => .cells t [ofL N, pv, .int .i64 X.kind, ofL X.name, xn, xk]) := Gr.new ws (good_cells _)
    have Fg := F'.gr (C := SgC) SgC.imp gn
    have hone := one_at (st := S') (z := 6) (e := [ofL N, pv, .int .i64 X.kind, ofL X.name, xn, xk]) rfl
    rw [hns] at hone
    have sub : ∀ r, Sa.row r = .none → ¬ B r ∧ rowOf sv ≠ some r := fun r p => by
     have p : S.row r = .none := Ch.fresh (Ch.of (fun _ => False) ga) p
     exact ⟨fun b => hF.live r (B2 r b) p, fun e => hF.alive e p⟩
    have sub2 : ∀ r, Sb.row r = .none → ¬ B r ∧ rowOf sv ≠ some r := fun r p => by
     have p : S.row r = .none := Ch.fresh (Ch.of (fun _ => False) gb) p
     exact ⟨fun b => hF.live r (B2 r b) p, fun e => hF.alive e p⟩
    have h6 : SgC (fun r => ¬ B r ∧ rowOf sv ≠ some r) (S'.new fun t => .cells t [ofL N, pv, .int .i64 X.kind, ofL X.name, xn, xk]) [ofL N, pv, .int .i64 X.kind, ofL X.name, xn, xk] ⟨N, ps, X⟩ := by
     refine ⟨pv, _, rfl, ?_, ?_⟩
     ·exact hpv.imp (fun e x h => h.imp fun r p e => ⟨sub r (Classical.byContradiction fun n => p ((hB' _).2 (.inl n))), gn.same r e⟩) fun r p e => ⟨sub r (Classical.byContradiction fun n => p ((hB' _).2 (.inl n))), gn.same r e⟩
     ·exact hx0.imp fun r p e => ⟨sub2 r p, by rw [gn.same r (by rw [hF'.g.same r e]; exact e), hF'.g.same r e]; rfl⟩
    refine wW_appL (C := SgC) SgC.imp Fg hone (by simp only [allSc, List.all_cons, List.all_nil, d2, d4, d5.1]; rfl) h6 B2 (by rw [List.length_take]; omega) fun S4 v4 F4 kp => ?_
    rw [← hget, ← List.take_succ_eq_append_getElem (by omega)] at F4
    have d6 := F4.sc
    have r62 := gn.cells r6'
    have r64 := (kp b6 (ne_cells r62) fun e => B2 b6 B6 (hF.own _ e)).trans r62
    have r72 := gn.cells r7'
    have r74 := (kp b7 (ne_cells r72) fun e => B2 b7 B7 (hF.own _ e)).trans r72
    simp only [XZ, simprocAttr, f7, r74, f11, hadd1, apartAll_nil, d6.1, d6.2]
    exact ⟨j - 1, by omega, (hL _ _ _).2 ⟨i + 1, v4, _, by omega, by simp only [XZ, simprocAttr, f2], by simp only [XZ, simprocAttr, f6], by simp only [XZ, simprocAttr, f7], by simp only [XZ, simprocAttr, f8], by simp only [XZ, simprocAttr], F4.wr (C := SgC) SgC.imp B7 n7 (B2 _ B7) r74, row_wr_same _ _ _ _, (row_wr_ne _ _ _ ne67).trans r64⟩⟩
   ·have h4' : ¬ (i : Int) < 4 := by omega
    simp only [XZ, simprocAttr, f2, f11, l3, hi', h4']
    exact done _ (by omega) (by simp only [XZ, simprocAttr, f6]) (by simp only [XZ, simprocAttr, f7])
  ·have hi' : ¬ (i : Int) < ss.length := by omega
   simp only [XZ, simprocAttr, f2, f11, l3, hi']
   exact done _ (by omega) (by simp only [XZ, simprocAttr, f6]) (by simp only [XZ, simprocAttr, f7])
 clear f2 f3 f6 f7 f8 r7 r6 r3
 intro fr S hJf
 obtain ⟨sv, t, f6, f7, hF, r7, r6⟩ := (hJ3 _ _).1 hJf
 have d5 := hF.sc
 have d6 := hlt.sc
 simp only [XZ, simprocAttr, f6, f7, r7, r6, y1, y2, y3, y4, d5.1, d5.2, d6.1, d6.2]
 have FE := hF.wr (C := SgC) SgC.imp (c' := [.int .i64 M.kind, ofL M.name, mn, mk, tv, sv]) B6 n6 (B2 _ B6) r6
 have hst : ∀ r, ¬ B r → st.row r = .none := fun r n => Classical.byContradiction fun e => n ((hB _).2 (.inl e))
 have hsg := FE.lst (C := SgC) SgC.imp B2
 refine ⟨FE.g, _, rfl, ⟨[.int .i64 M.kind, ofL M.name, mn, mk], tv, sv, rfl, ?_, ?_, ?_⟩⟩
 ·have := hMt.imp fun r p e => ⟨hst r p, FE.keep r e p⟩
  rw [hM] at this ⊢
  rw [hnms] at this ⊢
  exact this
 ·have := hlt.imp (fun e x h => h.imp fun r p e => ⟨hst r p, FE.keep r e p⟩) fun r p e => ⟨hst r p, FE.keep r e p⟩
  rw [hnms] at this
  exact this
 ·have := hsg.imp (fun e x h => h.imp fun r p e => ⟨hst r p, rfl⟩) fun r p e => ⟨hst r p, rfl⟩
  rw [hnms] at this
  exact this
end Go.Proofs.Ytbjfmnjnonnmeaa
