/- What is wrong with a schema. Raw trees: few, a kid, a name. A name and a type put into a type. The type that a raw tree is made into. Raw trees, few of all. Schemas made of raw trees. No condition. -/
import Derived.Test.YtjdphbjnoblnaaaQ1
set_option linter.unusedVariables false
set_option linter.unusedSimpArgs false
set_option maxRecDepth 100000
namespace Go.Proofs.Ytjdphbjnoblnaaa
open Eva Go.RowKit
set_option maxHeartbeats 8000000 in
theorem checkP {P : Pt → Prop} {st : St} {e1 : List V} {s : Sch} (hw : WF st) (h : SchC P st e1 s) (hP : ∀ r, P r → st.row r ≠ .none) :
  Does (tabT tabD) n_shape_Check [.agg e1] st fun v' st' => Gr st st' ∧ v' = .int .i64 (checkS s) := by
 refine does_fnG tabM at_shape_Check rfl hw fun K fin => ?_
 obtain ⟨n, hn0⟩ : ∃ n, st.nx = up 0 n := ⟨_, up0 _⟩
 have hchk := checkS_eq s
 have hev := everyS_eq s
 have hsch := h
 obtain ⟨c, tv, sv, rfl, h1, h2, h3⟩ := h
 obtain ⟨M, hM⟩ : ∃ M, M = s.main := ⟨_, rfl⟩
 obtain ⟨l, hll⟩ : ∃ l, l = s.types := ⟨_, rfl⟩
 obtain ⟨fs, hfs⟩ : ∃ l, l = s.sigs := ⟨_, rfl⟩
 rw [← hM] at h1
 rw [← hll] at h2
 rw [← hfs] at h3
 rw [← hll, ← hM, ← hfs] at hchk hev
 have hM0 := h1
 obtain ⟨nv, kv, es, rfl, x1, x2, x3, x4⟩ := h1.inv
 have l1 := h2.len
 have l2 := h3.len
 have cs1 := x1.cells
 have cs2 := x1.sc
 have cs3 := x2.cells
 have cs4 := x2.sc
 have cv1 := h2.sc
 have cv2 := h3.sc
 simp only [cf_shape_Check, XY, simprocAttr]
 rw [wC_seq]; simp only [XY, simprocAttr, hn0, cs1, cs2, cs3, cs4, cv1.1, cv1.2, cv2.1, cv2.2]
 obtain ⟨S, hS⟩ : ∃ S0, S0 = (st.new fun t => .cells t [.int .i64 M.kind, ofL M.name, nv, kv, tv, sv]) := ⟨_, rfl⟩
 have g0 : Gr st S := by rw [hS]; exact Gr.new hw (good_cells _)
 obtain ⟨t0, r0⟩ : ∃ t, S.row (up 0 n) = .cells t [.int .i64 M.kind, ofL M.name, nv, kv, tv, sv] := ⟨_, by rw [hS]; simp only [XZ, simprocAttr, hn0]; rfl⟩
 rw [← hS]
 clear hS
 by_cases b1 : 12 < l.length
 ·have b1' : (12 : Int) < l.length := by omega
  rw [wC_seqj, wC_seq]; simp only [XZ, simprocAttr, r0, l1, b1']
  refine fin _ _ (fun r e => g0.same r e) fun _ => ?_
  rw [hchk, if_pos (.inl b1)]
 have b1' : ¬ (12 : Int) < l.length := by omega
 by_cases b2 : 12 < fs.length
 ·have b2' : (12 : Int) < fs.length := by omega
  rw [wC_seqj, wC_seq]; simp only [XZ, simprocAttr, r0, l1, l2, b1', b2']
  refine fin _ _ (fun r e => g0.same r e) fun _ => ?_
  rw [hchk, if_pos (.inr b2)]
 have b2' : ¬ (12 : Int) < fs.length := by omega
 rw [if_neg (fun h => by rcases h with h | h; exact b1 h; exact b2 h)] at hchk
 rw [wC_seqj, wC_seq]; simp only [XY, simprocAttr, r0, l1, l2, b1', b2']
 rw [wC_seqj, wC_seq]; simp only [XY, simprocAttr, r0]
 refine wCall_plain (typesC (P := P) g0.wf (h2.imp (fun e x h => h.imp fun r p e => ⟨p, g0.same r e⟩) fun r p e => ⟨p, g0.same r e⟩) (by omega)) ?_
 rintro _ S1 ⟨g1, rfl⟩
 have G1 := g0.trans g1
 have r0 := g1.cells r0
 by_cases ht0 : typesS none (l.map Prod.fst) = 0
 rotate_left
 ·simp only [XZ, simprocAttr, ht0]
  refine fin _ _ (fun r e => G1.same r e) fun _ => ?_
  rw [hchk, if_pos ht0]
 rw [if_neg (fun h => h ht0)] at hchk
 have hnd := typesS_nodup ht0
 simp only [XY, simprocAttr]
 rw [wC_seq]; simp only [XY, simprocAttr, ht0]
 rw [wC_seq]; simp only [XY, simprocAttr, r0]
 refine wCall_plain (namedC (P := P) g1.wf (hsch.imp fun r p e => ⟨p, G1.same r e⟩) (by rw [← hll]; omega) (by rw [← hll]; exact hnd)) ?_
 rintro _ S2 ⟨g2, rm, rfl, hrm, hnm⟩
 rw [← hll] at hnm
 have r0 := g2.cells r0
 have G2 := G1.trans g2
 have w2 := g2.wf
 obtain ⟨n2, hn2⟩ : ∃ n, S2.nx = up 0 n := ⟨_, up0 _⟩
 simp only [XY, simprocAttr, hn2, sc_mnil, cells_mnil]
 obtain ⟨S3, hS3⟩ : ∃ S3, S3 = (S2.new fun t => .cells t [.map rm, .int .i64 0]) := ⟨_, rfl⟩
 have g3 : Gr S2 S3 := by rw [hS3]; exact Gr.new w2 (good_cells _)
 obtain ⟨kr, hkr⟩ : ∃ p, p = up 0 n2 := ⟨_, rfl⟩
 obtain ⟨tk, rk⟩ : ∃ u, S3.row kr = .cells u [.map rm, .int .i64 0] := ⟨_, by rw [hS3, hkr]; simp only [XZ, simprocAttr, hn2]; rfl⟩
 have qk2 : S2.row kr = .none := by rw [hkr]; exact nx0 w2 hn2 0
 rw [← hS3, ← hkr]
 clear hS3
 have G3 := G2.trans g3
 have n0k : up 0 n ≠ kr := fun h => by rw [h, qk2] at r0; cases r0
 have r0 := g3.cells r0
 have hmn : S2.row rm ≠ .none := by obtain ⟨_, h, _⟩ := hnm; exact h.ne
 have qk : st.row kr = .none := Ch.fresh (Ch.of (fun _ => False) G2) qk2
 have old_k : ∀ r, st.row r ≠ .none → r ≠ kr := fun r e h => e (by rw [h]; exact qk)
 have L3 : LookAt P S3 kr rm l 0 :=
  ⟨hnm.imp (g3.same rm hmn) fun r p e => ⟨p, g3.same r e⟩, ⟨tk, rk⟩, fun r p => old_k r (hP r p), fun e => hmn (by rw [e]; exact qk2)⟩
 have keep : ∀ {S' : St}, Ch (fun r => r = kr) S3 S' → ∀ r, st.row r ≠ .none → S'.row r = st.row r := fun c r e => by rw [c.same r (by rw [G3.same r e]; exact e) (old_k r e), G3.same r e]
 have kcell : ∀ {S' : St} {p : Pt} {u : Nat} {x : List V}, Ch (fun r => r = kr) S3 S' → S3.row p = .cells u x → p ≠ kr → S'.row p = .cells u x := fun c e n => by rw [c.same _ (ne_cells e) n, e]
 obtain ⟨J1, hJ1⟩ : ∃ J : Fr → St → Prop, ∀ fr S, J fr S ↔ (fr 1 = .ptr (up 0 n) 0 ∧ fr 4 = .ptr kr 0 ∧ Ch (fun r => r = kr) S3 S ∧ LookAt P S kr rm l (maysS (hasN l) (l.map Prod.snd) 1 0).2 ∧ (maysS (hasN l) (l.map Prod.snd) 1 0).1 = 0) := ⟨_, fun _ _ => Iff.rfl⟩
 refine wC_cut J1 ?_ ?_
 ·rw [wC_seq]; simp only [XY, simprocAttr, r0, l1]
  obtain ⟨I, hI⟩ : ∃ I : Nat → Fr → St → Prop, ∀ j fr S, I j fr S ↔ ∃ (i met : Nat), j + i = l.length ∧ fr 1 = .ptr (up 0 n) 0 ∧ fr 4 = .ptr kr 0 ∧ fr 33 = tv ∧ fr 34 = .int .i64 l.length ∧ fr 35 = .int .i64 i ∧ Ch (fun r => r = kr) S3 S ∧ LookAt P S kr rm l met ∧ met ≤ 400 ∧ maysS (hasN l) (l.map Prod.snd) 1 0 = maysS (hasN l) ((l.map Prod.snd).drop i) 1 met := ⟨_, fun _ _ _ => Iff.rfl⟩
  refine wC_loop I l.length (by omega) ((hI _ _ _).2 ⟨0, 0, by omega, by simp only [XZ, simprocAttr], by simp only [XZ, simprocAttr], by simp only [XZ, simprocAttr], by simp only [XZ, simprocAttr], by simp only [XZ, simprocAttr] <;> rfl, Ch.refl _ g3.wf, L3, by omega, rfl⟩) ?_
  intro j fr S hIj
  obtain ⟨i, met, hj, f1, f4, f33, f34, f35, hC, hL, hmet, hrec⟩ := (hI _ _ _).1 hIj
  by_cases hi : i < l.length
  ·have hi' : (i : Int) < l.length := by omega
   obtain ⟨r, q, nv1, kv1, a1, a3, a4, hty, d1, d2, d3, d4⟩ := nm_elem h2 (keep hC) hi
   obtain ⟨N, hN'⟩ : ∃ N, N = l[i].1 := ⟨_, rfl⟩
   obtain ⟨T, hT⟩ : ∃ T, T = l[i].2 := ⟨_, rfl⟩
   rw [← hT] at hty
   rw [← hN', ← hT] at a4
   have hd : (l.map Prod.snd).drop i = T :: (l.map Prod.snd).drop (i + 1) := by
    rw [List.drop_eq_getElem_cons (by simpa using hi), List.getElem_map, ← hT]
   rw [hd, maysS_cons] at hrec
   have wS := hC.wf
   obtain ⟨nS, hnS⟩ : ∃ n, S.nx = up 0 n := ⟨_, up0 _⟩
   have oq := fun k => nes (ne_up wS hnS a3 k)
   have hadd1 : IntKind.i64.wrap ((i : Int) + 1) = ((i + 1 : Nat) : Int) := by rw [i64_in (by omega) (by omega)]; rfl
   rw [wC_seq]; simp only [XY, simprocAttr, f34, f35, hi']
   rw [wC_seqj]; simp only [XY, simprocAttr]
   rw [wC_seqj]; simp only [XY, simprocAttr]
   rw [wC_seq]; simp only [XY, simprocAttr, f33, f35, a1, a4, hnS, oq, d1, d2, d3, d4]
   obtain ⟨S4, hS4⟩ : ∃ S1, S1 = ((S.new fun t => .cells t [ofL [], .int .i64 0, ofL [], .snil, .snil]).wr (up 0 nS) S.t fun u => .cells u [ofL N, .int .i64 T.kind, ofL T.name, nv1, kv1]) := ⟨_, rfl⟩
   have g4 : Gr S S4 := by rw [hS4]; exact (Gr.refl wS).nw hnS (good_cells _) (good_cells _)
   obtain ⟨t4, r4⟩ : ∃ t, S4.row (up 0 nS) = .cells t [ofL N, .int .i64 T.kind, ofL T.name, nv1, kv1] := ⟨_, by rw [hS4]; simp only [XZ, simprocAttr, hnS]; rfl⟩
   rw [← hS4]
   rw [wC_seq]; simp only [XY, simprocAttr, f4, r4]
   refine wCall_plain (mayD (deep := 1) g4.wf (hL.gr g4) (hty.gr g4) (by decide) hmet) ?_
   rintro _ S5 ⟨c5, L5, rfl⟩
   have C5 : Ch (fun r => r = kr) S3 S5 := (hC.trans (Ch.of _ g4) fun r w => .inl w).trans c5 fun r w => .inl w
   have hm4 := mayS_met (hasN l) T 1 met hmet
   by_cases he : (mayS (hasN l) T 1 met).1 = 0
   ·rw [if_neg (by simpa using he)] at hrec
    simp only [XZ, simprocAttr, he, f35, hadd1]
    exact ⟨l.length - (i + 1), by omega, (hI _ _ _).2 ⟨i + 1, _, by omega, by simp only [XZ, simprocAttr, f1], by simp only [XZ, simprocAttr, f4], by simp only [XZ, simprocAttr, f33], by simp only [XZ, simprocAttr, f34], by simp only [XZ, simprocAttr], C5, L5, hm4.2 he, hrec⟩⟩
   ·rw [if_pos (by simpa using he)] at hrec
    simp only [XZ, simprocAttr, he]
    refine fin _ _ (keep C5) fun _ => ?_
    rw [hchk, hrec, if_pos he]
  ·have hi' : ¬ (i : Int) < l.length := by omega
   rw [List.drop_eq_nil_of_le (by simp; omega), maysS_nil] at hrec
   simp only [XZ, simprocAttr, f34, f35, hi']
   exact (hJ1 _ _).2 ⟨by simp only [XZ, simprocAttr, f1], by simp only [XZ, simprocAttr, f4], hC, by rw [hrec]; exact hL, by rw [hrec]⟩
 intro fr S hJf
 obtain ⟨f1, f4, hC, hL, hm0⟩ := (hJ1 _ _).1 hJf
 rw [if_neg (fun h => h hm0)] at hchk
 have hcn := maysS_cnt (hasN l) (l.map Prod.snd) 1 0 hm0
 have hmt := (maysS_met (hasN l) (l.map Prod.snd) 1 0 (by decide)).2 hm0
 obtain ⟨m1, hm1⟩ : ∃ m, m = (maysS (hasN l) (l.map Prod.snd) 1 0).2 := ⟨_, rfl⟩
 rw [← hm1] at hchk hL hmt hcn
 have r0' := kcell hC r0 n0k
 rw [wC_seqj, wC_seq]; simp only [XY, simprocAttr, f1, f4, r0', cs1, cs2, cs3, cs4]
 refine wCall_plain (mayD (deep := 1) hC.wf hL (hM0.imp fun r p e => ⟨p, keep hC r e⟩) (by decide) hmt) ?_
 rintro _ S4 ⟨c4, L4, rfl⟩
 have C4 : Ch (fun r => r = kr) S3 S4 := hC.trans c4 fun r w => .inl w
 by_cases he : (mayS (hasN l) M 1 m1).1 = 0
 rotate_left
 ·simp only [XZ, simprocAttr, he]
  refine fin _ _ (keep C4) fun _ => ?_
  rw [hchk, if_pos he]
 rw [if_neg (fun h => h he)] at hchk
 have hcnM := mayS_cnt (hasN l) M 1 m1 he
 have hmM := (mayS_met (hasN l) M 1 m1 hmt).2 he
 obtain ⟨m2, hm2⟩ : ∃ m, m = (mayS (hasN l) M 1 m1).2 := ⟨_, rfl⟩
 rw [← hm2] at hchk L4 hmM hcnM
 simp only [XY, simprocAttr]
 rw [wC_seq]; simp only [XY, simprocAttr, he]
 have r0' := kcell C4 r0 n0k
 rw [wC_seqj, wC_seq]; simp only [XY, simprocAttr, f1, f4, r0']
 refine wCall_plain (sigsC C4.wf L4 (h3.imp (fun e x h => h.imp fun r p e => ⟨p, keep C4 r e⟩) fun r p e => ⟨p, keep C4 r e⟩) (by omega) hmM) ?_
 rintro _ S5 ⟨c5, L5, rfl⟩
 have C5 : Ch (fun r => r = kr) S3 S5 := C4.trans c5 fun r w => .inl w
 by_cases hs0 : (sigsS (hasN l) none fs m2).1 = 0
 rotate_left
 ·simp only [XZ, simprocAttr, hs0]
  refine fin _ _ (keep C5) fun _ => ?_
  rw [hchk, if_pos hs0]
 rw [if_neg (fun h => h hs0)] at hchk
 obtain ⟨hp4, hpc, hms⟩ := sigsS_ok (hasN l) none fs m2 hmM hs0
 obtain ⟨m3, hm3⟩ : ∃ m, m = (sigsS (hasN l) none fs m2).2 := ⟨_, rfl⟩
 rw [← hm3] at L5 hms
 simp only [XY, simprocAttr]
 rw [wC_seq]; simp only [XY, simprocAttr, hs0]
 have r0' := kcell C5 r0 n0k
 have kst5 : ∀ {S' : St}, Gr S5 S' → ∀ r, st.row r ≠ .none → S'.row r = st.row r := fun g r e => by rw [g.same r (by rw [keep C5 r e]; exact e), keep C5 r e]
 obtain ⟨J2, hJ2⟩ : ∃ J : Fr → St → Prop, ∀ fr S, J fr S ↔ (fr 1 = .ptr (up 0 n) 0 ∧ fr 4 = .ptr kr 0 ∧ Gr S5 S ∧ (l.any fun p => !finS l p.2) = false) := ⟨_, fun _ _ => Iff.rfl⟩
 refine wC_cut J2 ?_ ?_
 ·rw [wC_seq]; simp only [XY, simprocAttr, f1, r0', l1]
  obtain ⟨I, hI⟩ : ∃ I : Nat → Fr → St → Prop, ∀ j fr S, I j fr S ↔ ∃ (i : Nat), j + i = l.length ∧ fr 1 = .ptr (up 0 n) 0 ∧ fr 4 = .ptr kr 0 ∧ fr 62 = tv ∧ fr 63 = .int .i64 l.length ∧ fr 64 = .int .i64 i ∧ Gr S5 S ∧ (l.any fun p => !finS l p.2) = ((l.drop i).any fun p => !finS l p.2) := ⟨_, fun _ _ _ => Iff.rfl⟩
  refine wC_loop I l.length (by omega) ((hI _ _ _).2 ⟨0, by omega, by simp only [XZ, simprocAttr, f1], by simp only [XZ, simprocAttr, f4], by simp only [XZ, simprocAttr], by simp only [XZ, simprocAttr], by simp only [XZ, simprocAttr] <;> rfl, Gr.refl C5.wf, rfl⟩) ?_
  clear f1 f4
  intro j fr S hIj
  obtain ⟨i, hj, f1, f4, f62, f63, f64, hg, hrec⟩ := (hI _ _ _).1 hIj
  by_cases hi : i < l.length
  ·have hi' : (i : Int) < l.length := by omega
   obtain ⟨r, q, nv1, kv1, a1, a3, a4, hty, d1, d2, d3, d4⟩ := nm_elem h2 (kst5 hg) hi
   rw [List.drop_eq_getElem_cons hi, List.any_cons] at hrec
   obtain ⟨N, hN'⟩ : ∃ N, N = l[i].1 := ⟨_, rfl⟩
   obtain ⟨T, hT⟩ : ∃ T, T = l[i].2 := ⟨_, rfl⟩
   rw [← hT] at hty hrec
   rw [← hN', ← hT] at a4
   have wS := hg.wf
   obtain ⟨nS, hnS⟩ : ∃ n, S.nx = up 0 n := ⟨_, up0 _⟩
   have oq := fun k => nes (ne_up wS hnS a3 k)
   have hadd1 : IntKind.i64.wrap ((i : Int) + 1) = ((i + 1 : Nat) : Int) := by rw [i64_in (by omega) (by omega)]; rfl
   rw [wC_seq]; simp only [XY, simprocAttr, f63, f64, hi']
   rw [wC_seqj]; simp only [XY, simprocAttr]
   rw [wC_seqj]; simp only [XY, simprocAttr]
   rw [wC_seq]; simp only [XY, simprocAttr, f62, f64, a1, a4, hnS, oq, d1, d2, d3, d4]
   obtain ⟨S6, hS6⟩ : ∃ S1, S1 = ((S.new fun t => .cells t [ofL [], .int .i64 0, ofL [], .snil, .snil]).wr (up 0 nS) S.t fun u => .cells u [ofL N, .int .i64 T.kind, ofL T.name, nv1, kv1]) := ⟨_, rfl⟩
   have g6 : Gr S S6 := by rw [hS6]; exact (Gr.refl wS).nw hnS (good_cells _) (good_cells _)
   obtain ⟨t6, r6⟩ : ∃ t, S6.row (up 0 nS) = .cells t [ofL N, .int .i64 T.kind, ofL T.name, nv1, kv1] := ⟨_, by rw [hS6]; simp only [XZ, simprocAttr, hnS]; rfl⟩
   rw [← hS6]
   have G6 := hg.trans g6
   have r0S := G6.cells r0'
   rw [wC_seq]; simp only [XY, simprocAttr, f1, r0S, r6]
   refine wCall_plain (finiteC (s := s) G6.wf (hsch.imp fun r p e => ⟨p, kst5 G6 r e⟩) (hty.gr g6) (by rw [← hll]; omega) (by rw [← hll]; exact hnd)) ?_
   rw [← hll]
   rintro _ S7 ⟨g7, rfl⟩
   cases hf : finS l T with
   | true =>
     rw [hf] at hrec
     simp only [XZ, simprocAttr, f64, hadd1]
     exact ⟨l.length - (i + 1), by omega, (hI _ _ _).2 ⟨i + 1, by omega, by simp only [XZ, simprocAttr, f1], by simp only [XZ, simprocAttr, f4], by simp only [XZ, simprocAttr, f62], by simp only [XZ, simprocAttr, f63], by simp only [XZ, simprocAttr], G6.trans g7, by rw [hrec]; rfl⟩⟩
   | false =>
     rw [hf] at hrec
     simp only [XZ, simprocAttr]
     refine fin _ _ (kst5 (G6.trans g7)) fun _ => ?_
     rw [hchk, hrec]; rfl
  ·have hi' : ¬ (i : Int) < l.length := by omega
   rw [List.drop_eq_nil_of_le (by omega)] at hrec
   simp only [XZ, simprocAttr, f63, f64, hi']
   exact (hJ2 _ _).2 ⟨by simp only [XZ, simprocAttr, f1], by simp only [XZ, simprocAttr, f4], hg, hrec⟩
 clear f1 f4
 intro fr S hJf
 obtain ⟨f1, f4, hg, hany⟩ := (hJ2 _ _).1 hJf
 rw [hany] at hchk
 have hchk : checkS s = if optssS l (everyS s) then 17 else 0 := hchk
 have r0S := hg.cells r0'
 rw [wC_seqj, wC_seq]; simp only [XY, simprocAttr, f1, r0S, cs1, cs2, cs3, cs4, cv1.1, cv1.2, cv2.1, cv2.2]
 refine wCall_plain (everyC (P := P) (Q := fun r => P r ∨ S.row r = .none) hg.wf (hsch.imp fun r p e => ⟨p, kst5 hg r e⟩) (by rw [← hll]; omega) (by rw [← hfs]; omega) (fun f hf => by have := hp4 f (by rw [hfs]; exact hf); omega) (fun r p => .inl p) fun r p => .inr p) ?_
 rintro ev S6 ⟨g6, hevl⟩
 have kS : S.row kr ≠ .none := by rw [hg.same kr L5.krne]; exact L5.krne
 have LS : LookAt (fun r => P r ∨ S.row r = .none) S kr rm l m3 := by
  have := L5.gr hg
  exact ⟨this.map.imp rfl fun r p _ => ⟨.inl p, rfl⟩, this.cell, fun r p => by rcases p with p | p; exact this.sep r p; exact fun e => kS (by rw [← e]; exact p), this.ne⟩
 have hcnt : ∀ t ∈ everyS s, cntT t < 1000000 := fun t ht => by
  rw [hev] at ht
  rcases List.mem_append.1 ht with ht | ht
  ·rcases List.mem_append.1 ht with ht | ht
   ·have := cnt_mem ht; omega
   ·rw [List.mem_singleton.1 ht]; omega
  ·unfold sgTys at ht
   obtain ⟨x, hx, htx⟩ := List.mem_flatten.1 ht
   obtain ⟨f, hf, rfl⟩ := List.mem_map.1 hx
   have h5 := cnt_mem htx
   have h6 := hpc f hf
   omega
 have hlenE : (everyS s).length < 1000000 := by
  have hk := sgTys_len fs fun f hf => by have := hp4 f hf; omega
  rw [hev]
  simp only [List.length_append, List.length_map, List.length_singleton]
  omega
 simp only [XY, simprocAttr, f4]
 refine wCall_plain (containsFuncC (fa := [.ptr kr 0]) (fb := []) (optsS l) g6.wf hevl hlenE fun i hi S' E' g' hE' => optsC _ _ (Nat.lt_succ_self _) _ S' kr rm l m3 E' g'.wf (LS.gr (g6.trans g')) hE' (by omega) (hcnt _ (List.getElem_mem hi))) ?_
 rintro _ S7 ⟨g7, rfl⟩
 rw [optssS_any] at hchk
 have GF := kst5 (hg.trans (g6.trans g7))
 cases ho : (everyS s).any (optsS l) with
 | true =>
   simp only [XZ, simprocAttr]
   refine fin _ _ GF fun _ => ?_
   rw [hchk, ho]; rfl
 | false =>
   simp only [XZ, simprocAttr]
   refine fin _ _ GF fun _ => ?_
   rw [hchk, ho]; rfl
theorem checkC {P : Pt → Prop} {st : St} {e1 : List V} {s : Sch} (hw : WF st) (h : SchC P st e1 s) :
  Does (tabT tabD) n_shape_Check [.agg e1] st fun v' st' => Gr st st' ∧ v' = .int .i64 (checkS s) :=
 checkP (P := fun r => P r ∧ st.row r ≠ .none) hw (h.imp fun r p e => ⟨⟨p, e⟩, rfl⟩) fun r p => p.2
theorem within3C (a n : Int) (st : St) (h0 : 0 < n) (h1 : n < 4611686018427387904) : Does (tabT tabD) n_spruelaw3_within [.int .i64 a, .int .i64 n] st fun v st' => v = .int .i64 (a % n) ∧ st = st' := by
 refine does_fn at_spruelaw3_within rfl ?_
 have hn : n ≠ 0 := by omega
 have e1 := Int.emod_nonneg a hn
 have e2 := Int.emod_lt_of_pos a h0
 rcases tmodC a h0 with ⟨h3, h4⟩ | ⟨h3, h4⟩
 ·simp only [cf_spruelaw3_within, XZ, simprocAttr, hn, h3]
  rw [h4]
 ·have hw : IntKind.i64.wrap (a.tmod n + n) = a % n := by rw [h4, i64_in (by omega) (by omega)]
  simp only [cf_spruelaw3_within, XZ, simprocAttr, hn, h3, hw]
theorem nameC (z : Int) (st : St) (hw : WF st) : Does (tabT tabD) n_spruelaw3_Name [.int .i64 z] st fun v st' => Gr st st' ∧ v = ofL (nameS z) := by
 refine does_fn at_spruelaw3_Name rfl ?_
 obtain ⟨q, hq⟩ : ∃ q, st.nx = q := ⟨_, rfl⟩
 simp only [cf_spruelaw3_Name, XZ, simprocAttr, hq]
 refine wCall_plain (within3C z 7 _ (by decide) (by decide)) ?_
 rintro _ _ ⟨rfl, rfl⟩
 have e1 := Int.emod_nonneg z (show (7 : Int) ≠ 0 by decide)
 have e2 := Int.emod_lt_of_pos z (show (0 : Int) < 7 by decide)
 obtain ⟨m, hm⟩ : ∃ m : Nat, z % 7 = m := ⟨(z % 7).toNat, by omega⟩
 have hs : nameS z = nms7.getD m [] := by unfold nameS; rw [hm]; rfl
 rw [hm] at e1 e2 ⊢
 rw [hs]
 clear hs hm
 have hg : ∀ l, Gr st (st.new fun u => .cells u l) := fun l => Gr.new hw (good_cells _)
 have hr : (st.new fun u => Row.cells u [ofL [97], ofL [98], ofL [99], ofL [110, 97, 109, 101], ofL [110], ofL [73, 110, 116], ofL [116, 121, 112, 101]]).row q = .cells st.t [ofL [97], ofL [98], ofL [99], ofL [110, 97, 109, 101], ofL [110], ofL [73, 110, 116], ofL [116, 121, 112, 101]] := by rw [← hq]; exact row_new_nx _ _
 have c : m = 0 ∨ m = 1 ∨ m = 2 ∨ m = 3 ∨ m = 4 ∨ m = 5 ∨ m = 6 := by omega
 rcases c with rfl | rfl | rfl | rfl | rfl | rfl | rfl
 all_goals simp only [XZ, simprocAttr, hr]
 all_goals first | exact ⟨⟨by decide, by decide⟩, hg _, rfl⟩ | exact ⟨hg _, rfl⟩
theorem wrap64 (z : Int) : In64 (IntKind.i64.wrap z) := by
 have h1 := Int.emod_nonneg z (show (18446744073709551616 : Int) ≠ 0 by decide)
 have h2 := Int.emod_lt_of_pos z (show (0 : Int) < 18446744073709551616 by decide)
 have e : IntKind.i64.wrap z = if (9223372036854775808 : Int) ≤ z % 18446744073709551616 then z % 18446744073709551616 - 18446744073709551616 else z % 18446744073709551616 := by
  simp [IntKind.wrap, IntKind.bits, IntKind.signed]
 unfold In64
 rw [e]
 split <;> omega
set_option maxHeartbeats 1000000 in
theorem kidC {P : Pt → Prop} {st : St} {e : List V} {r : Rw} (hw : WF st) (h : RwC P st e r) (i : Nat) (hi : i < 1000) : Does (tabT tabD) n_spruelaw3_kid [.agg e, .int .i64 i] st fun v st' => Gr st st' ∧ ∃ e', v = .agg e' ∧ RwC P st' e' (kidS r i) := by
 refine does_fn at_spruelaw3_kid rfl ?_
 obtain ⟨nv, kv, es, rfl, hk, hn, hz, h1, h2, h3, ⟨hl1, hl2⟩, h4⟩ := h.inv
 obtain ⟨n0, hn0⟩ : ∃ n, st.nx = up 0 n := ⟨_, up0 _⟩
 have c1 := h1.cells
 have s1 := h1.sc
 have c2 := h2.cells
 have s2 := h2.sc
 have len2 := h2.len
 simp only [cf_spruelaw3_kid, XY, simprocAttr]
 rw [wC_seq]; simp only [XY, simprocAttr, hn0, c1, s1, c2, s2]
 have rel : ∀ f g : Nat → Row, Gr st ((st.new f).new g) → True := fun _ _ _ => trivial
 have gg : Gr st ((st.new fun t => .cells t [.int .i64 r.kind, .int .i64 r.n, nv, kv]).new fun t => .cells t [.int .i64 0, .int .i64 0, .snil, .snil]) := ((Gr.refl hw).nn (good_cells _)).nn (good_cells _)
 by_cases h0 : r.kids.length = 0
 ·rw [h3, h0] at len2
  rw [wC_seqj, wC_seq]; simp only [XZ, simprocAttr, hn0, len2, Int.natCast_zero]
  have gw := gg.wr (p := up 1 n0) (f := fun u => .cells u [.int .i64 (IntKind.i64.wrap (r.n + i)), .int .i64 r.kind, .snil, .snil]) (nx0 hw hn0 1) (by simp only [XZ, simprocAttr, hn0]) (by simp only [XZ, simprocAttr, hn0]; rfl) (good_cells _)
  refine ⟨gw, _, rfl, ?_⟩
  rw [kidS, if_pos h0]
  exact .mk (es := []) (wrap64 _) hk (fun z hz => absurd hz (by simp)) (SlAt.nil _ _ _) (SlAt.nil _ _ _) rfl ⟨by decide, by decide⟩ fun i h => absurd h (by simp)
 ·have h0' : (es.length : Int) ≠ 0 := by omega
  rw [wC_seqj, wC_seq]; simp only [XY, simprocAttr, hn0, len2, h0']
  have hj : i % es.length < es.length := Nat.mod_lt _ (by omega)
  have hmod : (i : Int).tmod (es.length : Int) = ((i % es.length : Nat) : Int) := rfl
  obtain ⟨q, o, a1, a2, a3, a4, a5⟩ := h2.elem hj
  have hkid := h4 _ hj (by omega)
  obtain ⟨nv', kv', es', he, hk', hn', hz', b1, b2, b3, b4, b5⟩ := hkid.inv
  rw [he] at a4
  have c3 := b1.cells
  have s3 := b1.sc
  have c4 := b2.cells
  have s4 := b2.sc
  have oq := fun k => nes (ne_up hw hn0 a3 k)
  simp only [XZ, simprocAttr, hn0, len2, h0', hmod, a1, a4, c3, s3, c4, s4, oq]
  have gw := gg.wr (p := up 1 n0) (f := fun u => .cells u [.int .i64 r.kids[i % es.length].kind, .int .i64 r.kids[i % es.length].n, nv', kv']) (nx0 hw hn0 1) (by simp only [XZ, simprocAttr, hn0]) (by simp only [XZ, simprocAttr, hn0]; rfl) (good_cells _)
  refine ⟨gw, _, rfl, ?_⟩
  have e : ∀ j, j = i % r.kids.length → ∀ hj' : j < r.kids.length, kidS r i = r.kids[j] := by
   rintro j rfl hj'
   rw [kidS, if_neg h0]
   simp only [List.getD_eq_getElem?_getD, List.getElem?_eq_getElem hj', Option.getD_some]
  rw [e (i % es.length) (by rw [h3]) (by omega)]
  have := hkid.gr gw
  rw [he] at this
  exact this
set_option maxHeartbeats 1000000 in
theorem fewC {P : Pt → Prop} {st0 : St} {e : List V} {r : Rw} (h : RwC P st0 e r) : ∀ (st : St), Gr st0 st → ∀ most : Int, -4611686018427387904 < most → most < 4611686018427387904 → Does (tabT tabD) n_spruelaw3_Few [.agg e, .int .i64 most] st fun v st' => Gr st st' ∧ ∃ m, v = .int .i64 m ∧ 0 ≤ m ∧ (m ≤ most ∨ m = 0) := by
 induction h with
 | @mk rk rn zs ks nv kv es hk hn hz h1 h2 h3 hl h4 ih =>
 intro st g0 most hm1 hm2
 have hw := g0.wf
 refine does_fn at_spruelaw3_Few rfl ?_
 obtain ⟨n0, hn0⟩ : ∃ n, st.nx = up 0 n := ⟨_, up0 _⟩
 have c1 := h1.cells
 have s1 := h1.sc
 have c2 := h2.cells
 have s2 := h2.sc
 have len1 := h1.len
 have len2 := h2.len
 rw [cellsI_len] at len1
 simp only [cf_spruelaw3_Few, XY, simprocAttr]
 rw [wC_seq]; simp only [XY, simprocAttr, hn0, c1, s1, c2, s2]
 have gb : Gr st (st.new fun t => .cells t [.int .i64 rk, .int .i64 rn, nv, kv]) := Gr.new hw (good_cells _)
 by_cases h0 : most ≤ 0
 ·rw [wC_seqj, wC_seq]; simp only [XZ, simprocAttr, h0]
  exact ⟨gb, 0, rfl, by omega, .inr rfl⟩
 by_cases ha : (10 : Int) < es.length
 ·rw [wC_seqj, wC_seq]; simp only [XZ, simprocAttr, h0, hn0, len2, ha]
  exact ⟨gb, 0, rfl, by omega, .inr rfl⟩
 by_cases hb : (20 : Int) < zs.length
 ·rw [wC_seqj, wC_seq]; simp only [XZ, simprocAttr, h0, hn0, len2, len1, ha, hb]
  exact ⟨gb, 0, rfl, by omega, .inr rfl⟩
 rw [wC_seqj, wC_seq]; simp only [XY, simprocAttr, h0, hn0, len2, len1, ha, hb]
 have hsub : IntKind.i64.wrap (most - 1) = most - 1 := i64_in (by omega) (by omega)
 rw [wC_seq]; simp only [XY, simprocAttr, hsub]
 obtain ⟨J, hJ⟩ : ∃ J : Fr → St → Prop, ∀ fr S, J fr S ↔ (Gr st S ∧ ∃ m, fr 1 = .int .i64 m ∧ 0 ≤ m ∧ m ≤ most) := ⟨_, fun _ _ => Iff.rfl⟩
 refine wC_cut J ?_ ?_
 ·rw [wC_seq]; simp only [XY, simprocAttr]
  obtain ⟨L, hL⟩ : ∃ L : Nat → Fr → St → Prop, ∀ j fr S, L j fr S ↔ ∃ (i : Nat) (m t : Int), j + i = es.length ∧ Gr st S ∧ fr 1 = .int .i64 m ∧ 0 ≤ m ∧ m ≤ most ∧ fr 2 = .ptr (up 0 n0) 0 ∧ fr 5 = .int .i64 i ∧ S.row (up 0 n0) = .cells st.t [.int .i64 rk, .int .i64 rn, nv, kv] := ⟨_, fun _ _ _ => Iff.rfl⟩
  refine wC_loop L es.length (by omega) ((hL _ _ _).2 ⟨0, most - 1, 0, by omega, gb, by simp only [XZ, simprocAttr], by omega, by omega, by simp only [XZ, simprocAttr], by simp only [XZ, simprocAttr] <;> rfl, by rw [← hn0]; exact row_new_nx _ _⟩) ?_
  intro j fr S hLj
  obtain ⟨i, m, _, hj, hg, f1, hm3, hm4, f2, f5, rb⟩ := (hL _ _ _).1 hLj
  by_cases hi : i < es.length
  ·have hi' : (i : Int) < es.length := by omega
   by_cases hm0 : 0 < m
   ·obtain ⟨q, o, a1, a2, a3, a4, a5⟩ := (h2.gr (g0.trans hg)).elem hi
    have hadd1 : IntKind.i64.wrap ((i : Int) + 1) = ((i + 1 : Nat) : Int) := by rw [i64_in (by omega) (by omega)]; rfl
    simp only [XZ, simprocAttr, f1, f2, f5, rb, len2, hi', hm0, a1, a4]
    refine wCall_plain (ih i hi (by omega) S (g0.trans hg) m (by omega) (by omega)) ?_
    rintro _ S' ⟨g', m', rfl, b1, b2⟩
    simp only [XZ, simprocAttr, f1, f2, f5, hadd1]
    exact ⟨es.length - (i + 1), by omega, (hL _ _ _).2 ⟨i + 1, m', 0, by omega, hg.trans g', by simp only [XZ, simprocAttr], b1, by omega, by simp only [XZ, simprocAttr, f2], by simp only [XZ, simprocAttr], g'.cells rb⟩⟩
   ·simp only [XZ, simprocAttr, f1, f2, f5, rb, len2, hi', hm0]
    exact (hJ _ _).2 ⟨hg, m, by simp only [XZ, simprocAttr, f1], hm3, hm4⟩
  ·have hi' : ¬ (i : Int) < es.length := by omega
   simp only [XZ, simprocAttr, f1, f2, f5, rb, len2, hi']
   exact (hJ _ _).2 ⟨hg, m, by simp only [XZ, simprocAttr, f1], hm3, hm4⟩
 intro fr S hJf
 obtain ⟨hg, m, f1, hm3, hm4⟩ := (hJ _ _).1 hJf
 simp only [XZ, simprocAttr, f1]
 exact ⟨hg, m, rfl, hm3, .inl hm4⟩
theorem idx_ins {α β : Type} {R : α → β → Prop} {x : α} {y : β} (hxy : R x y) : ∀ (k : Nat) {es : List α} {ks : List β}, es.length = ks.length → (∀ i (h : i < es.length) (h' : i < ks.length), R es[i] ks[i]) → ∀ i (h : i < (es.take k ++ x :: es.drop k).length) (h' : i < (ks.take k ++ y :: ks.drop k).length), R (es.take k ++ x :: es.drop k)[i] (ks.take k ++ y :: ks.drop k)[i]
 | 0, es, ks, hl, h, i, h1, h2 => by
   simp only [List.take_zero, List.nil_append, List.drop_zero]
   cases i with
   | zero => exact hxy
   | succ i => exact h i (by simpa using h1) (by simpa using h2)
 | k + 1, [], [], hl, h, i, h1, h2 => by
   cases i with
   | zero => exact hxy
   | succ i => simp at h1
 | k + 1, e :: es, c :: ks, hl, h, i, h1, h2 => by
   cases i with
   | zero => exact h 0 (by simp) (by simp)
   | succ i => exact idx_ins hxy k (by simpa using hl) (fun j a b => h (j + 1) (by simpa using a) (by simpa using b)) i (by simpa using h1) (by simpa using h2)
theorem apart_cons {fr : Fr} {p : List Nat × List Nat} {l : List (List Nat × List Nat)} (h1 : apartAll fr [p] = true) (h2 : apartAll fr l = true) : apartAll fr (p :: l) = true := by
 simp only [apartAll, List.all_cons, List.all_nil, Bool.and_true] at h1 h2 ⊢
 rw [h1, Bool.true_and]; exact h2
set_option maxHeartbeats 4000000 in
theorem putC {P : Pt → Prop} {st : St} {t x : Ty} {te xe : List V} (n : Str) (hw : WF st) (ht : TyC P st te t) (hx : TyC P st xe x) (hlen : t.names.length ≤ 8) (hk : t.kids.length = t.names.length) (hP : ∀ r, st.row r = .none → P r) :
  Does (tabT tabD) n_spruelaw3_put [.agg te, ofL n, .agg xe] st fun v st' => Gr st st' ∧ ∃ e', v = .agg e' ∧ TyC P st' e' (putS t n x) := by
 refine does_fn at_spruelaw3_put rfl ?_
 obtain ⟨n0, hn0⟩ : ∃ n, st.nx = up 0 n := ⟨_, up0 _⟩
 have htt := ht
 have hxx := hx
 cases ht with
 | @mk tk tn ns ks nv kv es h1 h2 h3 h4 =>
 cases hx with
 | @mk xk xn xns xks xnv xkv xes x1 x2 x3 x4 =>
 simp only [Ty.names, Ty.kids] at hlen hk
 have c1 := h1.cells
 have s1 := h1.sc
 have c2 := h2.cells
 have s2 := h2.sc
 have c3 := x1.cells
 have s3 := x1.sc
 have c4 := x2.cells
 have s4 := x2.sc
 have len1 := h1.len
 rw [strs_len] at len1
 obtain ⟨b1, hb1⟩ : ∃ b, b = up 0 n0 := ⟨_, rfl⟩
 obtain ⟨b2, hb2⟩ : ∃ b, b = up 1 n0 := ⟨_, rfl⟩
 obtain ⟨b3, hb3⟩ : ∃ b, b = up 2 n0 := ⟨_, rfl⟩
 obtain ⟨I, hI⟩ : ∃ I : Fr → St → Prop, ∀ fr S, I fr S ↔ (fr 1 = ofL n ∧ fr 3 = .ptr b1 0 ∧ fr 5 = .ptr b2 0 ∧ fr 6 = .ptr b3 0 ∧ Gr st S ∧ (∃ t, S.row b1 = .cells t [.int .i64 tk, ofL tn, nv, kv]) ∧ (∃ t, S.row b2 = .cells t [.int .i64 xk, ofL xn, xnv, xkv]) ∧ (∃ t, S.row b3 = .cells t [.int .i64 0, ofL [], .snil, .snil])) := ⟨_, fun _ _ => Iff.rfl⟩
 have u01 : up 0 n0 ≠ up 1 n0 := by simp only [XZ, simprocAttr]
 have u02 : up 0 n0 ≠ up 2 n0 := by simp only [XZ, simprocAttr]
 have u12 : up 1 n0 ≠ up 2 n0 := by simp only [XZ, simprocAttr]
 simp only [cf_spruelaw3_put, XY, simprocAttr]
 refine wC_scut I ?_ ?_
 ·simp only [XZ, simprocAttr, hn0, c1, s1, c2, s2, c3, s3, c4, s4]
  refine (hI _ _).2 ⟨by simp only [XZ, simprocAttr], by simp only [XZ, simprocAttr, hb1], by simp only [XZ, simprocAttr, hb2], by simp only [XZ, simprocAttr, hb3], (((Gr.refl hw).nn (good_cells _)).nn (good_cells _)).nn (good_cells _), ⟨_, by rw [hb1]; simp only [XZ, simprocAttr, hn0]; rfl⟩, ⟨_, by rw [hb2]; simp only [XZ, simprocAttr, hn0]; rfl⟩, ⟨_, by rw [hb3]; simp only [XZ, simprocAttr, hn0]; rfl⟩⟩
 intro fr S1 hIf
 obtain ⟨f1, f3, f5, f6, g1, ⟨t1, r1⟩, ⟨t2, r2⟩, ⟨t3, r3⟩⟩ := (hI _ _).1 hIf
 obtain ⟨k, hkp⟩ : ∃ k, k = placeS n ns := ⟨_, rfl⟩
 have hkl : k ≤ ns.length := by rw [hkp]; exact placeS_le _ _
 have l1 : (strs ns).length = ns.length := strs_len _
 have elem : ∀ i (h : i < ns.length), ∃ q o, iaddrSV 1 nv (.int .i64 i) = some (.ptr q o, .no) ∧ ld1 (S1.row q) o = some (ofL ns[i], .no) := fun i h => by
  obtain ⟨q, o, a1, a2, a3, a4, a5⟩ := (h1.gr g1).elem (i := i) (by omega)
  refine ⟨q, o, a1, ?_⟩
  have e : (strs ns)[i] = [ofL ns[i]] := by simp [strs]
  have := a5 0 (by rw [e]; simp)
  simp only [e] at this
  exact this
 rw [wC_seq]; simp only [XY, simprocAttr]
 obtain ⟨J, hJ⟩ : ∃ J : Fr → St → Prop, ∀ fr S, J fr S ↔ (S1 = S ∧ fr 1 = ofL n ∧ fr 3 = .ptr b1 0 ∧ fr 5 = .ptr b2 0 ∧ fr 6 = .ptr b3 0 ∧ fr 7 = .int .i64 k) := ⟨_, fun _ _ => Iff.rfl⟩
 refine wC_cut J ?_ ?_
 ·simp only [XY, simprocAttr]
  obtain ⟨L, hL⟩ : ∃ L : Nat → Fr → St → Prop, ∀ j fr S, L j fr S ↔ ∃ i : Nat, j + i = k ∧ S1 = S ∧ fr 1 = ofL n ∧ fr 3 = .ptr b1 0 ∧ fr 5 = .ptr b2 0 ∧ fr 6 = .ptr b3 0 ∧ fr 7 = .int .i64 i := ⟨_, fun _ _ _ => Iff.rfl⟩
  refine wC_loop L k (by omega) ((hL _ _ _).2 ⟨0, by omega, rfl, by simp only [XZ, simprocAttr, f1], by simp only [XZ, simprocAttr, f3], by simp only [XZ, simprocAttr, f5], by simp only [XZ, simprocAttr, f6], by simp only [XZ, simprocAttr] <;> rfl⟩) ?_
  clear f1 f3 f5 f6
  intro j fr S hLj
  obtain ⟨i, hj, rfl, f1, f3, f5, f6, f7⟩ := (hL _ _ _).1 hLj
  by_cases hi : i < ns.length
  ·have hi' : (i : Int) < ns.length := by omega
   obtain ⟨q, o, a1, a2⟩ := elem i hi
   by_cases hik : i < k
   ·have hlt : Op.bytesLess ns[i] n = true := placeS_lt n ns i hi (by omega)
    have hadd1 : IntKind.i64.wrap ((i : Int) + 1) = ((i + 1 : Nat) : Int) := by rw [i64_in (by omega) (by omega)]; rfl
    simp only [XZ, simprocAttr, f1, f3, f5, f6, f7, r1, len1, hi', a1, a2, hlt, hadd1]
    exact ⟨k - (i + 1), by omega, (hL _ _ _).2 ⟨i + 1, by omega, rfl, by simp only [XZ, simprocAttr, f1], by simp only [XZ, simprocAttr, f3], by simp only [XZ, simprocAttr, f5], by simp only [XZ, simprocAttr, f6], by simp only [XZ, simprocAttr]⟩⟩
   ·have hik : i = k := by omega
    subst hik
    have hlt : Op.bytesLess ns[i] n = false := by
     have := placeS_at n ns (by omega)
     simp only [← hkp] at this
     exact this
    simp only [XZ, simprocAttr, f1, f3, f5, f6, f7, r1, len1, hi', a1, a2, hlt]
    exact (hJ _ _).2 ⟨rfl, by simp only [XZ, simprocAttr, f1], by simp only [XZ, simprocAttr, f3], by simp only [XZ, simprocAttr, f5], by simp only [XZ, simprocAttr, f6], by simp only [XZ, simprocAttr, f7]⟩
  ·have hi' : ¬ (i : Int) < ns.length := by omega
   have hik : i = k := by omega
   subst hik
   simp only [XZ, simprocAttr, f1, f3, f5, f6, f7, r1, len1, hi']
   exact (hJ _ _).2 ⟨rfl, by simp only [XZ, simprocAttr, f1], by simp only [XZ, simprocAttr, f3], by simp only [XZ, simprocAttr, f5], by simp only [XZ, simprocAttr, f6], by simp only [XZ, simprocAttr, f7]⟩
 clear f1 f3 f5 f6
 intro fr S hJf
 obtain ⟨rfl, f1, f3, f5, f6, f7⟩ := (hJ _ _).1 hJf
 have n3 : st.row b3 = .none := by rw [hb3]; exact nx0 hw hn0 2
 have n1 : st.row b1 = .none := by rw [hb1]; exact nx0 hw hn0 0
 by_cases hsame : ns[k]? = some n
 ·have hi : k < ns.length := by
   rcases Nat.lt_or_ge k ns.length with h | h
   ·exact h
   ·rw [List.getElem?_eq_none h] at hsame; cases hsame
  have hi' : (k : Int) < ns.length := by omega
  obtain ⟨q, o, a1, a2⟩ := elem k hi
  have hnk : ns[k] = n := by rw [List.getElem?_eq_getElem hi] at hsame; injection hsame
  rw [hnk] at a2
  rw [wC_seqj, wC_seq]; simp only [XZ, simprocAttr, f1, f3, f5, f6, f7, r1, r3, len1, hi', a1, a2, c1, s1, c2, s2]
  have gw := g1.wr (f := fun u => .cells u [.int .i64 tk, ofL tn, nv, kv]) n3 (ne_cells r3) (by rw [r3]) (good_cells _)
  refine ⟨gw, _, rfl, ?_⟩
  have e : putS (.mk tk tn ns ks) n (.mk xk xn xns xks) = .mk tk tn ns ks := by
   rw [putS]
   show (if ns[placeS n ns]? = some n then _ else _) = _
   rw [← hkp, if_pos hsame]
  rw [e]
  exact htt.gr gw
 ·skip
  obtain ⟨M, hM⟩ : ∃ M : Fr → St → Prop, ∀ fr S, M fr S ↔ (S1 = S ∧ fr 1 = ofL n ∧ fr 3 = .ptr b1 0 ∧ fr 5 = .ptr b2 0 ∧ fr 6 = .ptr b3 0 ∧ fr 7 = .int .i64 k) := ⟨_, fun _ _ => Iff.rfl⟩
  refine wC_cut M ?_ ?_
  ·by_cases hi : k < ns.length
   ·have hi' : (k : Int) < ns.length := by omega
    obtain ⟨q, o, a1, a2⟩ := elem k hi
    have hne : (ns[k] = n) = False := eq_false fun e => hsame (by rw [List.getElem?_eq_getElem hi]; exact congrArg some e)
    simp only [XZ, simprocAttr, f1, f3, f5, f6, f7, r1, len1, hi', a1, a2, str_heq, hne]
    exact (hM _ _).2 ⟨rfl, by simp only [XZ, simprocAttr, f1], by simp only [XZ, simprocAttr, f3], by simp only [XZ, simprocAttr, f5], by simp only [XZ, simprocAttr, f6], by simp only [XZ, simprocAttr, f7]⟩
   ·have hi' : ¬ (k : Int) < ns.length := by omega
    simp only [XZ, simprocAttr, f1, f3, f5, f6, f7, r1, len1, hi']
    exact (hM _ _).2 ⟨rfl, by simp only [XZ, simprocAttr, f1], by simp only [XZ, simprocAttr, f3], by simp only [XZ, simprocAttr, f5], by simp only [XZ, simprocAttr, f6], by simp only [XZ, simprocAttr, f7]⟩
  clear f1 f3 f5 f6 f7
  intro fr S hMf
  obtain ⟨rfl, f1, f3, f5, f6, f7⟩ := (hM _ _).1 hMf
  have w1 := g1.wf
  have hkl' : k ≤ (strs ns).length := by omega
  have hkl2 : k ≤ es.length := by omega
  obtain ⟨va, hva, sa, _⟩ := cut_hi (h1.gr g1) (k := k) hkl'
  obtain ⟨vb, hvb, sb, _⟩ := cut_lo (h1.gr g1) (k := k) hkl'
  obtain ⟨vc, hvc, sc, _⟩ := cut_hi (h2.gr g1) (k := k) hkl2
  obtain ⟨vd, hvd, sd, _⟩ := cut_lo (h2.gr g1) (k := k) hkl2
  have hva' : ∀ S', cutLV S' 1 nv none (some (.int .i64 (k : Int))) none = some (va, .no) := fun _ => hva
  have hvb' : ∀ S', cutLV S' 1 nv (some (.int .i64 (k : Int))) none none = some (vb, .no) := fun _ => hvb
  have hvc' : ∀ S', cutLV S' 4 kv none (some (.int .i64 (k : Int))) none = some (vc, .no) := fun _ => hvc
  have hvd' : ∀ S', cutLV S' 4 kv (some (.int .i64 (k : Int))) none none = some (vd, .no) := fun _ => hvd
  obtain ⟨m1, hm1⟩ : ∃ n, S1.nx = up 0 n := ⟨_, up0 _⟩
  have ob1 := fun j => nes (ne_up w1 hm1 (ne_cells r1) j)
  have ob2 := fun j => nes (ne_up w1 hm1 (ne_cells r2) j)
  have ob3 := fun j => nes (ne_up w1 hm1 (ne_cells r3) j)
  have okt : ∀ (z : Nat) (l : List (List V)) (q : Nat), okC l → okC (l.take q) := fun _ l q h e he => h e (List.mem_of_mem_take he)
  have okd : ∀ (z : Nat) (l : List (List V)) (q : Nat), okC l → okC (l.drop q) := fun _ l q h e he => h e (List.mem_of_mem_drop he)
  have gn : ∀ S : St, WF S → ∀ l, Gr S (S.new fun t => .cells t l) := fun S w l => Gr.new w (good_cells _)
  have hes : okC es := fun e he => by
   obtain ⟨i, hi, rfl⟩ := List.getElem_of_mem he
   exact (h4 i hi (by omega)).ok
  rw [wC_seq]; simp only [XY, simprocAttr, f3, f7, r1, hm1, ob1, hva']
  have ga := gn S1 w1 []
  have hq0 : SlF S1 (S1.new fun t => .cells t []) (.slx (up 0 m1) 0 0 1 0) 1 [] := ⟨by simp, .inr ⟨up 0 m1, S1.t, nx0 w1 hm1 0, by simp only [XZ, simprocAttr, hm1]; rfl, .inr rfl⟩⟩
  refine wW_appF (S0 := S1) ga hq0 (sa.gr ga) (okt 1 _ _ (strs_ok ns)) (by rw [List.length_take]; omega) (by rw [List.length_take]; simp; omega) ?_
  intro S2 v2 g2 h2' _
  rw [List.nil_append] at h2'
  simp only [XY, simprocAttr]
  have b1at : S2.row b1 = .cells t1 [.int .i64 tk, ofL tn, nv, kv] := g2.cells r1
  obtain ⟨m2, hm2⟩ : ∃ n, S2.nx = up 0 n := ⟨_, up0 _⟩
  have w2 := g2.wf
  have ob1 := fun j => nes (ne_up w2 hm2 (ne_cells b1at) j)
  rw [wC_seq]; simp only [XY, simprocAttr, f3, f7, b1at, hm2, ob1, hvc']
  have gb := gn S2 w2 []
  have hq1 : SlF S1 (S2.new fun t => .cells t []) (.slx (up 0 m2) 0 0 4 0) 4 [] := ⟨by simp, .inr ⟨up 0 m2, S2.t, by rw [← hm2]; exact g2.fresh, by simp only [XZ, simprocAttr, hm2]; rfl, .inr rfl⟩⟩
  refine wW_appG (S0 := S1) (g2.trans gb) hq1 ((sc.gr g2).gr gb) (okt 4 _ _ hes) (by rw [List.length_take]; omega) (by rw [List.length_take]; simp; omega) ?_
  intro S3 v3 g3 h3' row3 keep3
  rw [List.nil_append] at h3'
  have v2ex : ∀ {r}, rowOf v2 = some r → S2.row r ≠ .none := fun hr => h2'.some hr
  have h23x : ∀ r, rowOf v3 = some r → S2.row r = .none := fun r hr => by
   rcases row3 with e | e
   ·rw [e] at hr; injection hr with hr; rw [← hr]; exact nx0 w2 hm2 0
   ·rw [e] at hr; injection hr with hr; rw [← hr]
    have := nx0 w2 hm2 1
    simpa only [XZ, simprocAttr, hm2] using this
  have h23 : SlF S1 S3 v2 1 ((strs ns).take k) := (h2'.gr gb).keep fun r hr => keep3 r ((h2'.gr gb).some hr) (fun e => by
   injection e with e
   exact ne_up w2 hm2 (v2ex hr) 0 e.symm)
  have x32 : ∀ r, rowOf v3 = some r → rowOf v2 ≠ some r := fun r a b => v2ex b (h23x r a)
  simp only [XY, simprocAttr]
  have b1at := g3.cells r1
  have b2at := g3.cells r2
  rw [wC_seq]
  simp only [XY, simprocAttr, f1, f3, f5, f7, b1at, b2at, hvb', hvd', c3, s3, c4, s4]
  have w3 := g3.wf
  have gc := gn S3 w3 [ofL n]
  have ba : S1.row b1 ≠ .none := ne_cells r1
  have bb : S1.row b2 ≠ .none := ne_cells r2
  refine wW_appN (S0 := S1) (g3.trans gc) (h23.gr gc) (one_at rfl) (fun e he => by rw [List.mem_singleton.1 he]; rfl) (by simp) (by simp) (by rw [List.length_take]; simp; omega) ?_
  intro S4 v4 g4 h4' row4 keep4
  have v4n : ∀ r, rowOf v4 = some r → S3.row r = .none := fun r hr => by
   rw [row4] at hr; injection hr with hr; rw [← hr]
   exact Ch.fresh (Ch.of (fun _ => False) gc) (nx_none gc.wf)
  have h34 : SlF S1 S4 v3 4 (es.take k) := (h3'.gr gc).keep fun r hr => keep4 r ((h3'.gr gc).some hr) fun e => x32 r hr e
  have b1at := g4.cells r1
  simp only [XY, simprocAttr, f1, f3, f5, f7, b1at, hvb']
  refine wW_appG (S0 := S1) g4 h4' (sb.gr g4) (okd 1 _ _ (strs_ok ns)) (by rw [List.length_drop]; omega) (by rw [List.length_drop, List.length_append, List.length_take]; simp; omega) ?_
  intro S5 v5 g5 h5' row5 keep5
  have h35 : SlF S1 S5 v3 4 (es.take k) := h34.keep fun r hr => keep5 r (h34.some hr) fun e => h3'.some hr (v4n r e)
  have b2at := g5.cells r2
  simp only [XY, simprocAttr, f1, f3, f5, f7, b2at, c3, s3, c4, s4]
  have w5 := g5.wf
  have gd := gn S5 w5 [.int .i64 xk, ofL xn, xnv, xkv]
  have hxok : allSc [V.int .i64 xk, ofL xn, xnv, xkv] = true := hxx.ok
  refine wW_appN (S0 := S1) (g5.trans gd) (h35.gr gd) (one_at rfl) (fun e he => by rw [List.mem_singleton.1 he]; exact hxok) (by simp) (by simp) (by rw [List.length_take]; simp; omega) ?_
  intro S6 v6 g6 h6' row6 keep6
  have v6n : ∀ r, rowOf v6 = some r → S5.row r = .none := fun r hr => by
   rw [row6] at hr; injection hr with hr; rw [← hr]
   exact Ch.fresh (Ch.of (fun _ => False) gd) (nx_none gd.wf)
  have x53 : ∀ r, rowOf v5 = some r → rowOf v3 ≠ some r := fun r a b => by
   rcases row5 with e | e
   ·rw [e] at a; exact h3'.some b (v4n r a)
   ·rw [e] at a; injection a with a; rw [← a] at b; exact h34.some b (nx_none g4.wf)
  have h56 : SlF S1 S6 v5 1 ((strs ns).take k ++ [[ofL n]] ++ (strs ns).drop k) := (h5'.gr gd).keep fun r hr => keep6 r ((h5'.gr gd).some hr) (x53 r hr)
  have b1at := g6.cells r1
  simp only [XY, simprocAttr, f1, f3, f5, f7, b1at, hvd']
  refine wW_appG (S0 := S1) g6 h6' (sd.gr g6) (okd 4 _ _ hes) (by rw [List.length_drop]; omega) (by rw [List.length_drop, List.length_append, List.length_take]; simp; omega) ?_
  intro S7 v7 g7 h7' row7 keep7
  have h57 : SlF S1 S7 v5 1 ((strs ns).take k ++ [[ofL n]] ++ (strs ns).drop k) := h56.keep fun r hr => keep7 r (h56.some hr) fun e => h5'.some hr (v6n r e)
  have b1at := g7.cells r1
  have c5 := h57.at.cells
  have s5 := h57.at.sc
  have c6 := h7'.at.cells
  have s6 := h7'.at.sc
  simp only [XY, simprocAttr, f1, f3, f5, f7, b1at, c5, s5, c6, s6]
  have a2 := slF_apart h2' ba
  have a2' := slF_apart h2' bb
  have a4 := slF_apart h4' ba
  have a4' := slF_apart h4' bb
  have a3 := slF_apart h3' ba
  refine ⟨apart_cons (apartAll_ok (v := v2) (w := .ptr b1 2) (q := b1) (by simp only [XZ, simprocAttr]) (by simp only [XZ, simprocAttr]) rfl a2) <| apart_cons (apartAll_ok (v := v2) (w := .ptr b2 0) (q := b2) (by simp only [XZ, simprocAttr]) (by simp only [XZ, simprocAttr, f5]) rfl a2') <| apart_cons (apartAll_ok (v := v2) (w := .ptr b1 3) (q := b1) (by simp only [XZ, simprocAttr]) (by simp only [XZ, simprocAttr]) rfl a2) <| apart_cons (apartAll_ok (v := v4) (w := .ptr b2 0) (q := b2) (by simp only [XZ, simprocAttr]) (by simp only [XZ, simprocAttr, f5]) rfl a4') <| apart_cons (apartAll_ok (v := v4) (w := .ptr b1 3) (q := b1) (by simp only [XZ, simprocAttr]) (by simp only [XZ, simprocAttr]) rfl a4) (apartAll_ok (v := v3) (w := .ptr b1 3) (q := b1) (by simp only [XZ, simprocAttr]) (by simp only [XZ, simprocAttr]) rfl a3), ?_⟩
  have ga7 : Gr st (S7.wr b1 t1 fun u => .cells u [.int .i64 tk, ofL tn, v5, kv]) := (g1.trans g7).wr n1 (ne_cells b1at) (by rw [b1at]; rfl) (good_cells _)
  have rb : (S7.wr b1 t1 fun u => Row.cells u [V.int .i64 tk, ofL tn, v5, kv]).row b1 = .cells S7.t [.int .i64 tk, ofL tn, v5, kv] := row_wr_same _ _ _ _
  obtain ⟨S8, hS8⟩ : ∃ S8, S8 = ((S7.wr b1 t1 fun u => Row.cells u [V.int .i64 tk, ofL tn, v5, kv]).wr b1 S7.t fun u => Row.cells u [V.int .i64 tk, ofL tn, v5, v7]) := ⟨_, rfl⟩
  have g8 : Gr st S8 := by rw [hS8]; exact ga7.wr n1 (ne_cells rb) (by rw [rb]; rfl) (good_cells _)
  have nb : ∀ p, p ≠ b1 → S8.row p = S7.row p := fun p hp => by rw [hS8, row_wr_ne _ _ _ hp, row_wr_ne _ _ _ hp]
  have rb1 : ∃ t, S8.row b1 = .cells t [.int .i64 tk, ofL tn, v5, v7] := ⟨_, by rw [hS8]; exact row_wr_same _ _ _ _⟩
  rw [← hS8]
  clear hS8 ga7 rb
  obtain ⟨t8, rb1⟩ := rb1
  have b31 : b3 ≠ b1 := by rw [hb1, hb3]; exact fun e => u02 e.symm
  have rb3 : S8.row b3 = .cells t3 [.int .i64 0, ofL [], .snil, .snil] := by rw [nb b3 b31]; exact g7.cells r3
  rw [wC_seq]; simp only [XZ, simprocAttr, f3, f6, rb1, rb3, c5, s5, c6, s6]
  have g9 : Gr st (S8.wr b3 t3 fun u => .cells u [.int .i64 tk, ofL tn, v5, v7]) := g8.wr n3 (ne_cells rb3) (by rw [rb3]; rfl) (good_cells _)
  refine ⟨g9, _, rfl, ?_⟩
  have e : putS (.mk tk tn ns ks) n (.mk xk xn xns xks) = .mk tk tn (ns.take k ++ n :: ns.drop k) (ks.take k ++ (.mk xk xn xns xks) :: ks.drop k) := by
   rw [putS]
   show (if ns[placeS n ns]? = some n then _ else _) = _
   rw [← hkp, if_neg hsame, hkp]
   rfl
  rw [e]
  have nv5 : ∀ r, rowOf v5 = some r → r ≠ b1 ∧ r ≠ b3 := fun r hr => ⟨fun e => slF_apart h57 ba (by rw [← e]; exact hr), fun e => slF_apart h57 (ne_cells r3) (by rw [← e]; exact hr)⟩
  have nv7 : ∀ r, rowOf v7 = some r → r ≠ b1 ∧ r ≠ b3 := fun r hr => ⟨fun e => slF_apart h7' ba (by rw [← e]; exact hr), fun e => slF_apart h7' (ne_cells r3) (by rw [← e]; exact hr)⟩
  have k5 := h57.keep (st' := (S8.wr b3 t3 fun u => .cells u [.int .i64 tk, ofL tn, v5, v7])) fun r hr => by rw [row_wr_ne _ _ _ (nv5 r hr).2, nb r (nv5 r hr).1]
  have k7 := h7'.keep (st' := (S8.wr b3 t3 fun u => .cells u [.int .i64 tk, ofL tn, v5, v7])) fun r hr => by rw [row_wr_ne _ _ _ (nv7 r hr).2, nb r (nv7 r hr).1]
  have hPS : ∀ r, S1.row r = .none → P r := fun r h => hP r (Ch.fresh (Ch.of (fun _ => False) g1) h)
  have hstr : (strs ns).take k ++ [[ofL n]] ++ (strs ns).drop k = strs (ns.take k ++ n :: ns.drop k) := by simp [strs]
  rw [hstr] at k5
  have hkid : es.take k ++ [[.int .i64 xk, ofL xn, xnv, xkv]] ++ es.drop k = es.take k ++ [.int .i64 xk, ofL xn, xnv, xkv] :: es.drop k := by simp
  rw [hkid] at k7
  refine .mk (es := es.take k ++ [.int .i64 xk, ofL xn, xnv, xkv] :: es.drop k) (k5.at.imp fun r p _ => ⟨hPS r p, rfl⟩) (k7.at.imp fun r p _ => ⟨hPS r p, rfl⟩) (by simp; omega) ?_
  exact idx_ins (R := TyC P (S8.wr b3 t3 fun u => .cells u [.int .i64 tk, ofL tn, v5, v7])) (hxx.gr g9) k h3 fun i a b => (h4 i a b).gr g9
def TreeAt (nms : List Str) (d : Nat) : Prop := ∀ {P Q : Pt → Prop} {st : St} {e : List V} {r : Rw} {nv : V}, WF st → RwC P st e r → SlAt Q st nv 1 (strs nms) →
 Does (tabT tabD) n_spruelaw3_Tree [.agg e, .int .i64 d, nv] st fun v st' => Gr st st' ∧ ∃ e', v = .agg e' ∧ TyC (fun r => st.row r = .none) st' e' (treeS nms d r)
theorem kindR_mem (nms : List Str) (d : Nat) (r : Rw) : kindR nms d r = 1 ∨ kindR nms d r = 2 ∨ kindR nms d r = 3 ∨ kindR nms d r = 4 ∨ kindR nms d r = 5 ∨ kindR nms d r = 6 ∨ kindR nms d r = 7 ∨ kindR nms d r = 8 ∨ kindR nms d r = 9 := by
 have e1 := Int.emod_nonneg r.kind (show (9 : Int) ≠ 0 by decide)
 have e2 := Int.emod_lt_of_pos r.kind (show (0 : Int) < 9 by decide)
 unfold kindR
 split
 ·omega
 ·omega
theorem putS_len {t x : Ty} {n : Str} {i : Nat} (h1 : t.kids.length = t.names.length) (h2 : t.names.length ≤ i) : (putS t n x).kids.length = (putS t n x).names.length ∧ (putS t n x).names.length ≤ i + 1 := by
 unfold putS
 split
 ·exact ⟨h1, by omega⟩
 ·have := placeS_le n t.names
  simp [Ty.kids, Ty.names] at *
  omega
set_option maxHeartbeats 4000000 in
theorem treeCore (nms : List Str) (hnm : nms.length < 1000) (d : Nat) (hd : d < 1000) (ih : d ≠ 0 → TreeAt nms d) : TreeAt nms (d + 1) := by
 intro P Q st e r nv hw h hn
 refine does_fn at_spruelaw3_Tree rfl ?_
 have hr := h
 obtain ⟨rnv, rkv, es, rfl, hk, hnn, hz, h1, h2, h3, ⟨hl1, hl2⟩, h4⟩ := h.inv
 obtain ⟨n0, hn0⟩ : ∃ n, st.nx = up 0 n := ⟨_, up0 _⟩
 obtain ⟨b, hb⟩ : ∃ b, b = up 0 n0 := ⟨_, rfl⟩
 obtain ⟨b2, hb2⟩ : ∃ b, b = up 1 n0 := ⟨_, rfl⟩
 have c1 := h1.cells
 have s1 := h1.sc
 have c2 := h2.cells
 have s2 := h2.sc
 have lenN := hn.len
 rw [strs_len] at lenN
 have e1 := Int.emod_nonneg r.kind (show (9 : Int) ≠ 0 by decide)
 have e2 := Int.emod_lt_of_pos r.kind (show (0 : Int) < 9 by decide)
 simp only [cf_spruelaw3_Tree, XY, simprocAttr]
 rw [wC_seq]; simp only [XY, simprocAttr, hn0, c1, s1, c2, s2]
 have hd1 : (((d + 1 : Nat) : Int)) = (d : Int) + 1 := by omega
 obtain ⟨S0, hS0⟩ : ∃ S0, S0 = ((st.new fun t => .cells t [.int .i64 r.kind, .int .i64 r.n, rnv, rkv]).new fun t => .cells t [.int .i64 0, ofL [], .snil, .snil]) := ⟨_, rfl⟩
 have g0 : Gr st S0 := by rw [hS0]; exact ((Gr.refl hw).nn (good_cells _)).nn (good_cells _)
 have r1 : S0.row b = .cells st.t [.int .i64 r.kind, .int .i64 r.n, rnv, rkv] := by rw [hS0, hb]; simp only [XZ, simprocAttr, hn0]
 have r2 : ∃ t, S0.row b2 = .cells t [.int .i64 0, ofL [], .snil, .snil] := ⟨_, by rw [hS0, hb2]; simp only [XZ, simprocAttr, hn0]; rfl⟩
 rw [← hb, ← hb2, ← hS0]
 have w0 := g0.wf
 have nb1 : st.row b = .none := by rw [hb]; exact nx0 hw hn0 0
 have nb2 : st.row b2 = .none := by rw [hb2]; exact nx0 hw hn0 1
 have b12 : b ≠ b2 := by
  rw [hb, hb2]
  simp only [XZ, simprocAttr]
 clear hS0
 obtain ⟨t2, r2⟩ := r2
 obtain ⟨K, hK⟩ : ∃ K, K = 1 + r.kind % 9 := ⟨_, rfl⟩
 have hKw : IntKind.i64.wrap (1 + r.kind % 9) = K := by rw [hK]; exact i64_in (by omega) (by omega)
 rw [wC_seq]; simp only [XY, simprocAttr, r1]
 refine wCall_plain (within3C r.kind 9 _ (by decide) (by decide)) ?_
 rintro _ _ ⟨rfl, rfl⟩
 simp only [XY, simprocAttr, hKw]
 obtain ⟨k, hkk⟩ : ∃ k, k = kindR nms (d + 1) r := ⟨_, rfl⟩
 obtain ⟨B, hB⟩ : ∃ B : Fr → Prop, ∀ fr, B fr ↔ (fr 1 = .int .i64 ((d + 1 : Nat) : Int) ∧ fr 2 = nv ∧ fr 3 = .ptr b 0 ∧ fr 6 = .ptr b2 0 ∧ fr 7 = .int .i64 k) := ⟨_, fun _ => Iff.rfl⟩
 obtain ⟨I, hI⟩ : ∃ I : Fr → St → Prop, ∀ fr S, I fr S ↔ (S0 = S ∧ B fr) := ⟨_, fun _ _ => Iff.rfl⟩
 have hkd : k = if (K = 9 ∧ nms = []) ∨ (d + 1 ≤ 1 ∧ 4 ≤ K ∧ K ≤ 8) then 2 else K := by rw [hkk, hK]; rfl
 refine wC_cut I ?_ ?_
 ·by_cases k9 : K = 9
  ·by_cases hnn0 : nms = []
   ·have hk2 : k = 2 := by rw [hkd, if_pos (.inl ⟨k9, hnn0⟩)]
    rw [hnn0] at lenN
    simp only [XZ, simprocAttr, k9, lenN, Int.natCast_zero]
    exact (hI _ _).2 ⟨rfl, (hB _).2 (by simp only [XZ, simprocAttr, hk2, and_self])⟩
   ·have hk2 : k = 9 := by rw [hkd, if_neg (by rintro (⟨_, h⟩ | ⟨_, _, h⟩); exact hnn0 h; omega), k9]
    have hl0 : ((nms.length : Nat) : Int) ≠ 0 := fun e => hnn0 (List.length_eq_zero_iff.1 (by omega))
    by_cases h1d : ((d + 1 : Nat) : Int) ≤ 1
    ·simp only [XZ, simprocAttr, k9, lenN, hl0, h1d]
     exact (hI _ _).2 ⟨rfl, (hB _).2 (by simp only [XZ, simprocAttr, hk2, and_self])⟩
    ·simp only [XZ, simprocAttr, k9, lenN, hl0, h1d]
     exact (hI _ _).2 ⟨rfl, (hB _).2 (by simp only [XZ, simprocAttr, hk2, and_self])⟩
  ·by_cases h1d : ((d + 1 : Nat) : Int) ≤ 1
   ·by_cases k4 : 4 ≤ K
    ·have k8 : K ≤ 8 := by omega
     have hk2 : k = 2 := by rw [hkd, if_pos (.inr ⟨by omega, k4, k8⟩)]
     simp only [XZ, simprocAttr, k9, h1d, k4, k8]
     exact (hI _ _).2 ⟨rfl, (hB _).2 (by simp only [XZ, simprocAttr, hk2, and_self])⟩
    ·have hk2 : k = K := by rw [hkd, if_neg (by rintro (⟨h, _⟩ | ⟨_, h, _⟩); exact k9 h; exact k4 h)]
     simp only [XZ, simprocAttr, k9, h1d, k4]
     exact (hI _ _).2 ⟨rfl, (hB _).2 (by simp only [XZ, simprocAttr, hk2, and_self])⟩
   ·have hk2 : k = K := by rw [hkd, if_neg (by rintro (⟨h, _⟩ | ⟨h, _⟩); exact k9 h; omega)]
    simp only [XZ, simprocAttr, k9, h1d]
    exact (hI _ _).2 ⟨rfl, (hB _).2 (by simp only [XZ, simprocAttr, hk2, and_self])⟩
 intro fr S hIf
 obtain ⟨rfl, hBf⟩ := (hI _ _).1 hIf
 obtain ⟨f1, f2, f3, f6, f7⟩ := (hB _).1 hBf
 obtain ⟨m0, hm0⟩ : ∃ n, S0.nx = up 0 n := ⟨_, up0 _⟩
 obtain ⟨bt, hbt⟩ : ∃ b, b = up 0 m0 := ⟨_, rfl⟩
 rw [wC_seq]; simp only [XY, simprocAttr, f7, hm0]
 rw [← hbt]
 have nbt0 : S0.row bt = .none := by rw [hbt]; exact nx0 w0 hm0 0
 have nbt : st.row bt = .none := Ch.fresh (Ch.of (fun _ => False) g0) nbt0
 obtain ⟨S1, hS1⟩ : ∃ S1, S1 = ((S0.new fun t => .cells t [.int .i64 0, ofL [], .snil, .snil]).wr bt S0.t fun u => .cells u [.int .i64 k, ofL [], .snil, .snil]) := ⟨_, rfl⟩
 have g01 : Gr S0 S1 := by rw [hS1, hbt]; exact (Gr.refl w0).nw hm0 (good_cells _) (good_cells _)
 have rt : S1.row bt = .cells S0.t.succ [.int .i64 k, ofL [], .snil, .snil] := by rw [hS1]; exact row_wr_same _ _ _ _
 rw [← hS1]
 clear hS1
 have g1 : Gr st S1 := g0.trans g01
 have b2t : b2 ≠ bt := fun e => by rw [e, nbt0] at r2; cases r2
 have bbt : b ≠ bt := fun e => by rw [e, nbt0] at r1; cases r1
 have r1 := g01.cells r1
 have r2 := g01.cells r2
 obtain ⟨J, hJ⟩ : ∃ J : Fr → St → Prop, ∀ fr S, J fr S ↔ (∃ T te t, treeS nms (d + 1) r = T ∧ fr 6 = .ptr b2 0 ∧ fr 8 = .ptr bt 0 ∧ Gr st S ∧ S.row bt = .cells t te ∧ S.row b2 = .cells t2 [.int .i64 0, ofL [], .snil, .snil] ∧ TyC (fun r => S1.row r = .none) S te T) := ⟨_, fun _ _ => Iff.rfl⟩
 have hmem := kindR_mem nms (d + 1) r
 rw [← hkk] at hmem
 have flat : ∀ (P : Pt → Prop) (S : St) (k : Int) (n : Str), TyC P S [.int .i64 k, ofL n, .snil, .snil] (.mk k n [] []) := fun P S k n => .mk (es := []) (SlAt.nil _ _ _) (SlAt.nil _ _ _) rfl fun i h => absurd h (by simp)
 have hd0 : 4 ≤ k → k ≤ 8 → d ≠ 0 := fun a b e => by
  subst e
  by_cases c : (K = 9 ∧ nms = []) ∨ (0 + 1 ≤ 1 ∧ 4 ≤ K ∧ K ≤ 8)
  ·rw [if_pos c] at hkd; omega
  ·rw [if_neg c] at hkd; exact c (.inr ⟨by omega, by omega, by omega⟩)
 have hsubd : IntKind.i64.wrap (((d + 1 : Nat) : Int) - 1) = (d : Int) := by rw [i64_in (by omega) (by omega)]; omega
 have st1 : ∀ r, S1.row r = .none → st.row r = .none := fun r h => Ch.fresh (Ch.of (fun _ => False) g1) h
 refine wC_cut J ?_ ?_
 ·rcases hmem with rfl | rfl | rfl | rfl | rfl | rfl | rfl | rfl | rfl
  ·simp only [XZ, simprocAttr, f7]
   exact (hJ _ _).2 ⟨_, _, _, by rw [treeS]; simp only [← hkk]; rfl, by simp only [XZ, simprocAttr, f6], by simp only [XZ, simprocAttr], g1, rt, r2, flat _ _ _ _⟩
  ·simp only [XZ, simprocAttr, f7]
   exact (hJ _ _).2 ⟨_, _, _, by rw [treeS]; simp only [← hkk]; rfl, by simp only [XZ, simprocAttr, f6], by simp only [XZ, simprocAttr], g1, rt, r2, flat _ _ _ _⟩
  ·simp only [XZ, simprocAttr, f7]
   exact (hJ _ _).2 ⟨_, _, _, by rw [treeS]; simp only [← hkk]; rfl, by simp only [XZ, simprocAttr, f6], by simp only [XZ, simprocAttr], g1, rt, r2, flat _ _ _ _⟩
  ·have hd0' := hd0 (by decide) (by decide)
   simp only [XZ, simprocAttr, f1, f2, f3, f7, r1, c1, s1, c2, s2]
   refine wCall_plain (kidC g1.wf (hr.gr g1) 0 (by decide)) ?_
   rintro _ S2 ⟨g2, ke, rfl, hke⟩
   simp only [XZ, simprocAttr, f1, f2, hsubd]
   refine wCall_plain (ih hd0' g2.wf hke (hn.gr (g1.trans g2))) ?_
   rintro _ S3 ⟨g3, ce, rfl, hce⟩
   obtain ⟨cnv, ckv, ces, rfl, y1, y3, y4, y5⟩ := hce.inv
   have d1 := y1.cells
   have d2 := y1.sc
   have d3 := y3.cells
   have d4 := y3.sc
   have rt3 := g3.cells (g2.cells rt)
   obtain ⟨m3, hm3⟩ : ∃ n, S3.nx = up 0 n := ⟨_, up0 _⟩
   have ot := fun j => nes (ne_up g3.wf hm3 (ne_cells rt3) j)
   simp only [XZ, simprocAttr, f7, hm3, ot, rt3, d1, d2, d3, d4]
   obtain ⟨S4, hS4⟩ : ∃ S4, S4 = ((S3.new fun t => .cells t [.int .i64 (treeS nms d (kidS r 0)).kind, ofL (treeS nms d (kidS r 0)).name, cnv, ckv]).wr bt S0.t.succ fun u => .cells u [.int .i64 4, ofL [], .snil, .slx (up 0 m3) 0 1 4 1]) := ⟨_, rfl⟩
   rw [← hS4]
   have gN : Gr S3 (S3.new fun t => .cells t [.int .i64 (treeS nms d (kidS r 0)).kind, ofL (treeS nms d (kidS r 0)).name, cnv, ckv]) := Gr.new g3.wf (good_cells _)
   have g13 : Gr st S3 := g1.trans (g2.trans g3)
   have g4 : Gr st S4 := by rw [hS4]; exact (g13.trans gN).wr nbt (ne_cells (gN.cells rt3)) (by rw [gN.cells rt3]; rfl) (good_cells _)
   have qt : up 0 m3 ≠ bt := fun e => by have := nx0 g3.wf hm3 0; rw [e, rt3] at this; cases this
   have rq : S4.row (up 0 m3) = .cells S3.t [.int .i64 (treeS nms d (kidS r 0)).kind, ofL (treeS nms d (kidS r 0)).name, cnv, ckv] := by rw [hS4, row_wr_ne _ _ _ qt, ← hm3]; exact row_new_nx _ _
   have rb4 : S4.row b2 = .cells t2 [.int .i64 0, ofL [], .snil, .snil] := by rw [hS4, row_wr_ne _ _ _ b2t]; exact gN.cells (g3.cells (g2.cells r2))
   have rt4 : ∃ t, S4.row bt = .cells t [.int .i64 4, ofL [], .snil, .slx (up 0 m3) 0 1 4 1] := ⟨_, by rw [hS4]; exact row_wr_same _ _ _ _⟩
   obtain ⟨t4, rt4⟩ := rt4
   have q1 : S1.row (up 0 m3) = .none := Ch.fresh (Ch.of (fun _ => False) (g2.trans g3)) (nx0 g3.wf hm3 0)
   have hce4 : TyC (fun r => S1.row r = .none) S4 [.int .i64 (treeS nms d (kidS r 0)).kind, ofL (treeS nms d (kidS r 0)).name, cnv, ckv] (treeS nms d (kidS r 0)) := hce.imp fun r p e => ⟨Ch.fresh (Ch.of (fun _ => False) g2) p, by
    rw [hS4, row_wr_ne _ _ _ fun k => by rw [k, g2.cells rt] at p; cases p]
    exact gN.same r e⟩
   have hall : TyC (fun r => S1.row r = .none) S4 [.int .i64 4, ofL [], .snil, .slx (up 0 m3) 0 1 4 1] (.mk 4 [] [] [treeS nms d (kidS r 0)]) :=
    .mk (es := [[.int .i64 (treeS nms d (kidS r 0)).kind, ofL (treeS nms d (kidS r 0)).name, cnv, ckv]]) (SlAt.nil _ _ _) ⟨fun e he => by rw [List.mem_singleton.1 he]; rfl, .inr ⟨up 0 m3, 0, q1, .inr ⟨1, Nat.le_refl 1, rfl⟩, _, .inl ⟨_, rq⟩, by simp, by simp⟩⟩ rfl fun i h h' => by
     have : i = 0 := by simp at h; omega
     subst this
     exact hce4
   clear hS4
   exact (hJ _ _).2 ⟨_, _, _, by rw [treeS]; simp only [← hkk]; rfl, by simp only [XZ, simprocAttr, f6], by simp only [XZ, simprocAttr], g4, rt4, rb4, hall⟩
  ·have hd0' := hd0 (by decide) (by decide)
   simp only [XZ, simprocAttr, f1, f2, f3, f7, r1, c1, s1, c2, s2]
   refine wCall_plain (kidC g1.wf (hr.gr g1) 0 (by decide)) ?_
   rintro _ S2 ⟨g2, ke, rfl, hke⟩
   simp only [XZ, simprocAttr, f1, f2, hsubd]
   refine wCall_plain (ih hd0' g2.wf hke (hn.gr (g1.trans g2))) ?_
   rintro _ S3 ⟨g3, ce, rfl, hce⟩
   obtain ⟨cnv, ckv, ces, rfl, y1, y3, y4, y5⟩ := hce.inv
   have d1 := y1.cells
   have d2 := y1.sc
   have d3 := y3.cells
   have d4 := y3.sc
   have rt3 := g3.cells (g2.cells rt)
   obtain ⟨m3, hm3⟩ : ∃ n, S3.nx = up 0 n := ⟨_, up0 _⟩
   have ot := fun j => nes (ne_up g3.wf hm3 (ne_cells rt3) j)
   simp only [XZ, simprocAttr, f7, hm3, ot, rt3, d1, d2, d3, d4]
   obtain ⟨S4, hS4⟩ : ∃ S4, S4 = ((S3.new fun t => .cells t [.int .i64 (treeS nms d (kidS r 0)).kind, ofL (treeS nms d (kidS r 0)).name, cnv, ckv]).wr bt S0.t.succ fun u => .cells u [.int .i64 5, ofL [], .snil, .slx (up 0 m3) 0 1 4 1]) := ⟨_, rfl⟩
   rw [← hS4]
   have gN : Gr S3 (S3.new fun t => .cells t [.int .i64 (treeS nms d (kidS r 0)).kind, ofL (treeS nms d (kidS r 0)).name, cnv, ckv]) := Gr.new g3.wf (good_cells _)
   have g13 : Gr st S3 := g1.trans (g2.trans g3)
   have g4 : Gr st S4 := by rw [hS4]; exact (g13.trans gN).wr nbt (ne_cells (gN.cells rt3)) (by rw [gN.cells rt3]; rfl) (good_cells _)
   have qt : up 0 m3 ≠ bt := fun e => by have := nx0 g3.wf hm3 0; rw [e, rt3] at this; cases this
   have rq : S4.row (up 0 m3) = .cells S3.t [.int .i64 (treeS nms d (kidS r 0)).kind, ofL (treeS nms d (kidS r 0)).name, cnv, ckv] := by rw [hS4, row_wr_ne _ _ _ qt, ← hm3]; exact row_new_nx _ _
   have rb4 : S4.row b2 = .cells t2 [.int .i64 0, ofL [], .snil, .snil] := by rw [hS4, row_wr_ne _ _ _ b2t]; exact gN.cells (g3.cells (g2.cells r2))
   have rt4 : ∃ t, S4.row bt = .cells t [.int .i64 5, ofL [], .snil, .slx (up 0 m3) 0 1 4 1] := ⟨_, by rw [hS4]; exact row_wr_same _ _ _ _⟩
   obtain ⟨t4, rt4⟩ := rt4
   have q1 : S1.row (up 0 m3) = .none := Ch.fresh (Ch.of (fun _ => False) (g2.trans g3)) (nx0 g3.wf hm3 0)
   have hce4 : TyC (fun r => S1.row r = .none) S4 [.int .i64 (treeS nms d (kidS r 0)).kind, ofL (treeS nms d (kidS r 0)).name, cnv, ckv] (treeS nms d (kidS r 0)) := hce.imp fun r p e => ⟨Ch.fresh (Ch.of (fun _ => False) g2) p, by
    rw [hS4, row_wr_ne _ _ _ fun k => by rw [k, g2.cells rt] at p; cases p]
    exact gN.same r e⟩
   have hall : TyC (fun r => S1.row r = .none) S4 [.int .i64 5, ofL [], .snil, .slx (up 0 m3) 0 1 4 1] (.mk 5 [] [] [treeS nms d (kidS r 0)]) :=
    .mk (es := [[.int .i64 (treeS nms d (kidS r 0)).kind, ofL (treeS nms d (kidS r 0)).name, cnv, ckv]]) (SlAt.nil _ _ _) ⟨fun e he => by rw [List.mem_singleton.1 he]; rfl, .inr ⟨up 0 m3, 0, q1, .inr ⟨1, Nat.le_refl 1, rfl⟩, _, .inl ⟨_, rq⟩, by simp, by simp⟩⟩ rfl fun i h h' => by
     have : i = 0 := by simp at h; omega
     subst this
     exact hce4
   clear hS4
   exact (hJ _ _).2 ⟨_, _, _, by rw [treeS]; simp only [← hkk]; rfl, by simp only [XZ, simprocAttr, f6], by simp only [XZ, simprocAttr], g4, rt4, rb4, hall⟩
  ·have hd0' := hd0 (by decide) (by decide)
   simp only [XZ, simprocAttr, f1, f2, f3, f7, r1, c1, s1, c2, s2]
   refine wCall_plain (kidC g1.wf (hr.gr g1) 0 (by decide)) ?_
   rintro _ S2 ⟨g2, ke, rfl, hke⟩
   simp only [XZ, simprocAttr, f1, f2, hsubd]
   refine wCall_plain (ih hd0' g2.wf hke (hn.gr (g1.trans g2))) ?_
   rintro _ S3 ⟨g3, ce, rfl, hce⟩
   obtain ⟨cnv, ckv, ces, rfl, y1, y3, y4, y5⟩ := hce.inv
   have d1 := y1.cells
   have d2 := y1.sc
   have d3 := y3.cells
   have d4 := y3.sc
   have rt3 := g3.cells (g2.cells rt)
   obtain ⟨m3, hm3⟩ : ∃ n, S3.nx = up 0 n := ⟨_, up0 _⟩
   have ot := fun j => nes (ne_up g3.wf hm3 (ne_cells rt3) j)
   simp only [XZ, simprocAttr, f7, hm3, ot, rt3, d1, d2, d3, d4]
   obtain ⟨S4, hS4⟩ : ∃ S4, S4 = ((S3.new fun t => .cells t [.int .i64 (treeS nms d (kidS r 0)).kind, ofL (treeS nms d (kidS r 0)).name, cnv, ckv]).wr bt S0.t.succ fun u => .cells u [.int .i64 6, ofL [], .snil, .slx (up 0 m3) 0 1 4 1]) := ⟨_, rfl⟩
   rw [← hS4]
   have gN : Gr S3 (S3.new fun t => .cells t [.int .i64 (treeS nms d (kidS r 0)).kind, ofL (treeS nms d (kidS r 0)).name, cnv, ckv]) := Gr.new g3.wf (good_cells _)
   have g13 : Gr st S3 := g1.trans (g2.trans g3)
   have g4 : Gr st S4 := by rw [hS4]; exact (g13.trans gN).wr nbt (ne_cells (gN.cells rt3)) (by rw [gN.cells rt3]; rfl) (good_cells _)
   have qt : up 0 m3 ≠ bt := fun e => by have := nx0 g3.wf hm3 0; rw [e, rt3] at this; cases this
   have rq : S4.row (up 0 m3) = .cells S3.t [.int .i64 (treeS nms d (kidS r 0)).kind, ofL (treeS nms d (kidS r 0)).name, cnv, ckv] := by rw [hS4, row_wr_ne _ _ _ qt, ← hm3]; exact row_new_nx _ _
   have rb4 : S4.row b2 = .cells t2 [.int .i64 0, ofL [], .snil, .snil] := by rw [hS4, row_wr_ne _ _ _ b2t]; exact gN.cells (g3.cells (g2.cells r2))
   have rt4 : ∃ t, S4.row bt = .cells t [.int .i64 6, ofL [], .snil, .slx (up 0 m3) 0 1 4 1] := ⟨_, by rw [hS4]; exact row_wr_same _ _ _ _⟩
   obtain ⟨t4, rt4⟩ := rt4
   have q1 : S1.row (up 0 m3) = .none := Ch.fresh (Ch.of (fun _ => False) (g2.trans g3)) (nx0 g3.wf hm3 0)
   have hce4 : TyC (fun r => S1.row r = .none) S4 [.int .i64 (treeS nms d (kidS r 0)).kind, ofL (treeS nms d (kidS r 0)).name, cnv, ckv] (treeS nms d (kidS r 0)) := hce.imp fun r p e => ⟨Ch.fresh (Ch.of (fun _ => False) g2) p, by
    rw [hS4, row_wr_ne _ _ _ fun k => by rw [k, g2.cells rt] at p; cases p]
    exact gN.same r e⟩
   have hall : TyC (fun r => S1.row r = .none) S4 [.int .i64 6, ofL [], .snil, .slx (up 0 m3) 0 1 4 1] (.mk 6 [] [] [treeS nms d (kidS r 0)]) :=
    .mk (es := [[.int .i64 (treeS nms d (kidS r 0)).kind, ofL (treeS nms d (kidS r 0)).name, cnv, ckv]]) (SlAt.nil _ _ _) ⟨fun e he => by rw [List.mem_singleton.1 he]; rfl, .inr ⟨up 0 m3, 0, q1, .inr ⟨1, Nat.le_refl 1, rfl⟩, _, .inl ⟨_, rq⟩, by simp, by simp⟩⟩ rfl fun i h h' => by
     have : i = 0 := by simp at h; omega
     subst this
     exact hce4
   clear hS4
   first | refine ⟨by decide, ?_⟩ | skip
   have htree : treeS nms (d + 1) r = if (6 : Int) = 6 ∧ (treeS nms d (kidS r 0)).kind = 6 then treeS nms d (kidS r 0) else .mk 6 [] [] [treeS nms d (kidS r 0)] := by rw [treeS]; simp only [← hkk]; rfl
   by_cases h6 : (treeS nms d (kidS r 0)).kind = 6
   ·rw [if_pos ⟨rfl, h6⟩] at htree
    have hdec : decide ((treeS nms d (kidS r 0)).kind = 6) = true := decide_eq_true h6
    rw [hdec]
    simp only [XZ, simprocAttr, f6, rt4, rq, rb4, d1, d2, d3, d4]
    first | refine ⟨by decide, g4.wr nb2 (ne_cells rb4) (by first | (rw [rb4]; done) | (rw [rb4]; rfl)) (good_cells _), _, rfl, ?_⟩ | refine ⟨g4.wr nb2 (ne_cells rb4) (by first | (rw [rb4]; done) | (rw [rb4]; rfl)) (good_cells _), _, rfl, ?_⟩
    rw [htree]
    exact hce4.imp fun r p _ => ⟨st1 r p, row_wr_ne _ _ _ fun e => by rw [e] at p; rw [p] at r2; cases r2⟩
   ·rw [if_neg fun e => h6 e.2] at htree
    have hdec : decide ((treeS nms d (kidS r 0)).kind = 6) = false := decide_eq_false h6
    rw [hdec]
    simp only [XZ, simprocAttr]
    exact (hJ _ _).2 ⟨_, _, _, htree, by simp only [XZ, simprocAttr, f6], by simp only [XZ, simprocAttr], g4, rt4, rb4, hall⟩
  ·have hd0' := hd0 (by decide) (by decide)
   have lenR := h1.len
   rw [cellsI_len] at lenR
   obtain ⟨cnt, hcnt⟩ : ∃ c, c = countR 7 r := ⟨_, rfl⟩
   have hcv : cnt = max (min r.names.length 4) 0 := by rw [hcnt]; rfl
   obtain ⟨Ti, hTi⟩ : ∃ Ti : Nat → Ty, Ti = fun i => (List.range i).foldl (fun t i => putS t (nameAt r i) (treeS nms d (kidS r i))) (.mk 7 [] [] []) := ⟨_, rfl⟩
   have hT0 : Ti 0 = .mk 7 [] [] [] := by rw [hTi]; rfl
   have hTs : ∀ i, Ti (i + 1) = putS (Ti i) (nameAt r i) (treeS nms d (kidS r i)) := fun i => by rw [hTi]; simp only [List.range_succ, List.foldl_append]; rfl
   have hTl : ∀ i, (Ti i).kids.length = (Ti i).names.length ∧ (Ti i).names.length ≤ i := fun i => by
    induction i with
    | zero => rw [hT0]; exact ⟨rfl, Nat.le_refl _⟩
    | succ i ihi => rw [hTs]; exact putS_len ihi.1 ihi.2
   have htree : treeS nms (d + 1) r = Ti cnt := by rw [treeS, hTi, hcnt]; simp only [← hkk]; rfl
   obtain ⟨L, hL⟩ : ∃ L : Nat → Fr → St → Prop, ∀ j fr S, L j fr S ↔ ∃ (i : Nat) (te : List V) (t : Nat), j + i = cnt ∧ B fr ∧ fr 8 = .ptr bt 0 ∧ fr 9 = .int .i64 i ∧ Gr st S ∧ (∀ r, S.row r = .none → S1.row r = .none) ∧ S.row b = .cells st.t [.int .i64 r.kind, .int .i64 r.n, rnv, rkv] ∧ S.row b2 = .cells t2 [.int .i64 0, ofL [], .snil, .snil] ∧ S.row bt = .cells t te ∧ TyC (fun r => S1.row r = .none) S te (Ti i) := ⟨_, fun _ _ _ => Iff.rfl⟩
   simp only [XZ, simprocAttr, f7]
   refine wC_loop L cnt (by omega) ((hL _ _ _).2 ⟨0, _, _, by omega, (hB _).2 (by simp only [XZ, simprocAttr, f1, f2, f3, f6, f7, and_self]), by simp only [XZ, simprocAttr], by simp only [XZ, simprocAttr] <;> rfl, g1, fun r h => h, r1, r2, rt, by rw [hT0]; exact flat _ _ _ _⟩) ?_
   clear f1 f2 f3 f6 f7 hBf
   intro j fr S hLj
   obtain ⟨i, te, t, hj, hBf, f8, f9, hg, hfresh, q1, q2, q3, hte⟩ := (hL _ _ _).1 hLj
   obtain ⟨f1, f2, f3, f6, f7⟩ := (hB _).1 hBf
   have hadd1 : IntKind.i64.wrap ((i : Int) + 1) = ((i + 1 : Nat) : Int) := by rw [i64_in (by omega) (by omega)]; rfl
   have done : ∀ {fr : Fr}, i = cnt → fr 6 = .ptr b2 0 → fr 8 = .ptr bt 0 → J fr S := fun e a c => (hJ _ _).2 ⟨Ti cnt, te, t, htree, a, c, hg, q3, q2, by rw [← e]; exact hte⟩
   have hte0 := hte
   obtain ⟨tnv, tkv, tes, rfl, y1, y3, y4, y5⟩ := hte.inv
   have d1 := y1.cells
   have d2 := y1.sc
   have d3 := y3.cells
   have d4 := y3.sc
   by_cases hA : i < r.names.length
   ·have hA' : (i : Int) < r.names.length := by omega
    by_cases h4i : i < 4
    ·have h4' : (i : Int) < 4 := by omega
     obtain ⟨zq, zo, z1, z2, z3, z4, z5⟩ := (h1.gr hg).elem (i := i) (by rw [cellsI_len]; exact hA)
     have zl : (cellsI r.names)[i]'(by rw [cellsI_len]; exact hA) = [.int .i64 r.names[i]] := by simp [cellsI]
     have z6 : ld1 (S.row zq) zo = some (.int .i64 r.names[i], .no) := by
      have := z5 0 (by rw [zl]; simp)
      simp only [zl] at this
      exact this
     simp only [XZ, simprocAttr, f1, f2, f3, f6, f7, f8, f9, q1, lenR, hA', h4', z1, z6]
     refine wCall_plain (nameC _ _ hg.wf) ?_
     rintro _ S2 ⟨g2, rfl⟩
     have hnm : nameS r.names[i] = nameAt r i := by unfold nameAt; rw [List.getElem?_eq_getElem hA]
     rw [hnm]
     have q1' := q1
     have q2' := q2
     have q3' := q3
     have q1 := g2.cells q1
     have q2 := g2.cells q2
     have q3 := g2.cells q3
     simp only [XZ, simprocAttr, f1, f2, f3, f6, f7, f8, f9, q1, q3, c1, s1, c2, s2, d1, d2, d3, d4]
     refine wCall_marked (kidC (wf_low g2.wf S2.t) (((hr.gr hg).gr g2).imp fun r p _ => ⟨p, rfl⟩) i (by omega)) ?_
     rintro _ S3 g3 ⟨ke, rfl, hke⟩
     simp only [XZ, simprocAttr, f1, f2, f3, f6, f7, f8, f9, hsubd]
     refine wCall_marked (ih hd0' (wf_low g3.wf S3.t) (hke.imp fun r p _ => ⟨p, rfl⟩) ((((hn.gr hg).gr g2).gr g3).imp fun r p _ => ⟨p, rfl⟩)) ?_
     rintro _ S4 g4 ⟨ce, rfl, hce⟩
     simp only [XZ, simprocAttr, f1, f2, f3, f6, f7, f8, f9]
     have gA : Gr S S4 := g2.trans (g3.trans g4)
     have fr4 : ∀ r, S4.row r = .none → S1.row r = .none := fun r h => hfresh r (Ch.fresh (Ch.of (fun _ => False) gA) h)
     have fr3 : ∀ r, S3.row r = .none → S1.row r = .none := fun r h => hfresh r (Ch.fresh (Ch.of (fun _ => False) (g2.trans g3)) h)
     refine wCall_marked (putC (P := fun r => S1.row r = .none) (t := Ti i) (x := treeS nms d (kidS r i)) (nameAt r i) (wf_low g4.wf S4.t) ((hte0.gr gA).imp fun r p _ => ⟨p, rfl⟩) (hce.imp fun r p _ => ⟨fr3 r p, rfl⟩) (by have := (hTl i).2; omega) (hTl i).1 fr4) ?_
     rintro _ S5 g5 ⟨e5, rfl, he5⟩
     have he5' : TyC (fun r => S1.row r = .none) S5 e5 (Ti (i + 1)) := by rw [hTs]; exact he5.imp fun r p _ => ⟨p, rfl⟩
     have he6 := he5'
     obtain ⟨xnv, xkv, xes, rfl, x1, x3, x4, x5⟩ := he5'.inv
     have m1 := x1.cells
     have m2 := x1.sc
     have m3 := x3.cells
     have m4 := x3.sc
     have gB : Gr S S5 := gA.trans g5
     have q1 := gB.cells q1'
     have q2 := gB.cells q2'
     have q3 := gB.cells q3'
     simp only [XZ, simprocAttr, f1, f2, f3, f6, f7, f8, f9, q3, m1, m2, m3, m4, hadd1, apartAll_nil]
     have bne : b ≠ bt := bbt
     have g6 := (hg.trans gB).wr (f := fun u => .cells u [.int .i64 (Ti (i + 1)).kind, ofL (Ti (i + 1)).name, xnv, xkv]) nbt (ne_cells q3) (by first | (rw [q3]; done) | (rw [q3]; rfl)) (good_cells _)
     refine ⟨cnt - (i + 1), by omega, (hL _ _ _).2 ⟨i + 1, _, _, by omega, (hB _).2 (by simp only [XZ, simprocAttr, f1, f2, f3, f6, f7, and_self]), by simp only [XZ, simprocAttr, f8], by simp only [XZ, simprocAttr], g6, fun r h => ?_, by rw [row_wr_ne _ _ _ bne]; exact q1, by rw [row_wr_ne _ _ _ b2t]; exact q2, row_wr_same _ _ _ _, he6.imp fun r p _ => ⟨p, row_wr_ne _ _ _ fun e => by rw [e] at p; rw [p] at rt; cases rt⟩⟩⟩
     refine hfresh r (Ch.fresh (Ch.of (fun _ => False) gB) ?_)
     by_cases e : r = bt
     ·rw [e, row_wr_same] at h; cases h
     ·rwa [row_wr_ne _ _ _ e] at h
    ·have h4' : ¬ (i : Int) < 4 := by omega
     have hi0 : ¬ (i : Int) = 0 := by omega
     simp only [XZ, simprocAttr, f1, f2, f3, f6, f7, f8, f9, q1, lenR, hA', h4', hi0]
     exact done (by omega) (by simp only [XZ, simprocAttr, f6]) (by simp only [XZ, simprocAttr, f8])
   ·have hA' : ¬ (i : Int) < r.names.length := by omega
    by_cases hi0 : i = 0
    ·have hi0' : ((i : Int) = 0) = True := eq_true (by omega)
     by_cases hone : 0 = 1
     ·first
      | exact absurd hone (by decide)
      | simp only [XZ, simprocAttr, f1, f2, f3, f6, f7, f8, f9, q1, q3, lenR, hA', hi0', c1, s1, c2, s2, d1, d2, d3, d4]
        have g2 : Gr S S := Gr.refl hg.wf
        have hnm : ([117] : Str) = nameAt r i := by unfold nameAt; rw [List.getElem?_eq_none (by omega)]
        rw [hnm]
        have q1' := q1
        have q2' := q2
        have q3' := q3
        refine wCall_marked (kidC (wf_low g2.wf S.t) (((hr.gr hg).gr g2).imp fun r p _ => ⟨p, rfl⟩) i (by omega)) ?_
        rintro _ S3 g3 ⟨ke, rfl, hke⟩
        simp only [XZ, simprocAttr, f1, f2, f3, f6, f7, f8, f9, hsubd]
        refine wCall_marked (ih hd0' (wf_low g3.wf S3.t) (hke.imp fun r p _ => ⟨p, rfl⟩) ((((hn.gr hg).gr g2).gr g3).imp fun r p _ => ⟨p, rfl⟩)) ?_
        rintro _ S4 g4 ⟨ce, rfl, hce⟩
        simp only [XZ, simprocAttr, f1, f2, f3, f6, f7, f8, f9]
        have gA : Gr S S4 := g2.trans (g3.trans g4)
        have fr4 : ∀ r, S4.row r = .none → S1.row r = .none := fun r h => hfresh r (Ch.fresh (Ch.of (fun _ => False) gA) h)
        have fr3 : ∀ r, S3.row r = .none → S1.row r = .none := fun r h => hfresh r (Ch.fresh (Ch.of (fun _ => False) (g2.trans g3)) h)
        refine wCall_marked (putC (P := fun r => S1.row r = .none) (t := Ti i) (x := treeS nms d (kidS r i)) (nameAt r i) (wf_low g4.wf S4.t) ((hte0.gr gA).imp fun r p _ => ⟨p, rfl⟩) (hce.imp fun r p _ => ⟨fr3 r p, rfl⟩) (by have := (hTl i).2; omega) (hTl i).1 fr4) ?_
        rintro _ S5 g5 ⟨e5, rfl, he5⟩
        have he5' : TyC (fun r => S1.row r = .none) S5 e5 (Ti (i + 1)) := by rw [hTs]; exact he5.imp fun r p _ => ⟨p, rfl⟩
        have he6 := he5'
        obtain ⟨xnv, xkv, xes, rfl, x1, x3, x4, x5⟩ := he5'.inv
        have m1 := x1.cells
        have m2 := x1.sc
        have m3 := x3.cells
        have m4 := x3.sc
        have gB : Gr S S5 := gA.trans g5
        have q1 := gB.cells q1'
        have q2 := gB.cells q2'
        have q3 := gB.cells q3'
        simp only [XZ, simprocAttr, f1, f2, f3, f6, f7, f8, f9, q3, m1, m2, m3, m4, hadd1, apartAll_nil]
        have bne : b ≠ bt := bbt
        have g6 := (hg.trans gB).wr (f := fun u => .cells u [.int .i64 (Ti (i + 1)).kind, ofL (Ti (i + 1)).name, xnv, xkv]) nbt (ne_cells q3) (by first | (rw [q3]; done) | (rw [q3]; rfl)) (good_cells _)
        refine ⟨cnt - (i + 1), by omega, (hL _ _ _).2 ⟨i + 1, _, _, by omega, (hB _).2 (by simp only [XZ, simprocAttr, f1, f2, f3, f6, f7, and_self]), by simp only [XZ, simprocAttr, f8], by simp only [XZ, simprocAttr], g6, fun r h => ?_, by rw [row_wr_ne _ _ _ bne]; exact q1, by rw [row_wr_ne _ _ _ b2t]; exact q2, row_wr_same _ _ _ _, he6.imp fun r p _ => ⟨p, row_wr_ne _ _ _ fun e => by rw [e] at p; rw [p] at rt; cases rt⟩⟩⟩
        refine hfresh r (Ch.fresh (Ch.of (fun _ => False) gB) ?_)
        by_cases e : r = bt
        ·rw [e, row_wr_same] at h; cases h
        ·rwa [row_wr_ne _ _ _ e] at h
     ·first
      | exact absurd rfl hone
      | simp only [XZ, simprocAttr, f1, f2, f3, f6, f7, f8, f9, q1, lenR, hA', hi0']
        exact done (by omega) (by simp only [XZ, simprocAttr, f6]) (by simp only [XZ, simprocAttr, f8])
    ·have hi0' : ¬ (i : Int) = 0 := by omega
     simp only [XZ, simprocAttr, f1, f2, f3, f6, f7, f8, f9, q1, lenR, hA', hi0']
     exact done (by omega) (by simp only [XZ, simprocAttr, f6]) (by simp only [XZ, simprocAttr, f8])
  ·have hd0' := hd0 (by decide) (by decide)
   have lenR := h1.len
   rw [cellsI_len] at lenR
   obtain ⟨cnt, hcnt⟩ : ∃ c, c = countR 8 r := ⟨_, rfl⟩
   have hcv : cnt = max (min r.names.length 4) 1 := by rw [hcnt]; rfl
   obtain ⟨Ti, hTi⟩ : ∃ Ti : Nat → Ty, Ti = fun i => (List.range i).foldl (fun t i => putS t (nameAt r i) (treeS nms d (kidS r i))) (.mk 8 [] [] []) := ⟨_, rfl⟩
   have hT0 : Ti 0 = .mk 8 [] [] [] := by rw [hTi]; rfl
   have hTs : ∀ i, Ti (i + 1) = putS (Ti i) (nameAt r i) (treeS nms d (kidS r i)) := fun i => by rw [hTi]; simp only [List.range_succ, List.foldl_append]; rfl
   have hTl : ∀ i, (Ti i).kids.length = (Ti i).names.length ∧ (Ti i).names.length ≤ i := fun i => by
    induction i with
    | zero => rw [hT0]; exact ⟨rfl, Nat.le_refl _⟩
    | succ i ihi => rw [hTs]; exact putS_len ihi.1 ihi.2
   have htree : treeS nms (d + 1) r = Ti cnt := by rw [treeS, hTi, hcnt]; simp only [← hkk]; rfl
   obtain ⟨L, hL⟩ : ∃ L : Nat → Fr → St → Prop, ∀ j fr S, L j fr S ↔ ∃ (i : Nat) (te : List V) (t : Nat), j + i = cnt ∧ B fr ∧ fr 8 = .ptr bt 0 ∧ fr 9 = .int .i64 i ∧ Gr st S ∧ (∀ r, S.row r = .none → S1.row r = .none) ∧ S.row b = .cells st.t [.int .i64 r.kind, .int .i64 r.n, rnv, rkv] ∧ S.row b2 = .cells t2 [.int .i64 0, ofL [], .snil, .snil] ∧ S.row bt = .cells t te ∧ TyC (fun r => S1.row r = .none) S te (Ti i) := ⟨_, fun _ _ _ => Iff.rfl⟩
   simp only [XZ, simprocAttr, f7]
   refine wC_loop L cnt (by omega) ((hL _ _ _).2 ⟨0, _, _, by omega, (hB _).2 (by simp only [XZ, simprocAttr, f1, f2, f3, f6, f7, and_self]), by simp only [XZ, simprocAttr], by simp only [XZ, simprocAttr] <;> rfl, g1, fun r h => h, r1, r2, rt, by rw [hT0]; exact flat _ _ _ _⟩) ?_
   clear f1 f2 f3 f6 f7 hBf
   intro j fr S hLj
   obtain ⟨i, te, t, hj, hBf, f8, f9, hg, hfresh, q1, q2, q3, hte⟩ := (hL _ _ _).1 hLj
   obtain ⟨f1, f2, f3, f6, f7⟩ := (hB _).1 hBf
   have hadd1 : IntKind.i64.wrap ((i : Int) + 1) = ((i + 1 : Nat) : Int) := by rw [i64_in (by omega) (by omega)]; rfl
   have done : ∀ {fr : Fr}, i = cnt → fr 6 = .ptr b2 0 → fr 8 = .ptr bt 0 → J fr S := fun e a c => (hJ _ _).2 ⟨Ti cnt, te, t, htree, a, c, hg, q3, q2, by rw [← e]; exact hte⟩
   have hte0 := hte
   obtain ⟨tnv, tkv, tes, rfl, y1, y3, y4, y5⟩ := hte.inv
   have d1 := y1.cells
   have d2 := y1.sc
   have d3 := y3.cells
   have d4 := y3.sc
   by_cases hA : i < r.names.length
   ·have hA' : (i : Int) < r.names.length := by omega
    by_cases h4i : i < 4
    ·have h4' : (i : Int) < 4 := by omega
     obtain ⟨zq, zo, z1, z2, z3, z4, z5⟩ := (h1.gr hg).elem (i := i) (by rw [cellsI_len]; exact hA)
     have zl : (cellsI r.names)[i]'(by rw [cellsI_len]; exact hA) = [.int .i64 r.names[i]] := by simp [cellsI]
     have z6 : ld1 (S.row zq) zo = some (.int .i64 r.names[i], .no) := by
      have := z5 0 (by rw [zl]; simp)
      simp only [zl] at this
      exact this
     simp only [XZ, simprocAttr, f1, f2, f3, f6, f7, f8, f9, q1, lenR, hA', h4', z1, z6]
     refine wCall_plain (nameC _ _ hg.wf) ?_
     rintro _ S2 ⟨g2, rfl⟩
     have hnm : nameS r.names[i] = nameAt r i := by unfold nameAt; rw [List.getElem?_eq_getElem hA]
     rw [hnm]
     have q1' := q1
     have q2' := q2
     have q3' := q3
     have q1 := g2.cells q1
     have q2 := g2.cells q2
     have q3 := g2.cells q3
     simp only [XZ, simprocAttr, f1, f2, f3, f6, f7, f8, f9, q1, q3, c1, s1, c2, s2, d1, d2, d3, d4]
     refine wCall_marked (kidC (wf_low g2.wf S2.t) (((hr.gr hg).gr g2).imp fun r p _ => ⟨p, rfl⟩) i (by omega)) ?_
     rintro _ S3 g3 ⟨ke, rfl, hke⟩
     simp only [XZ, simprocAttr, f1, f2, f3, f6, f7, f8, f9, hsubd]
     refine wCall_marked (ih hd0' (wf_low g3.wf S3.t) (hke.imp fun r p _ => ⟨p, rfl⟩) ((((hn.gr hg).gr g2).gr g3).imp fun r p _ => ⟨p, rfl⟩)) ?_
     rintro _ S4 g4 ⟨ce, rfl, hce⟩
     simp only [XZ, simprocAttr, f1, f2, f3, f6, f7, f8, f9]
     have gA : Gr S S4 := g2.trans (g3.trans g4)
     have fr4 : ∀ r, S4.row r = .none → S1.row r = .none := fun r h => hfresh r (Ch.fresh (Ch.of (fun _ => False) gA) h)
     have fr3 : ∀ r, S3.row r = .none → S1.row r = .none := fun r h => hfresh r (Ch.fresh (Ch.of (fun _ => False) (g2.trans g3)) h)
     refine wCall_marked (putC (P := fun r => S1.row r = .none) (t := Ti i) (x := treeS nms d (kidS r i)) (nameAt r i) (wf_low g4.wf S4.t) ((hte0.gr gA).imp fun r p _ => ⟨p, rfl⟩) (hce.imp fun r p _ => ⟨fr3 r p, rfl⟩) (by have := (hTl i).2; omega) (hTl i).1 fr4) ?_
     rintro _ S5 g5 ⟨e5, rfl, he5⟩
     have he5' : TyC (fun r => S1.row r = .none) S5 e5 (Ti (i + 1)) := by rw [hTs]; exact he5.imp fun r p _ => ⟨p, rfl⟩
     have he6 := he5'
     obtain ⟨xnv, xkv, xes, rfl, x1, x3, x4, x5⟩ := he5'.inv
     have m1 := x1.cells
     have m2 := x1.sc
     have m3 := x3.cells
     have m4 := x3.sc
     have gB : Gr S S5 := gA.trans g5
     have q1 := gB.cells q1'
     have q2 := gB.cells q2'
     have q3 := gB.cells q3'
     simp only [XZ, simprocAttr, f1, f2, f3, f6, f7, f8, f9, q3, m1, m2, m3, m4, hadd1, apartAll_nil]
     have bne : b ≠ bt := bbt
     have g6 := (hg.trans gB).wr (f := fun u => .cells u [.int .i64 (Ti (i + 1)).kind, ofL (Ti (i + 1)).name, xnv, xkv]) nbt (ne_cells q3) (by first | (rw [q3]; done) | (rw [q3]; rfl)) (good_cells _)
     refine ⟨cnt - (i + 1), by omega, (hL _ _ _).2 ⟨i + 1, _, _, by omega, (hB _).2 (by simp only [XZ, simprocAttr, f1, f2, f3, f6, f7, and_self]), by simp only [XZ, simprocAttr, f8], by simp only [XZ, simprocAttr], g6, fun r h => ?_, by rw [row_wr_ne _ _ _ bne]; exact q1, by rw [row_wr_ne _ _ _ b2t]; exact q2, row_wr_same _ _ _ _, he6.imp fun r p _ => ⟨p, row_wr_ne _ _ _ fun e => by rw [e] at p; rw [p] at rt; cases rt⟩⟩⟩
     refine hfresh r (Ch.fresh (Ch.of (fun _ => False) gB) ?_)
     by_cases e : r = bt
     ·rw [e, row_wr_same] at h; cases h
     ·rwa [row_wr_ne _ _ _ e] at h
    ·have h4' : ¬ (i : Int) < 4 := by omega
     have hi0 : ¬ (i : Int) = 0 := by omega
     simp only [XZ, simprocAttr, f1, f2, f3, f6, f7, f8, f9, q1, lenR, hA', h4', hi0]
     exact done (by omega) (by simp only [XZ, simprocAttr, f6]) (by simp only [XZ, simprocAttr, f8])
   ·have hA' : ¬ (i : Int) < r.names.length := by omega
    by_cases hi0 : i = 0
    ·have hi0' : ((i : Int) = 0) = True := eq_true (by omega)
     by_cases hone : 1 = 1
     ·first
      | exact absurd hone (by decide)
      | simp only [XZ, simprocAttr, f1, f2, f3, f6, f7, f8, f9, q1, q3, lenR, hA', hi0', c1, s1, c2, s2, d1, d2, d3, d4]
        have g2 : Gr S S := Gr.refl hg.wf
        have hnm : ([117] : Str) = nameAt r i := by unfold nameAt; rw [List.getElem?_eq_none (by omega)]
        rw [hnm]
        have q1' := q1
        have q2' := q2
        have q3' := q3
        refine wCall_marked (kidC (wf_low g2.wf S.t) (((hr.gr hg).gr g2).imp fun r p _ => ⟨p, rfl⟩) i (by omega)) ?_
        rintro _ S3 g3 ⟨ke, rfl, hke⟩
        simp only [XZ, simprocAttr, f1, f2, f3, f6, f7, f8, f9, hsubd]
        refine wCall_marked (ih hd0' (wf_low g3.wf S3.t) (hke.imp fun r p _ => ⟨p, rfl⟩) ((((hn.gr hg).gr g2).gr g3).imp fun r p _ => ⟨p, rfl⟩)) ?_
        rintro _ S4 g4 ⟨ce, rfl, hce⟩
        simp only [XZ, simprocAttr, f1, f2, f3, f6, f7, f8, f9]
        have gA : Gr S S4 := g2.trans (g3.trans g4)
        have fr4 : ∀ r, S4.row r = .none → S1.row r = .none := fun r h => hfresh r (Ch.fresh (Ch.of (fun _ => False) gA) h)
        have fr3 : ∀ r, S3.row r = .none → S1.row r = .none := fun r h => hfresh r (Ch.fresh (Ch.of (fun _ => False) (g2.trans g3)) h)
        refine wCall_marked (putC (P := fun r => S1.row r = .none) (t := Ti i) (x := treeS nms d (kidS r i)) (nameAt r i) (wf_low g4.wf S4.t) ((hte0.gr gA).imp fun r p _ => ⟨p, rfl⟩) (hce.imp fun r p _ => ⟨fr3 r p, rfl⟩) (by have := (hTl i).2; omega) (hTl i).1 fr4) ?_
        rintro _ S5 g5 ⟨e5, rfl, he5⟩
        have he5' : TyC (fun r => S1.row r = .none) S5 e5 (Ti (i + 1)) := by rw [hTs]; exact he5.imp fun r p _ => ⟨p, rfl⟩
        have he6 := he5'
        obtain ⟨xnv, xkv, xes, rfl, x1, x3, x4, x5⟩ := he5'.inv
        have m1 := x1.cells
        have m2 := x1.sc
        have m3 := x3.cells
        have m4 := x3.sc
        have gB : Gr S S5 := gA.trans g5
        have q1 := gB.cells q1'
        have q2 := gB.cells q2'
        have q3 := gB.cells q3'
        simp only [XZ, simprocAttr, f1, f2, f3, f6, f7, f8, f9, q3, m1, m2, m3, m4, hadd1, apartAll_nil]
        have bne : b ≠ bt := bbt
        have g6 := (hg.trans gB).wr (f := fun u => .cells u [.int .i64 (Ti (i + 1)).kind, ofL (Ti (i + 1)).name, xnv, xkv]) nbt (ne_cells q3) (by first | (rw [q3]; done) | (rw [q3]; rfl)) (good_cells _)
        refine ⟨cnt - (i + 1), by omega, (hL _ _ _).2 ⟨i + 1, _, _, by omega, (hB _).2 (by simp only [XZ, simprocAttr, f1, f2, f3, f6, f7, and_self]), by simp only [XZ, simprocAttr, f8], by simp only [XZ, simprocAttr], g6, fun r h => ?_, by rw [row_wr_ne _ _ _ bne]; exact q1, by rw [row_wr_ne _ _ _ b2t]; exact q2, row_wr_same _ _ _ _, he6.imp fun r p _ => ⟨p, row_wr_ne _ _ _ fun e => by rw [e] at p; rw [p] at rt; cases rt⟩⟩⟩
        refine hfresh r (Ch.fresh (Ch.of (fun _ => False) gB) ?_)
        by_cases e : r = bt
        ·rw [e, row_wr_same] at h; cases h
        ·rwa [row_wr_ne _ _ _ e] at h
     ·first
      | exact absurd rfl hone
      | simp only [XZ, simprocAttr, f1, f2, f3, f6, f7, f8, f9, q1, lenR, hA', hi0']
        exact done (by omega) (by simp only [XZ, simprocAttr, f6]) (by simp only [XZ, simprocAttr, f8])
    ·have hi0' : ¬ (i : Int) = 0 := by omega
     simp only [XZ, simprocAttr, f1, f2, f3, f6, f7, f8, f9, q1, lenR, hA', hi0']
     exact done (by omega) (by simp only [XZ, simprocAttr, f6]) (by simp only [XZ, simprocAttr, f8])
  ·have hne : nms ≠ [] := fun e => by
    rw [hkd] at hkk
    by_cases c : (K = 9 ∧ nms = []) ∨ (d + 1 ≤ 1 ∧ 4 ≤ K ∧ K ≤ 8)
    ·rw [if_pos c] at hkd; cases hkd
    ·rw [if_neg c] at hkd; exact c (.inl ⟨hkd.symm, e⟩)
   have hpos := List.length_pos_iff.2 hne
   simp only [XZ, simprocAttr, f1, f2, f3, f7, r1, lenN]
   refine wCall_plain (within3C r.n nms.length _ (by omega) (by omega)) ?_
   rintro _ _ ⟨rfl, rfl⟩
   have q1 := Int.emod_nonneg r.n (show ((nms.length : Nat) : Int) ≠ 0 by omega)
   have q2 := Int.emod_lt_of_pos r.n (show (0 : Int) < ((nms.length : Nat) : Int) by omega)
   obtain ⟨i, hi⟩ : ∃ i : Nat, r.n % nms.length = i := ⟨(r.n % nms.length).toNat, by omega⟩
   rw [hi] at q1 q2
   have hil : i < nms.length := by omega
   obtain ⟨q, o, a1, a2, a3, a4, a5⟩ := (hn.gr g1).elem (i := i) (by rw [strs_len]; exact hil)
   have el : (strs nms)[i]'(by rw [strs_len]; exact hil) = [ofL nms[i]] := by simp [strs]
   have a6 : ld1 (S1.row q) o = some (ofL nms[i], .no) := by
    have := a5 0 (by rw [el]; simp)
    simp only [el] at this
    exact this
   rw [hi]
   simp only [XZ, simprocAttr, f2, a1, a6, rt]
   refine (hJ _ _).2 ⟨_, _, _, ?_, by simp only [XZ, simprocAttr, f6], by simp only [XZ, simprocAttr], g1.wr nbt (ne_cells rt) (by rw [rt]; rfl) (good_cells _), row_wr_same _ _ _ _, by rw [row_wr_ne _ _ _ b2t]; exact r2, flat _ _ _ _⟩
   rw [treeS]
   simp only [← hkk, if_true]
   rw [hi]
   simp [List.getD_eq_getElem?_getD, hil]
 intro fr S hJf
 obtain ⟨T, te, t, hT, f6, f8, gS, rS, rS2, hTy⟩ := (hJ _ _).1 hJf
 have hTy2 := hTy
 obtain ⟨nv', kv', es', rfl, t1, t3, t4, t5⟩ := hTy.inv
 have c3 := t1.cells
 have s3 := t1.sc
 have c4 := t3.cells
 have s4 := t3.sc
 rw [wC_seq]; simp only [XZ, simprocAttr, f6, f8, rS, rS2, c3, s3, c4, s4]
 have gw := gS.wr (f := fun u => .cells u [.int .i64 T.kind, ofL T.name, nv', kv']) nb2 (ne_cells rS2) (by first | (rw [rS2]; done) | (rw [rS2]; rfl)) (good_cells _)
 refine ⟨gw, _, rfl, ?_⟩
 rw [hT]
 exact hTy2.imp fun r p _ => ⟨st1 r p, row_wr_ne _ _ _ fun e => by rw [e] at p; rw [p] at r2; cases r2⟩
theorem treeC (nms : List Str) (hnm : nms.length < 1000) : ∀ d : Nat, d < 1000 → TreeAt nms (d + 1)
 | 0, h => treeCore nms hnm 0 h fun e => absurd rfl e
 | d + 1, h => treeCore nms hnm (d + 1) h fun _ => treeC nms hnm d (by omega)
set_option maxHeartbeats 2000000 in
theorem fewAllC {P : Pt → Prop} {st : St} {e1 : List V} {q1 : Rw} {v2 v3 : V} {ts ss : List Rw} (hw : WF st) (h1 : RwC P st e1 q1) (h2 : RwsAt P st v2 ts) (h3 : RwsAt P st v3 ss) :
  Does (tabT tabD) n_spruelaw3_FewAll [.agg e1, v2, v3] st fun v S => Gr st S ∧ ∃ b, v = .bool b := by
 refine does_fn at_spruelaw3_FewAll rfl ?_
 obtain ⟨n0, hn0⟩ : ∃ n, st.nx = up 0 n := ⟨_, up0 _⟩
 have g1 := h1
 obtain ⟨nv1, kv1, es1, rfl, _, _, _, a1, a2, _, _, _⟩ := h1.inv
 have c1 := a1.cells
 have s1 := a1.sc
 have c2 := a2.cells
 have s2 := a2.sc
 obtain ⟨l2, s3, c3, m2⟩ := h2.len
 obtain ⟨l3, s4, c4, m3⟩ := h3.len
 simp only [cf_spruelaw3_FewAll, XY, simprocAttr]
 rw [wC_seq]; simp only [XY, simprocAttr, hn0, c1, s1, c2, s2]
 obtain ⟨S0, hS0⟩ : ∃ S0, S0 = (st.new fun t => .cells t [.int .i64 q1.kind, .int .i64 q1.n, nv1, kv1]) := ⟨_, rfl⟩
 have g0 : Gr st S0 := by rw [hS0]; exact Gr.new hw (good_cells _)
 obtain ⟨t0, r0⟩ : ∃ t, S0.row (up 0 n0) = .cells t [.int .i64 q1.kind, .int .i64 q1.n, nv1, kv1] := ⟨_, by rw [hS0]; simp only [XZ, simprocAttr, hn0]; rfl⟩
 rw [← hS0]
 clear hS0
 rw [wC_seqj, wC_seq]; simp only [XY, simprocAttr, r0]
 refine wCall_plain (fewC g1 _ g0 60 (by decide) (by decide)) ?_
 rintro _ S1 ⟨gf, m, rfl, _, _⟩
 have gs := g0.trans gf
 by_cases i1 : m = 0
 ·simp only [XZ, simprocAttr, i1, l2, l3]
  exact ⟨gs, _, rfl⟩
 by_cases i2 : (6 : Int) < ts.length
 ·simp only [XZ, simprocAttr, i1, l2, l3, i2]
  exact ⟨gs, _, rfl⟩
 by_cases i3 : (6 : Int) < ss.length
 ·simp only [XZ, simprocAttr, i1, l2, l3, i2, i3]
  exact ⟨gs, _, rfl⟩
 simp only [XY, simprocAttr, i1, l2, l3, i2, i3]
 obtain ⟨J, hJ⟩ : ∃ J : Fr → St → Prop, ∀ fr S, J fr S ↔ (fr 2 = v3 ∧ Gr st S) := ⟨_, fun _ _ => Iff.rfl⟩
 refine wC_cut J ?_ ?_
 ·rw [wC_seq]; simp only [XY, simprocAttr]
  obtain ⟨L, hL⟩ : ∃ L : Nat → Fr → St → Prop, ∀ j fr S, L j fr S ↔ ∃ i : Nat, j + i = ts.length ∧ fr 1 = v2 ∧ fr 2 = v3 ∧ fr 7 = .int .i64 i ∧ Gr st S := ⟨_, fun _ _ _ => Iff.rfl⟩
  refine wC_loop L ts.length (by omega) ((hL _ _ _).2 ⟨0, by omega, by simp only [XZ, simprocAttr], by simp only [XZ, simprocAttr], by simp only [XZ, simprocAttr] <;> rfl, gs⟩) ?_
  intro j fr S hLj
  obtain ⟨i, hj, f1, f2, f7, hg⟩ := (hL _ _ _).1 hLj
  by_cases hi : i < ts.length
  ·have hi' : (i : Int) < ts.length := by omega
   obtain ⟨r, o, kv, nv, b1, b2, b3, b4, _⟩ := (h2.gr hg).elem hi
   have hadd1 : IntKind.i64.wrap ((i : Int) + 1) = ((i + 1 : Nat) : Int) := by rw [i64_in (by omega) (by omega)]; rfl
   rw [wC_seqj, wC_seq]; simp only [XY, simprocAttr, f1, f7, l2, hi']
   rw [wC_seqj]; simp only [XY, simprocAttr]
   rw [wC_seq]; simp only [XY, simprocAttr, f1, f7, b1, b3]
   refine wCall_plain (fewC b4 _ (Gr.refl hg.wf) 30 (by decide) (by decide)) ?_
   rintro _ S' ⟨g', m', rfl, _, _⟩
   by_cases i4 : m' = 0
   ·simp only [XZ, simprocAttr, i4]
    exact ⟨hg.trans g', _, rfl⟩
   ·simp only [XZ, simprocAttr, i4, f7, hadd1]
    exact ⟨ts.length - (i + 1), by omega, (hL _ _ _).2 ⟨i + 1, by omega, by simp only [XZ, simprocAttr, f1], by simp only [XZ, simprocAttr, f2], by simp only [XZ, simprocAttr], hg.trans g'⟩⟩
  ·have hi' : ¬ (i : Int) < ts.length := by omega
   simp only [XZ, simprocAttr, f1, f7, l2, hi']
   exact (hJ _ _).2 ⟨by simp only [XZ, simprocAttr, f2], hg⟩
 intro fr S hJf
 obtain ⟨f2, hg⟩ := (hJ _ _).1 hJf
 obtain ⟨J2, hJ2⟩ : ∃ J : Fr → St → Prop, ∀ fr S, J fr S ↔ (Gr st S) := ⟨_, fun _ _ => Iff.rfl⟩
 refine wC_cut J2 ?_ ?_
 ·rw [wC_seq]; simp only [XY, simprocAttr]
  obtain ⟨L, hL⟩ : ∃ L : Nat → Fr → St → Prop, ∀ j fr S, L j fr S ↔ ∃ i : Nat, j + i = ss.length ∧ fr 2 = v3 ∧ fr 8 = .int .i64 i ∧ Gr st S := ⟨_, fun _ _ _ => Iff.rfl⟩
  refine wC_loop L ss.length (by omega) ((hL _ _ _).2 ⟨0, by omega, by simp only [XZ, simprocAttr, f2], by simp only [XZ, simprocAttr] <;> rfl, hg⟩) ?_
  intro j fr S hLj
  obtain ⟨i, hj, f2, f8, hg⟩ := (hL _ _ _).1 hLj
  by_cases hi : i < ss.length
  ·have hi' : (i : Int) < ss.length := by omega
   obtain ⟨r, o, kv, nv, b1, b2, b3, b4, _⟩ := (h3.gr hg).elem hi
   have hadd1 : IntKind.i64.wrap ((i : Int) + 1) = ((i + 1 : Nat) : Int) := by rw [i64_in (by omega) (by omega)]; rfl
   rw [wC_seqj, wC_seq]; simp only [XY, simprocAttr, f2, f8, l3, hi']
   rw [wC_seqj]; simp only [XY, simprocAttr]
   rw [wC_seq]; simp only [XY, simprocAttr, f2, f8, b1, b3]
   refine wCall_plain (fewC b4 _ (Gr.refl hg.wf) 20 (by decide) (by decide)) ?_
   rintro _ S' ⟨g', m', rfl, _, _⟩
   by_cases i4 : m' = 0
   ·simp only [XZ, simprocAttr, i4]
    exact ⟨hg.trans g', _, rfl⟩
   ·simp only [XZ, simprocAttr, i4, f8, hadd1]
    exact ⟨ss.length - (i + 1), by omega, (hL _ _ _).2 ⟨i + 1, by omega, by simp only [XZ, simprocAttr, f2], by simp only [XZ, simprocAttr], hg.trans g'⟩⟩
  ·have hi' : ¬ (i : Int) < ss.length := by omega
   simp only [XZ, simprocAttr, f2, f8, l3, hi']
   exact (hJ2 _ _).2 hg
 intro fr S hJf
 have hg := (hJ2 _ _).1 hJf
 simp only [XZ, simprocAttr]
 exact ⟨hg, _, rfl⟩
theorem nms_elem {P : Pt → Prop} {st : St} {v : V} {ns : List Str} (h : SlAt P st v 1 (strs ns)) {i : Nat} (hi : i < ns.length) : ∃ r o, iaddrSV 1 v (.int .i64 i) = some (.ptr r o, .no) ∧ P r ∧ st.row r ≠ .none ∧ ld1 (st.row r) o = some (ofL ns[i], .no) := by
 have l1 : (strs ns).length = ns.length := strs_len _
 obtain ⟨q, o, a1, a2, a3, a4, a5⟩ := h.elem (i := i) (by omega)
 refine ⟨q, o, a1, a2, a3, ?_⟩
 have e : (strs ns)[i] = [ofL ns[i]] := by simp [strs]
 have := a5 0 (by rw [e]; simp)
 simp only [e] at this
 exact this
set_option maxHeartbeats 8000000 in
theorem schemaF {P : Pt → Prop} {st : St} {e1 : List V} {q1 : Rw} {v2 v3 : V} {ts ss : List Rw} (hw : WF st) (h1 : RwC P st e1 q1) (h2 : RwsAt P st v2 ts) (h3 : RwsAt P st v3 ss) :
  Does (tabT tabD) n_spruelaw3_Schema [.agg e1, v2, v3] st fun v S => Gr st S ∧ ∃ c tv sv, v = .agg (c ++ [tv, sv]) ∧ SchF st S c tv sv (schemaS q1 ts ss) := by
 refine does_fn at_spruelaw3_Schema rfl ?_
 obtain ⟨n0, hn0⟩ : ∃ n, st.nx = up 0 n := ⟨_, up0 _⟩
 have g1 := h1
 obtain ⟨nv1, kv1, es1, rfl, _, _, _, a1, a2, _, _, _⟩ := h1.inv
 have c1 := a1.cells
 have s1 := a1.sc
 have c2 := a2.cells
 have s2 := a2.sc
 obtain ⟨l2, s3, c3, m2⟩ := h2.len
 obtain ⟨l3, s4, c4, m3⟩ := h3.len
 obtain ⟨b3, hb3⟩ : ∃ b, b = up 0 n0 := ⟨_, rfl⟩
 obtain ⟨b6, hb6⟩ : ∃ b, b = up 1 n0 := ⟨_, rfl⟩
 obtain ⟨b7, hb7⟩ : ∃ b, b = up 2 n0 := ⟨_, rfl⟩
 have n3 : st.row b3 = .none := by rw [hb3]; exact nx0 hw hn0 0
 have n6 : st.row b6 = .none := by rw [hb6]; exact nx0 hw hn0 1
 have n7 : st.row b7 = .none := by rw [hb7]; exact nx0 hw hn0 2
 have ne67 : b6 ≠ b7 := by rw [hb6, hb7, up_ne]; decide
 have ne37 : b3 ≠ b7 := by rw [hb3, hb7, up_ne]; decide
 have ne36 : b3 ≠ b6 := by rw [hb3, hb6, up_ne]; decide
 obtain ⟨nms, hnms⟩ : ∃ l, l = tyNms.take ts.length := ⟨_, rfl⟩
 have hT4 : tyNms.length = 4 := rfl
 have hnl : nms.length = min 4 ts.length := by rw [hnms, List.length_take, hT4]; omega
 have hnt : tyNms.take nms.length = nms := by
  rw [hnl, hnms]
  rcases Nat.le_total 4 ts.length with h | h
  ·rw [Nat.min_eq_left h, List.take_of_length_le (by omega), List.take_of_length_le (by omega)]
  ·rw [Nat.min_eq_right h]
 obtain ⟨B, hB⟩ : ∃ B : Pt → Prop, ∀ r, B r ↔ (st.row r ≠ .none ∨ r = b6 ∨ r = b7) := ⟨_, fun _ => Iff.rfl⟩
 have B6 : B b6 := (hB _).2 (.inr (.inl rfl))
 have B7 : B b7 := (hB _).2 (.inr (.inr rfl))
 have B3 : ¬ B b3 := fun h => by rcases (hB _).1 h with h | h | h; exact h n3; exact ne36 h; exact ne37 h
 obtain ⟨I, hI⟩ : ∃ I : Fr → St → Prop, ∀ fr S, I fr S ↔ (fr 1 = v2 ∧ fr 2 = v3 ∧ fr 3 = .ptr b3 0 ∧ fr 6 = .ptr b6 0 ∧ fr 7 = .ptr b7 0 ∧ fr 8 = .snil ∧ Gr st S ∧ (∃ t, S.row b3 = .cells t [.int .i64 q1.kind, .int .i64 q1.n, nv1, kv1]) ∧ (∃ t, S.row b6 = .cells t [.int .i64 0, ofL [], .snil, .snil, .snil, .snil]) ∧ (∃ t, S.row b7 = .cells t [.int .i64 0, ofL [], .snil, .snil, .snil, .snil])) := ⟨_, fun _ _ => Iff.rfl⟩
 simp only [cf_spruelaw3_Schema, XY, simprocAttr]
 rw [wC_seq]; simp only [XY, simprocAttr, hn0, c1, s1, c2, s2]
 rw [wC_seq]; simp only [XY, simprocAttr, hn0]
 rw [wC_seq]; simp only [XY, simprocAttr]
 rw [← hb3, ← hb6, ← hb7]
 obtain ⟨S0, hS0⟩ : ∃ S0, S0 = (((st.new fun t => .cells t [.int .i64 q1.kind, .int .i64 q1.n, nv1, kv1]).new fun t => .cells t [.int .i64 0, ofL [], .snil, .snil, .snil, .snil]).new fun t => .cells t [.int .i64 0, ofL [], .snil, .snil, .snil, .snil]) := ⟨_, rfl⟩
 have g0 : Gr st S0 := by rw [hS0]; exact ((Gr.new hw (good_cells _)).nn (good_cells _)).nn (good_cells _)
 obtain ⟨t3, r3⟩ : ∃ t, S0.row b3 = .cells t [.int .i64 q1.kind, .int .i64 q1.n, nv1, kv1] := ⟨_, by rw [hS0, hb3]; simp only [XZ, simprocAttr, hn0]; rfl⟩
 obtain ⟨t6, r6⟩ : ∃ t, S0.row b6 = .cells t [.int .i64 0, ofL [], .snil, .snil, .snil, .snil] := ⟨_, by rw [hS0, hb6]; simp only [XZ, simprocAttr, hn0]; rfl⟩
 obtain ⟨t7, r7⟩ : ∃ t, S0.row b7 = .cells t [.int .i64 0, ofL [], .snil, .snil, .snil, .snil] := ⟨_, by rw [hS0, hb7]; simp only [XZ, simprocAttr, hn0]; rfl⟩
 rw [← hS0]
 clear hS0 hI I
 obtain ⟨J1, hJ1⟩ : ∃ J : Fr → St → Prop, ∀ fr S, J fr S ↔ (∃ nv, fr 1 = v2 ∧ fr 2 = v3 ∧ fr 3 = .ptr b3 0 ∧ fr 6 = .ptr b6 0 ∧ fr 7 = .ptr b7 0 ∧ fr 8 = nv ∧ Gr S0 S ∧ SlF S0 S nv 1 (strs nms)) := ⟨_, fun _ _ => Iff.rfl⟩
 refine wC_cut J1 ?_ ?_
 ·rw [wC_seq]; simp only [XY, simprocAttr]
  obtain ⟨L, hL⟩ : ∃ L : Nat → Fr → St → Prop, ∀ j fr S, L j fr S ↔ ∃ (i : Nat) (nv : V), j + i = nms.length ∧ fr 1 = v2 ∧ fr 2 = v3 ∧ fr 3 = .ptr b3 0 ∧ fr 6 = .ptr b6 0 ∧ fr 7 = .ptr b7 0 ∧ fr 8 = nv ∧ fr 9 = .int .i64 i ∧ Gr S0 S ∧ SlF S0 S nv 1 (strs (tyNms.take i)) := ⟨_, fun _ _ _ => Iff.rfl⟩
  refine wC_loop L nms.length (by omega) ((hL _ _ _).2 ⟨0, .snil, by omega, by simp only [XZ, simprocAttr], by simp only [XZ, simprocAttr], by simp only [XZ, simprocAttr], by simp only [XZ, simprocAttr], by simp only [XZ, simprocAttr], by simp only [XZ, simprocAttr], by simp only [XZ, simprocAttr] <;> rfl, Gr.refl g0.wf, SlF.nil _ _ _⟩) ?_
  intro j fr S hLj
  obtain ⟨i, nv, hj, f1, f2, f3, f6, f7, f8, f9, hg, hs⟩ := (hL _ _ _).1 hLj
  have done : ∀ fr', i = nms.length → fr' 1 = v2 → fr' 2 = v3 → fr' 3 = .ptr b3 0 → fr' 6 = .ptr b6 0 → fr' 7 = .ptr b7 0 → fr' 8 = nv → J1 fr' S := fun fr' e f1 f2 f3 f6 f7 f8 => (hJ1 _ _).2 ⟨nv, f1, f2, f3, f6, f7, f8, hg, by rw [e, hnt] at hs; exact hs⟩
  by_cases hi : i < ts.length
  ·have hi' : (i : Int) < ts.length := by omega
   by_cases h4 : i < 4
   ·have h4' : (i : Int) < 4 := by omega
    have hit : i < tyNms.length := by omega
    have wS := hg.wf
    obtain ⟨nS, hnS⟩ : ∃ n, S.nx = up 0 n := ⟨_, up0 _⟩
    have hadd1 : IntKind.i64.wrap ((i : Int) + 1) = ((i + 1 : Nat) : Int) := by rw [i64_in (by omega) (by omega)]; rfl
    rw [wC_seqj, wC_seq]; simp only [XY, simprocAttr, f1, f9, l2, hi', h4']
    have app : ∀ {R : V → St → Prop}, (∀ S' v', Gr S0 S' → SlF S0 S' v' 1 (strs (tyNms.take (i + 1))) → R v' S') → wW (appV ((S.new fun t => .cells t [ofL [65], ofL [66, 101, 101], ofL [67, 97, 116], ofL [68, 111, 103]]).new fun t => .cells t [ofL tyNms[i]]) 1 nv (.slx (up 1 nS) 0 1 1 1)) ((S.new fun t => .cells t [ofL [65], ofL [66, 101, 101], ofL [67, 97, 116], ofL [68, 111, 103]]).new fun t => .cells t [ofL tyNms[i]]) R := fun k => by
     have ga : Gr S (S.new fun t => .cells t [ofL [65], ofL [66, 101, 101], ofL [67, 97, 116], ofL [68, 111, 103]]) := Gr.new wS (good_cells _)
     have gb := Gr.new (f := fun t => .cells t [ofL tyNms[i]]) ga.wf (good_cells _)
     have hone := one_at (st := (S.new fun t => .cells t [ofL [65], ofL [66, 101, 101], ofL [67, 97, 116], ofL [68, 111, 103]])) (z := 1) (e := [ofL tyNms[i]]) rfl
     rw [show (S.new fun t => Row.cells t [ofL [65], ofL [66, 101, 101], ofL [67, 97, 116], ofL [68, 111, 103]]).nx = up 1 nS by simp only [XZ, simprocAttr, hnS]] at hone
     refine wW_appF (S0 := S0) ((hg.trans ga).trans gb) ((hs.gr ga).gr gb) hone (fun e he => by rw [List.mem_singleton.1 he]; rfl) (by simp) (by rw [strs_len, List.length_take]; simp; omega) fun S' v' a b _ => k S' v' a ?_
     rw [List.take_succ_eq_append_getElem hit, show strs (tyNms.take i ++ [tyNms[i]]) = strs (tyNms.take i) ++ [[ofL tyNms[i]]] by unfold strs; rw [List.map_append, List.map_append]; rfl]
     exact b
    have nxt : ∀ fr' S' v', fr' 1 = v2 → fr' 2 = v3 → fr' 3 = .ptr b3 0 → fr' 6 = .ptr b6 0 → fr' 7 = .ptr b7 0 → fr' 8 = v' → fr' 9 = .int .i64 ((i + 1 : Nat) : Int) → Gr S0 S' → SlF S0 S' v' 1 (strs (tyNms.take (i + 1))) → ∃ m, m < j ∧ L m fr' S' := fun fr' S' v' x1 x2 x3 x4 x5 x6 x7 x8 x9 => ⟨j - 1, by omega, (hL _ _ _).2 ⟨i + 1, v', by omega, x1, x2, x3, x4, x5, x6, x7, x8, x9⟩⟩
    rw [wC_seqj]; simp only [XY, simprocAttr]
    rcases (show i = 0 ∨ i = 1 ∨ i = 2 ∨ i = 3 by omega) with rfl | rfl | rfl | rfl
    all_goals simp only [XZ, simprocAttr, f8, f9, hnS]
    all_goals first | refine ⟨⟨by decide, by decide⟩, app fun S' v' ga hs' => ?_⟩ | refine app fun S' v' ga hs' => ?_
    all_goals simp only [XZ, simprocAttr, f9, hadd1]
    all_goals exact nxt _ _ _ (by simp only [XZ, simprocAttr, f1]) (by simp only [XZ, simprocAttr, f2]) (by simp only [XZ, simprocAttr, f3]) (by simp only [XZ, simprocAttr, f6]) (by simp only [XZ, simprocAttr, f7]) (by simp only [XZ, simprocAttr]) (by simp only [XZ, simprocAttr]) ga hs'
   ·have h4' : ¬ (i : Int) < 4 := by omega
    simp only [XZ, simprocAttr, f1, f9, l2, hi', h4']
    exact done _ (by omega) (by simp only [XZ, simprocAttr, f1]) (by simp only [XZ, simprocAttr, f2]) (by simp only [XZ, simprocAttr, f3]) (by simp only [XZ, simprocAttr, f6]) (by simp only [XZ, simprocAttr, f7]) (by simp only [XZ, simprocAttr, f8])
  ·have hi' : ¬ (i : Int) < ts.length := by omega
   simp only [XZ, simprocAttr, f1, f9, l2, hi']
   exact done _ (by omega) (by simp only [XZ, simprocAttr, f1]) (by simp only [XZ, simprocAttr, f2]) (by simp only [XZ, simprocAttr, f3]) (by simp only [XZ, simprocAttr, f6]) (by simp only [XZ, simprocAttr, f7]) (by simp only [XZ, simprocAttr, f8])
 intro fr S1 hJf
 obtain ⟨nv, f1, f2, f3, f6, f7, f8, hg1, hs1⟩ := (hJ1 _ _).1 hJf
 have gs1 := g0.trans hg1
 have B0 : ∀ r, B r → S0.row r ≠ .none := fun r h => by
  rcases (hB _).1 h with h | h | h
  ·rw [g0.same r h]; exact h
  ·rw [h]; exact ne_cells r6
  ·rw [h]; exact ne_cells r7
 have B1 : ∀ r, B r → S1.row r ≠ .none := fun r h => by rw [hg1.same r (B0 r h)]; exact B0 r h
 have hnv : ∀ {S : St}, (∀ r, S1.row r ≠ .none → ¬ B r → S.row r = S1.row r) → SlAt (fun _ => True) S nv 1 (strs nms) := fun k => hs1.at.imp fun r p e => ⟨trivial, k r e fun b => B0 r b p⟩
 have len8 : lenLV nv = some (.int .i64 nms.length, .no) := by have := hs1.at.len; rwa [strs_len] at this
 have q3 := hg1.cells r3
 have q6 := hg1.cells r6
 have q7 := hg1.cells r7
 have hn1000 : nms.length < 1000 := by omega
 have T5 : TreeAt nms 5 := treeC nms hn1000 4 (by decide)
 have T6 : TreeAt nms 6 := treeC nms hn1000 5 (by decide)
 have T4 : TreeAt nms 4 := treeC nms hn1000 3 (by decide)
 have htl : (typesOf nms ts).length = nms.length := typesOf_len _ _ (by omega)
 obtain ⟨J2, hJ2⟩ : ∃ J : Fr → St → Prop, ∀ fr S, J fr S ↔ (∃ tv t, fr 2 = v3 ∧ fr 3 = .ptr b3 0 ∧ fr 6 = .ptr b6 0 ∧ fr 7 = .ptr b7 0 ∧ fr 8 = nv ∧ LsF NmC st S1 B 5 S tv (typesOf nms ts) ∧ S.row b7 = .cells t [.int .i64 0, ofL [], .snil, .snil, tv, .snil] ∧ S.row b6 = .cells t6 [.int .i64 0, ofL [], .snil, .snil, .snil, .snil]) := ⟨_, fun _ _ => Iff.rfl⟩
 refine wC_cut J2 ?_ ?_
 ·rw [wC_seq]; simp only [XY, simprocAttr]
  obtain ⟨L, hL⟩ : ∃ L : Nat → Fr → St → Prop, ∀ j fr S, L j fr S ↔ ∃ (i : Nat) (tv : V) (t : Nat), j + i = nms.length ∧ fr 1 = v2 ∧ fr 2 = v3 ∧ fr 3 = .ptr b3 0 ∧ fr 6 = .ptr b6 0 ∧ fr 7 = .ptr b7 0 ∧ fr 8 = nv ∧ fr 10 = .int .i64 i ∧ LsF NmC st S1 B 5 S tv ((typesOf nms ts).take i) ∧ S.row b7 = .cells t [.int .i64 0, ofL [], .snil, .snil, tv, .snil] ∧ S.row b6 = .cells t6 [.int .i64 0, ofL [], .snil, .snil, .snil, .snil] := ⟨_, fun _ _ _ => Iff.rfl⟩
  refine wC_loop L nms.length (by omega) ((hL _ _ _).2 ⟨0, .snil, t7, by omega, by simp only [XZ, simprocAttr, f1], by simp only [XZ, simprocAttr, f2], by simp only [XZ, simprocAttr, f3], by simp only [XZ, simprocAttr, f6], by simp only [XZ, simprocAttr, f7], by simp only [XZ, simprocAttr, f8], by simp only [XZ, simprocAttr] <;> rfl, LsF.nil gs1, q7, q6⟩) ?_
  clear f1 f2 f3 f6 f7 f8
  intro j fr S hLj
  obtain ⟨i, tv, t, hj, f1, f2, f3, f6, f7, f8, f10, hF, r7, r6⟩ := (hL _ _ _).1 hLj
  by_cases hi : i < nms.length
  ·have hi' : (i : Int) < nms.length := by omega
   have hadd1 : IntKind.i64.wrap ((i : Int) + 1) = ((i + 1 : Nat) : Int) := by rw [i64_in (by omega) (by omega)]; rfl
   obtain ⟨ra, oa, a1, _, _, a4⟩ := nms_elem (hnv hF.keep) hi
   obtain ⟨rb, ob, kb, vb, b1, b2, b4, b5, _⟩ := (h2.gr hF.g).elem (i := i) (by omega)
   have hit : i < (typesOf nms ts).length := by omega
   have hget := typesOf_get nms ts i hi (by omega) hit
   rw [wC_seqj, wC_seq]; simp only [XY, simprocAttr, f8, f10, len8, hi']
   rw [wC_seqj]; simp only [XY, simprocAttr]
   simp only [XY, simprocAttr, f7, r7, f8, f10, a1, a4, f1, b1, b4]
   refine wCall_marked (T5 (wf_low hF.g.wf S.t) (b5.imp fun r p _ => ⟨p, rfl⟩) ((hnv hF.keep).imp fun r p _ => ⟨p, rfl⟩)) ?_
   rintro _ S2 gt ⟨x, rfl, hx⟩
   obtain ⟨X, hX⟩ : ∃ X, X = treeS nms 5 ts[i] := ⟨_, rfl⟩
   rw [← hX] at hx hget
   have hx0 := hx
   obtain ⟨xn, xk, xe, rfl, u1, u2, u3, u4⟩ := hx.inv
   have d1 := u1.cells
   have d2 := u1.sc
   have d3 := u2.cells
   have d4 := u2.sc
   have w2 := gt.wf
   obtain ⟨n2, hn2⟩ : ∃ n, S2.nx = up 0 n := ⟨_, up0 _⟩
   have F2 := hF.gr (C := NmC) NmC.imp gt
   simp only [XY, simprocAttr, hn2, d1, d2, d3, d4]
   have gn : Gr S2 (S2.new fun t => .cells t [ofL nms[i], .int .i64 X.kind, ofL X.name, xn, xk]) := Gr.new w2 (good_cells _)
   have F3 := F2.gr (C := NmC) NmC.imp gn
   have hone := one_at (st := S2) (z := 5) (e := [ofL nms[i], .int .i64 X.kind, ofL X.name, xn, xk]) rfl
   rw [hn2] at hone
   have h5 : NmC (fun r => ¬ B r ∧ rowOf tv ≠ some r) (S2.new fun t => .cells t [ofL nms[i], .int .i64 X.kind, ofL X.name, xn, xk]) [ofL nms[i], .int .i64 X.kind, ofL X.name, xn, xk] (nms[i], X) := ⟨_, rfl, hx0.imp fun r p e => ⟨⟨fun b => hF.live r (B1 r b) p, fun e => hF.alive e p⟩, gn.same r e⟩⟩
   refine wW_appL (C := NmC) NmC.imp F3 hone (by simp only [allSc, List.all_cons, List.all_nil, d2, d4]; rfl) h5 B1 (by rw [List.length_take]; omega) fun S4 v4 F4 kp => ?_
   rw [← hget, ← List.take_succ_eq_append_getElem hit] at F4
   have d5 := F4.sc
   have r62 := gn.cells (gt.cells r6)
   have r64 := (kp b6 (ne_cells r62) fun e => B1 b6 B6 (hF.own _ e)).trans r62
   have r72 := gn.cells (gt.cells r7)
   have r74 := (kp b7 (ne_cells r72) fun e => B1 b7 B7 (hF.own _ e)).trans r72
   simp only [XZ, simprocAttr, f7, r74, f10, hadd1, apartAll_nil, d5.1, d5.2]
   exact ⟨j - 1, by omega, (hL _ _ _).2 ⟨i + 1, v4, _, by omega, by simp only [XZ, simprocAttr, f1], by simp only [XZ, simprocAttr, f2], by simp only [XZ, simprocAttr, f3], by simp only [XZ, simprocAttr, f6], by simp only [XZ, simprocAttr, f7], by simp only [XZ, simprocAttr, f8], by simp only [XZ, simprocAttr], F4.wr (C := NmC) NmC.imp B7 n7 (B1 _ B7) r74, row_wr_same _ _ _ _, (row_wr_ne _ _ _ ne67).trans r64⟩⟩
  ·have hi' : ¬ (i : Int) < nms.length := by omega
   simp only [XZ, simprocAttr, f8, f10, len8, hi']
   rw [List.take_of_length_le (by omega)] at hF
   exact (hJ2 _ _).2 ⟨tv, t, by simp only [XZ, simprocAttr, f2], by simp only [XZ, simprocAttr, f3], by simp only [XZ, simprocAttr, f6], by simp only [XZ, simprocAttr, f7], by simp only [XZ, simprocAttr, f8], hF, r7, r6⟩
 clear f1 f2 f3 f6 f7 f8
 intro fr S hJf
 obtain ⟨tv, t, f2, f3, f6, f7, f8, hF, r7, r6⟩ := (hJ2 _ _).1 hJf
 have r3 : S.row b3 = .cells t3 [.int .i64 q1.kind, .int .i64 q1.n, nv1, kv1] := (hF.keep b3 (ne_cells q3) B3).trans q3
 rw [wC_seq]; simp only [XY, simprocAttr, f3, f7, f8, r3]
 refine wCall_plain (T6 hF.g.wf (g1.gr hF.g) (hnv hF.keep)) ?_
 rintro _ Sm ⟨gm, x, rfl, hx⟩
 obtain ⟨M, hM⟩ : ∃ M, M = treeS nms 6 q1 := ⟨_, rfl⟩
 rw [← hM] at hx
 have hx0 := hx
 obtain ⟨mn, mk, xe, rfl, u1, u2, u3, u4⟩ := hx.inv
 have y1 := u1.cells
 have y2 := u1.sc
 have y3 := u2.cells
 have y4 := u2.sc
 have rm7 := gm.cells r7
 have rm6 := gm.cells r6
 have Fm := hF.gr (C := NmC) NmC.imp gm
 simp only [XY, simprocAttr, f7, rm7, y1, y2, y3, y4]
 have FM := Fm.wr (C := NmC) NmC.imp (c' := [.int .i64 M.kind, ofL M.name, mn, mk, tv, .snil]) B7 n7 (B1 _ B7) rm7
 have kM : ∀ r, ¬ B r → (Sm.wr b7 t fun u => .cells u [.int .i64 M.kind, ofL M.name, mn, mk, tv, .snil]).row r = Sm.row r := fun r n => row_wr_ne _ _ _ fun e => n (by rw [e]; exact B7)
 have rM7 : (Sm.wr b7 t fun u => .cells u [.int .i64 M.kind, ofL M.name, mn, mk, tv, .snil]).row b7 = .cells Sm.t [.int .i64 M.kind, ofL M.name, mn, mk, tv, .snil] := row_wr_same _ _ _ _
 have rM6 : (Sm.wr b7 t fun u => .cells u [.int .i64 M.kind, ofL M.name, mn, mk, tv, .snil]).row b6 = .cells t6 [.int .i64 0, ofL [], .snil, .snil, .snil, .snil] := (row_wr_ne _ _ _ ne67).trans rm6
 have hMt : TyC (fun r => ¬ B r ∧ rowOf tv ≠ some r) (Sm.wr b7 t fun u => .cells u [.int .i64 M.kind, ofL M.name, mn, mk, tv, .snil]) [.int .i64 M.kind, ofL M.name, mn, mk] M := hx0.imp fun r p _ => by
  have : ¬ B r := fun b => hF.live r (B1 r b) p
  exact ⟨⟨this, fun e => hF.alive e p⟩, kM r this⟩
 have hlt := FM.lst (C := NmC) NmC.imp B1
 obtain ⟨S2, hS2⟩ : ∃ S2, S2 = (Sm.wr b7 t fun u => .cells u [.int .i64 M.kind, ofL M.name, mn, mk, tv, .snil]) := ⟨_, rfl⟩
 obtain ⟨t2, rM7⟩ : ∃ t, S2.row b7 = .cells t [.int .i64 M.kind, ofL M.name, mn, mk, tv, .snil] := ⟨_, by rw [hS2]; exact rM7⟩
 rw [← hS2] at FM rM6 hMt hlt ⊢
 clear hS2 kM rm7 rm6 Fm
 have g2 := FM.g
 have keep2 := FM.keep
 have live2 := FM.live
 have B2 : ∀ r, B r → S2.row r ≠ .none := fun r b => FM.live r (B1 r b)
 have own2 : ∀ r, rowOf tv = some r → ¬ B r ∧ S2.row r ≠ .none := fun r e => ⟨fun b => B1 r b (FM.own r e), FM.alive e⟩
 have es2 := FM.es
 clear FM
 have hsl : (sigsOf nms ss).length = min 4 ss.length := sigsOf_len _ _
 obtain ⟨J3, hJ3⟩ : ∃ J : Fr → St → Prop, ∀ fr S, J fr S ↔ (∃ sv t, fr 6 = .ptr b6 0 ∧ fr 7 = .ptr b7 0 ∧ LsF (SgT tv) st S2 B 6 S sv (sigsOf nms ss) ∧ S.row b7 = .cells t [.int .i64 M.kind, ofL M.name, mn, mk, tv, sv] ∧ S.row b6 = .cells t6 [.int .i64 0, ofL [], .snil, .snil, .snil, .snil]) := ⟨_, fun _ _ => Iff.rfl⟩
 refine wC_cut J3 ?_ ?_
 ·rw [wC_seq]; simp only [XY, simprocAttr]
  obtain ⟨L, hL⟩ : ∃ L : Nat → Fr → St → Prop, ∀ j fr S, L j fr S ↔ ∃ (i : Nat) (sv : V) (t : Nat), j + i = min 4 ss.length ∧ fr 2 = v3 ∧ fr 6 = .ptr b6 0 ∧ fr 7 = .ptr b7 0 ∧ fr 8 = nv ∧ fr 11 = .int .i64 i ∧ LsF (SgT tv) st S2 B 6 S sv ((sigsOf nms ss).take i) ∧ S.row b7 = .cells t [.int .i64 M.kind, ofL M.name, mn, mk, tv, sv] ∧ S.row b6 = .cells t6 [.int .i64 0, ofL [], .snil, .snil, .snil, .snil] := ⟨_, fun _ _ _ => Iff.rfl⟩
  refine wC_loop L (min 4 ss.length) (by omega) ((hL _ _ _).2 ⟨0, .snil, t2, by omega, by simp only [XZ, simprocAttr, f2], by simp only [XZ, simprocAttr, f6], by simp only [XZ, simprocAttr, f7], by simp only [XZ, simprocAttr, f8], by simp only [XZ, simprocAttr] <;> rfl, LsF.nil g2, rM7, rM6⟩) ?_
  clear f2 f3 f6 f7 f8 r7 r6 r3
  intro j fr S hLj
  obtain ⟨i, sv, t, hj, f2, f6, f7, f8, f11, hF, r7, r6⟩ := (hL _ _ _).1 hLj
  have hnS : ∀ r, S1.row r ≠ .none → ¬ B r → S.row r = S1.row r := fun r e n => by rw [hF.keep r (live2 r e) n]; exact keep2 r e n
  have done : ∀ fr', i = min 4 ss.length → fr' 6 = .ptr b6 0 → fr' 7 = .ptr b7 0 → J3 fr' S := fun fr' e f6 f7 => (hJ3 _ _).2 ⟨sv, t, f6, f7, by rw [List.take_of_length_le (by omega)] at hF; exact hF, r7, r6⟩
  by_cases hi : i < ss.length
  ·have hi' : (i : Int) < ss.length := by omega
   by_cases h4 : i < 4
   ·have h4' : (i : Int) < 4 := by omega
    have hadd1 : IntKind.i64.wrap ((i : Int) + 1) = ((i + 1 : Nat) : Int) := by rw [i64_in (by omega) (by omega)]; rfl
    have wS := hF.g.wf
    obtain ⟨nS, hnx⟩ : ∃ n, S.nx = up 0 n := ⟨_, up0 _⟩
    have gb : Gr S (S.new fun t => .cells t [ofL [102, 97], ofL [102, 98], ofL [102, 99], ofL [102, 100]]) := Gr.new wS (good_cells _)
    have hsg : SlAt (fun r => r = up 0 nS) (S.new fun t => .cells t [ofL [102, 97], ofL [102, 98], ofL [102, 99], ofL [102, 100]]) (.slx (up 0 nS) 0 4 1 4) 1 (strs sgNms) := SlAt.freshx (es := strs sgNms) (t := S.t) (by simp only [XZ, simprocAttr, hnx]; rfl) rfl (by decide)
    have hi4 : i < sgNms.length := h4
    obtain ⟨N, hN⟩ : ∃ N, N = sgNms[i] := ⟨_, rfl⟩
    obtain ⟨ra, oa, a1, rfl, a3, a4⟩ := nms_elem hsg hi4
    rw [← hN] at a4
    obtain ⟨rb, ob, kb, vb, b1, b2, b4, b5, b6', kes, kb1, kb2, kb3, kb4⟩ := (h3.gr hF.g).elem (i := i) hi
    rw [wC_seqj, wC_seq]; simp only [XY, simprocAttr, f2, f11, l3, hi', h4']
    rw [wC_seqj]; simp only [XY, simprocAttr]
    simp only [XY, simprocAttr, hnx] at a4
    have orb := fun k => nes (ne_up wS hnx b2 k)
    rw [wC_seq]; simp only [XY, simprocAttr, f2, f8, f11, hnx, a1, a4, b1, b4, orb]
    obtain ⟨Sb, hSb⟩ : ∃ Sb, Sb = (S.new fun t => .cells t [ofL [102, 97], ofL [102, 98], ofL [102, 99], ofL [102, 100]]) := ⟨_, rfl⟩
    rw [← hSb] at gb ⊢
    clear hSb
    refine wCall_marked (T4 (wf_low gb.wf Sb.t) ((b5.gr gb).imp fun r p _ => ⟨p, rfl⟩) (((hnv hnS).gr gb).imp fun r p _ => ⟨p, rfl⟩)) ?_
    rintro _ Sa gt ⟨x, rfl, hx⟩
    obtain ⟨X, hX⟩ : ∃ X, X = treeS nms 4 ss[i] := ⟨_, rfl⟩
    rw [← hX] at hx
    have hx0 := hx
    obtain ⟨xn, xk, xe, rfl, u1, u2, u3, u4⟩ := hx.inv
    have d1 := u1.cells
    have d2 := u1.sc
    have d3 := u2.cells
    have d4 := u2.sc
    have ga := gb.trans gt
    have wa := gt.wf
    obtain ⟨na, hna⟩ : ∃ n, Sa.nx = up 0 n := ⟨_, up0 _⟩
    simp only [XY, simprocAttr, hna, d1, d2, d3, d4, apartAll_nil]
    obtain ⟨b12, hb12⟩ : ∃ b, b = up 0 na := ⟨_, rfl⟩
    have n12 : Sa.row b12 = .none := by rw [hb12]; exact nx0 wa hna 0
    obtain ⟨Sc, hSc⟩ : ∃ Sc, Sc = ((Sa.new fun t => .cells t [ofL [], .snil, .int .i64 0, ofL [], .snil, .snil]).wr (up 0 na) Sa.t fun u => .cells u [ofL N, .snil, .int .i64 X.kind, ofL X.name, xn, xk]) := ⟨_, rfl⟩
    have gc : Gr Sa Sc := by rw [hSc]; exact (Gr.refl wa).nw hna (good_cells _) (good_cells _)
    obtain ⟨t12, r12⟩ : ∃ t, Sc.row b12 = .cells t [ofL N, .snil, .int .i64 X.kind, ofL X.name, xn, xk] := ⟨_, by rw [hSc, hb12]; simp only [XZ, simprocAttr, hna]; rfl⟩
    rw [← hSc, ← hb12]
    clear hSc
    obtain ⟨B', hB'⟩ : ∃ B' : Pt → Prop, ∀ r, B' r ↔ (Sa.row r ≠ .none ∨ r = b12) := ⟨_, fun _ => Iff.rfl⟩
    have B12 : B' b12 := (hB' _).2 (.inr rfl)
    have Bc : ∀ r, B' r → Sc.row r ≠ .none := fun r h => by
     rcases (hB' _).1 h with h | h
     ·rw [gc.same r h]; exact h
     ·rw [h]; exact ne_cells r12
    have hget := sigsOf_get nms ss i hi4 hi (by omega)
    rw [← hN, ← hX] at hget
    have hpl := paramsOf_len nms ss[i]
    obtain ⟨ps, hps⟩ : ∃ ps, ps = paramsOf nms ss[i] := ⟨_, rfl⟩
    rw [← hps] at hget hpl
    obtain ⟨J4, hJ4⟩ : ∃ J : Fr → St → Prop, ∀ fr S, J fr S ↔ (∃ pv t, fr 2 = v3 ∧ fr 6 = .ptr b6 0 ∧ fr 7 = .ptr b7 0 ∧ fr 8 = nv ∧ fr 11 = .int .i64 i ∧ fr 12 = .ptr b12 0 ∧ LsF TyC Sa Sc B' 4 S pv ps ∧ S.row b12 = .cells t [ofL N, pv, .int .i64 X.kind, ofL X.name, xn, xk]) := ⟨_, fun _ _ => Iff.rfl⟩
    refine wC_cut J4 ?_ ?_
    ·rw [wC_seq]; simp only [XY, simprocAttr]
     obtain ⟨L4, hL4⟩ : ∃ L : Nat → Fr → St → Prop, ∀ j fr S, L j fr S ↔ ∃ (k : Nat) (pv : V) (t : Nat), j + k = min 3 ss[i].kids.length ∧ fr 2 = v3 ∧ fr 6 = .ptr b6 0 ∧ fr 7 = .ptr b7 0 ∧ fr 8 = nv ∧ fr 11 = .int .i64 i ∧ fr 12 = .ptr b12 0 ∧ fr 13 = .int .i64 k ∧ LsF TyC Sa Sc B' 4 S pv (ps.take k) ∧ S.row b12 = .cells t [ofL N, pv, .int .i64 X.kind, ofL X.name, xn, xk] := ⟨_, fun _ _ _ => Iff.rfl⟩
     refine wC_loop L4 (min 3 ss[i].kids.length) (by omega) ((hL4 _ _ _).2 ⟨0, .snil, t12, by omega, by simp only [XZ, simprocAttr, f2], by simp only [XZ, simprocAttr, f6], by simp only [XZ, simprocAttr, f7], by simp only [XZ, simprocAttr, f8], by simp only [XZ, simprocAttr, f11], by simp only [XZ, simprocAttr], by simp only [XZ, simprocAttr] <;> rfl, LsF.nil gc, r12⟩) ?_
     clear f2 f6 f7 f8 f11 r12
     intro j' fr S' hLj
     obtain ⟨k, pv, tt, hj', f2, f6, f7, f8, f11, f12, f13, hF', r12⟩ := (hL4 _ _ _).1 hLj
     have done' : ∀ fr', k = min 3 ss[i].kids.length → fr' 2 = v3 → fr' 6 = .ptr b6 0 → fr' 7 = .ptr b7 0 → fr' 8 = nv → fr' 11 = .int .i64 i → fr' 12 = .ptr b12 0 → J4 fr' S' := fun fr' e x1 x2 x3 x4 x5 x6 => (hJ4 _ _).2 ⟨pv, tt, x1, x2, x3, x4, x5, x6, by rw [List.take_of_length_le (by omega)] at hF'; exact hF', r12⟩
     have gS : Gr S S' := ga.trans hF'.g
     have b2' : S'.row rb ≠ .none := by rw [gS.same rb b2]; exact b2
     rw [← gS.same rb b2] at b4 b6'
     have kl : lenLV kb = some (.int .i64 ss[i].kids.length, .no) := by rw [kb1.len, kb2]
     by_cases hk : k < ss[i].kids.length
     ·have hk' : (k : Int) < ss[i].kids.length := by omega
      by_cases hk3 : k < 3
      ·have hk3' : (k : Int) < 3 := by omega
       have hadk : IntKind.i64.wrap ((k : Int) + 1) = ((k + 1 : Nat) : Int) := by rw [i64_in (by omega) (by omega)]; rfl
       obtain ⟨rc, oc, k1, k2, k3, k4, k5⟩ := kb1.elem (i := k) (by omega)
       have hkid := (kb4 k (by omega) hk).gr gS
       rw [← gS.same rc k3] at k4
       rw [wC_seqj, wC_seq]; simp only [XY, simprocAttr, f2, f11, f13, b1, b6', kl, hk', hk3']
       rw [wC_seqj]; simp only [XY, simprocAttr]
       simp only [XY, simprocAttr, f2, f8, f11, f12, f13, r12, b1, b6', k1, k4]
       refine wCall_marked (T4 (wf_low hF'.g.wf S'.t) (hkid.imp fun r p _ => ⟨p, rfl⟩) (((hnv hnS).gr gS).imp fun r p _ => ⟨p, rfl⟩)) ?_
       rintro _ Se ge ⟨y, rfl, hy⟩
       have hpi : k < ps.length := by omega
       have hpg : ps[k] = treeS nms 4 ss[i].kids[k] := by
        have := paramsOf_get nms ss[i] k hk (by rw [← hps]; exact hpi)
        rw [← this]
        simp only [hps]
       obtain ⟨Y, hY⟩ : ∃ Y, Y = treeS nms 4 ss[i].kids[k] := ⟨_, rfl⟩
       rw [← hY] at hy hpg
       have hy0 := hy
       obtain ⟨yn, yk, ye, rfl, z1, z2, z3, z4⟩ := hy.inv
       have e1 := z1.cells
       have e2 := z1.sc
       have e3 := z2.cells
       have e4 := z2.sc
       have we := ge.wf
       obtain ⟨ne, hne⟩ : ∃ n, Se.nx = up 0 n := ⟨_, up0 _⟩
       have Fe := hF'.gr (C := TyC) TyC.imp ge
       have re := ge.cells r12
       simp only [XY, simprocAttr, hne, e1, e2, e3, e4]
       have gn : Gr Se (Se.new fun t => .cells t [.int .i64 Y.kind, ofL Y.name, yn, yk]) := Gr.new we (good_cells _)
       have Fg := Fe.gr (C := TyC) TyC.imp gn
       have hone := one_at (st := Se) (z := 4) (e := [.int .i64 Y.kind, ofL Y.name, yn, yk]) rfl
       rw [hne] at hone
       refine wW_appL (C := TyC) TyC.imp Fg hone (by simp only [allSc, List.all_cons, List.all_nil, e2, e4]; rfl) (hy0.imp fun r p e => ⟨⟨fun b => hF'.live r (Bc r b) p, fun e => hF'.alive e p⟩, gn.same r e⟩) Bc (by rw [List.length_take]; omega) fun Sf vf Ff kp => ?_
       rw [← hpg, ← List.take_succ_eq_append_getElem hpi] at Ff
       have d5 := Ff.sc
       have rg := gn.cells re
       have rf := (kp b12 (ne_cells rg) fun e => Bc b12 B12 (hF'.own _ e)).trans rg
       simp only [XZ, simprocAttr, f12, f13, rf, hadk, apartAll_nil, d5.1, d5.2]
       exact ⟨j' - 1, by omega, (hL4 _ _ _).2 ⟨k + 1, vf, _, by omega, by simp only [XZ, simprocAttr, f2], by simp only [XZ, simprocAttr, f6], by simp only [XZ, simprocAttr, f7], by simp only [XZ, simprocAttr, f8], by simp only [XZ, simprocAttr, f11], by simp only [XZ, simprocAttr, f12], by simp only [XZ, simprocAttr], Ff.wr (C := TyC) TyC.imp B12 n12 (Bc _ B12) rf, row_wr_same _ _ _ _⟩⟩
      ·have hk3' : ¬ (k : Int) < 3 := by omega
       simp only [XZ, simprocAttr, f2, f11, f13, b1, b6', kl, hk', hk3']
       exact done' _ (by omega) (by simp only [XZ, simprocAttr, f2]) (by simp only [XZ, simprocAttr, f6]) (by simp only [XZ, simprocAttr, f7]) (by simp only [XZ, simprocAttr, f8]) (by simp only [XZ, simprocAttr, f11]) (by simp only [XZ, simprocAttr, f12])
     ·have hk' : ¬ (k : Int) < ss[i].kids.length := by omega
      simp only [XZ, simprocAttr, f2, f11, f13, b1, b6', kl, hk']
      exact done' _ (by omega) (by simp only [XZ, simprocAttr, f2]) (by simp only [XZ, simprocAttr, f6]) (by simp only [XZ, simprocAttr, f7]) (by simp only [XZ, simprocAttr, f8]) (by simp only [XZ, simprocAttr, f11]) (by simp only [XZ, simprocAttr, f12])
    clear f2 f6 f7 f8 f11 r12
    intro fr S' hJf
    obtain ⟨pv, tt, f2, f6, f7, f8, f11, f12, hF', r12⟩ := (hJ4 _ _).1 hJf
    have gS : Gr S S' := ga.trans hF'.g
    have r7' := gS.cells r7
    have r6' := gS.cells r6
    have d5 := hF'.sc
    have hpv := hF'.lst (C := TyC) TyC.imp Bc
    obtain ⟨ns', hns⟩ : ∃ n, S'.nx = up 0 n := ⟨_, up0 _⟩
    have ws := hF'.g.wf
    have F' := hF.gr (C := SgT tv) SgT.imp gS
    simp only [XY, simprocAttr, f7, f12, r7', r12, d1, d2, d3, d4, d5.1, d5.2, hns]
    have gn : Gr S' (S'.new fun t => .cells t [ofL N, pv, .int .i64 X.kind, ofL X.name, xn, xk]) := Gr.new ws (good_cells _)
    have Fg := F'.gr (C := SgT tv) SgT.imp gn
    have hone := one_at (st := S') (z := 6) (e := [ofL N, pv, .int .i64 X.kind, ofL X.name, xn, xk]) rfl
    rw [hns] at hone
    have sub : ∀ r, Sa.row r = .none → (¬ B r ∧ rowOf sv ≠ some r) ∧ rowOf tv ≠ some r := fun r p => by
     have p : S.row r = .none := Ch.fresh (Ch.of (fun _ => False) ga) p
     exact ⟨⟨fun b => hF.live r (B2 r b) p, fun e => hF.alive e p⟩, fun e => hF.live r (own2 r e).2 p⟩
    have sub2 : ∀ r, Sb.row r = .none → (¬ B r ∧ rowOf sv ≠ some r) ∧ rowOf tv ≠ some r := fun r p => by
     have p : S.row r = .none := Ch.fresh (Ch.of (fun _ => False) gb) p
     exact ⟨⟨fun b => hF.live r (B2 r b) p, fun e => hF.alive e p⟩, fun e => hF.live r (own2 r e).2 p⟩
    have h6 : SgT tv (fun r => ¬ B r ∧ rowOf sv ≠ some r) (S'.new fun t => .cells t [ofL N, pv, .int .i64 X.kind, ofL X.name, xn, xk]) [ofL N, pv, .int .i64 X.kind, ofL X.name, xn, xk] ⟨N, ps, X⟩ := by
     refine ⟨pv, _, rfl, ?_, ?_⟩
     ·exact hpv.imp (fun e x h => h.imp fun r p e => ⟨sub r (Classical.byContradiction fun n => p ((hB' _).2 (.inl n))), gn.same r e⟩) fun r p e => ⟨sub r (Classical.byContradiction fun n => p ((hB' _).2 (.inl n))), gn.same r e⟩
     ·exact hx0.imp fun r p e => ⟨sub2 r p, by rw [gn.same r (by rw [hF'.g.same r e]; exact e), hF'.g.same r e]; rfl⟩
    refine wW_appL (C := SgT tv) SgT.imp Fg hone (by simp only [allSc, List.all_cons, List.all_nil, d2, d4, d5.1]; rfl) h6 B2 (by rw [List.length_take]; omega) fun S4 v4 F4 kp => ?_
    rw [← hget, ← List.take_succ_eq_append_getElem (by omega)] at F4
    have d6 := F4.sc
    have r62 := gn.cells r6'
    have r64 := (kp b6 (ne_cells r62) fun e => B2 b6 B6 (hF.own _ e)).trans r62
    have r72 := gn.cells r7'
    have r74 := (kp b7 (ne_cells r72) fun e => B2 b7 B7 (hF.own _ e)).trans r72
    simp only [XZ, simprocAttr, f7, r74, f11, hadd1, apartAll_nil, d6.1, d6.2]
    exact ⟨j - 1, by omega, (hL _ _ _).2 ⟨i + 1, v4, _, by omega, by simp only [XZ, simprocAttr, f2], by simp only [XZ, simprocAttr, f6], by simp only [XZ, simprocAttr, f7], by simp only [XZ, simprocAttr, f8], by simp only [XZ, simprocAttr], F4.wr (C := SgT tv) SgT.imp B7 n7 (B2 _ B7) r74, row_wr_same _ _ _ _, (row_wr_ne _ _ _ ne67).trans r64⟩⟩
   ·have h4' : ¬ (i : Int) < 4 := by omega
    simp only [XZ, simprocAttr, f2, f11, l3, hi', h4']
    exact done _ (by omega) (by simp only [XZ, simprocAttr, f6]) (by simp only [XZ, simprocAttr, f7])
  ·have hi' : ¬ (i : Int) < ss.length := by omega
   simp only [XZ, simprocAttr, f2, f11, l3, hi']
   exact done _ (by omega) (by simp only [XZ, simprocAttr, f6]) (by simp only [XZ, simprocAttr, f7])
 clear f2 f3 f6 f7 f8 r7 r6 r3
 intro fr S hJf
 obtain ⟨sv, t, f6, f7, hF, r7, r6⟩ := (hJ3 _ _).1 hJf
 have d5 := hF.sc
 have d6 := hlt.sc
 simp only [XZ, simprocAttr, f6, f7, r7, r6, y1, y2, y3, y4, d5.1, d5.2, d6.1, d6.2]
 have FE := hF.wr (C := SgT tv) SgT.imp (c' := [.int .i64 M.kind, ofL M.name, mn, mk, tv, sv]) B6 n6 (B2 _ B6) r6
 have hst : ∀ r, ¬ B r → st.row r = .none := fun r n => Classical.byContradiction fun e => n ((hB _).2 (.inl e))
 have keepE : ∀ r, ¬ B r ∧ rowOf tv ≠ some r → S2.row r ≠ .none → Own st tv sv r ∧ _ = S2.row r := fun r p e => ⟨⟨hst r p.1, p.2, fun k => e (FE.own r k)⟩, FE.keep r e p.1⟩
 obtain ⟨es, k1, k2, k3⟩ := es2
 obtain ⟨gs, l1, l2, l3⟩ := FE.es
 refine ⟨FE.g, [.int .i64 M.kind, ofL M.name, mn, mk], tv, sv, rfl, ⟨?_, ⟨es, k1.keep fun r hr => FE.keep r (own2 r hr).2 (own2 r hr).1, ?_, fun i a b => ?_⟩, ⟨gs, l1, ?_, fun i a b => ?_⟩, fun r e k => (own2 r e).2 (FE.own r k)⟩⟩
 ·have := hMt.imp keepE
  rw [hM] at this ⊢
  rw [hnms] at this ⊢
  exact this
 ·rw [hnms] at k2; exact k2
 ·have := (k3 i a (by omega)).imp keepE
  simp only [hnms] at this
  exact this
 ·rw [hnms] at l2; exact l2
 ·have := SgC.imp (l3 i a (by omega)) fun r p e => ⟨show Own st tv sv r from ⟨hst r p.1.1, p.2, p.1.2⟩, rfl⟩
  simp only [hnms] at this
  exact this
end Go.Proofs.Ytjdphbjnoblnaaa
