/- What is wrong with a type, and its kids. -/
import Derived.Test.YtajifckdgaoncaaShape
import Derived.Test.YtajifckdgaoncaaEvd9
namespace Go.Proofs.Ytajifckdgaoncaa
open Eva Go.RowKit
set_option maxRecDepth 100000
set_option linter.unusedSimpArgs false
set_option linter.unusedVariables false
def zty : V := .agg [.int .i64 0, ofL [], .snil, .snil]
set_option maxHeartbeats 4000000 in
theorem mayC : ∀ (m : Nat) (ty : Ty), tsz ty < m → ∀ (P : Pt → Prop) (st : St) (kr rm : Pt) (l : List (Str × Ty)) (e : List V) (deep met tk : Nat), WF st → NmMap P st rm l → TyC P st e ty → (∀ r, P r → r ≠ kr) → rm ≠ kr → st.row kr = .cells tk [.map rm, .int .i64 met] → deep ≤ 13 → met ≤ 400 →
    Does (tabT tabD) n_shape_looker_may [.ptr kr 0, .agg e, .int .i64 deep] st fun v st' => Ch (fun r => r = kr) st st' ∧ (∃ t, st'.row kr = .cells t [.map rm, .int .i64 ((mayS (hasN l) ty deep met).2 : Nat)]) ∧ v = .int .i64 (mayS (hasN l) ty deep met).1
  | 0, _, h => absurd h (by omega)
  | m + 1, .mk k nm ns ks, hm => by
    intro P st kr rm l e deep met tk hw hM hx hP hrm hkr hdeep hmet
    refine does_fnC tabM at_shape_looker_may rfl hw fun K fin => ?_
    obtain ⟨n, hn0⟩ : ∃ n, st.nx = up 0 n := ⟨_, up0 _⟩
    have hold := fun r (h : st.row r ≠ .none) => old_up hw hn0 h
    obtain ⟨nv, kv, es, rfl, x1, x2, x3, x4⟩ := hx.inv'
    have l1 := x1.len; have l2 := x2.len
    rw [strs_len] at l1
    rw [x3] at l2
    have hS := mayS_mk (hasN l) k nm ns ks deep met
    obtain ⟨zv, hz, hz2⟩ := hM.look zty nm
    have hz' : ∃ c, zv = .agg c ∧ c.length = 4 ∧ allSc c = true := by
      cases hd : defN l nm with
      | none => rw [hd] at hz2; exact ⟨_, hz2, rfl, rfl⟩
      | some t => rw [hd] at hz2; obtain ⟨c, a, b⟩ := hz2; exact ⟨c, a, b.four, b.ok⟩
    obtain ⟨zc, rfl, zc4, zok⟩ := hz'
    have zc4' : (4 : Nat) ≤ 4 := Nat.le_refl 4
    have hmetw : IntKind.i64.wrap ((met : Int) + 1) = ((met + 1 : Nat) : Int) := by rw [i64_in (by omega) (by omega)]; rfl
    have okr := fun k => nes (ne_up hw hn0 (ne_cells hkr) k)
    have hrm0 : st.row rm ≠ .none := by obtain ⟨_, h, _⟩ := hM; exact h.ne
    have orm := fun k => nes (ne_up hw hn0 hrm0 k)
    have hrk := nes hrm
    have hlk : ∀ S : St, S.row rm = st.row rm → lookupV S (.one .s) (.agg [.int .i64 0, ofL [], .snil, .snil]) true (.map rm) (ofL nm) = some (.tup [.agg zc, .bool (hasN l nm)], .no) := fun S hS => hz true S hS
    have hsp : splice [V.int .i64 0, ofL [], .snil, .snil] 0 zc = zc := splice_all (by rw [zc4]; rfl)
    have hsp2 : splice [.map rm, .int .i64 (met : Int)] 1 [.int .i64 ((met + 1 : Nat) : Int)] = [.map rm, .int .i64 ((met + 1 : Nat) : Int)] := rfl
    have g0 : Gr st (st.new fun t => .cells t [.int .i64 k, ofL nm, nv, kv]) := Gr.new hw (good_cells _)
    obtain ⟨S1, hS1⟩ : ∃ S1, S1 = (((st.new fun t => Row.cells t [V.int IntKind.i64 k, ofL nm, nv, kv]).wr kr tk fun u => Row.cells u [V.map rm, V.int IntKind.i64 ((met + 1 : Nat) : Int)]).new fun t => Row.cells t [V.int IntKind.i64 0, ofL [], V.snil, V.snil]).wr (up 1 n) ((st.new fun t => Row.cells t [V.int IntKind.i64 k, ofL nm, nv, kv]).wr kr tk fun u => Row.cells u [V.map rm, V.int IntKind.i64 ((met + 1 : Nat) : Int)]).t fun u => Row.cells u zc := ⟨_, rfl⟩
    have c1 : Ch (fun r => r = kr) st S1 := by
      rw [hS1]
      exact ((Ch.of (fun r => r = kr) g0).wr (ne_cells (g0.cells hkr)) (by rw [g0.cells hkr]; rfl) (.inl rfl) (good_cells _)).nw (p := up 1 n) (by simp only [nx_wr, nx_new, hn0, up_suc, Nat.zero_add]) (good_cells _) (good_cells _)
    have r1k : S1.row kr = .cells (st.t + 1) [.map rm, .int .i64 ((met + 1 : Nat) : Int)] := by rw [hS1]; simp only [XX, wC_seq, wC_seqj, splice_def, Nat.reduceEqDiff, ↓reduceIte, reduceCtorEq, Int.reduceToNat, Nat.reduceAdd, Nat.reduceMul, Int.reduceAdd, Int.reduceSub, Int.reduceLE, Int.reduceLT, Int.reduceNeg, Int.reduceMul, Int.reduceEq, Int.reduceNe, Nat.reduceLeDiff, Nat.reduceSub, hn0, okr]; rfl
    have r1b : S1.row (up 0 n) = .cells st.t [.int .i64 k, ofL nm, nv, kv] := by rw [hS1]; simp only [XX, wC_seq, wC_seqj, splice_def, Nat.reduceEqDiff, ↓reduceIte, reduceCtorEq, Int.reduceToNat, Nat.reduceAdd, Nat.reduceMul, Int.reduceAdd, Int.reduceSub, Int.reduceLE, Int.reduceLT, Int.reduceNeg, Int.reduceMul, Int.reduceEq, Int.reduceNe, Nat.reduceLeDiff, Nat.reduceSub, hn0, okr]
    have hx1 : TyC P S1 [.int .i64 k, ofL nm, nv, kv] (.mk k nm ns ks) := hx.imp fun r p e => ⟨p, c1.same r e (hP r p)⟩
    have done : ∀ (S : St) (e : Int), Ch (fun r => r = kr) st S → (∃ t, S.row kr = .cells t [.map rm, .int .i64 ((met + 1 : Nat) : Int)]) → mayS (hasN l) (.mk k nm ns ks) deep met = (e, met + 1) → K (.int .i64 e) S := fun S e h1 h2 h3 => by
      refine fin _ _ (fun r a b => h1.same r a b) fun _ => ?_
      rw [h3]; exact ⟨h2, rfl⟩
    simp only [cf_shape_looker_may, XX, splice_def, Nat.reduceEqDiff, ↓reduceIte, reduceCtorEq, Int.reduceToNat, Nat.reduceAdd, Nat.reduceMul, Int.reduceAdd, Int.reduceSub, Int.reduceLE, Int.reduceLT, Int.reduceNeg, Int.reduceMul, Int.reduceEq, Int.reduceNe, Nat.reduceLeDiff, Nat.reduceSub]
    rw [wC_seq]
    simp only [XX, splice_def, Nat.reduceEqDiff, ↓reduceIte, reduceCtorEq, Int.reduceToNat, Nat.reduceAdd, Nat.reduceMul, Int.reduceAdd, Int.reduceSub, Int.reduceLE, Int.reduceLT, Int.reduceNeg, Int.reduceMul, Int.reduceEq, Int.reduceNe, Nat.reduceLeDiff, Nat.reduceSub, hn0, x1.cells, x2.cells, x1.sc, x2.sc]
    rw [wC_seq]
    simp only [XX, splice_def, Nat.reduceEqDiff, ↓reduceIte, reduceCtorEq, Int.reduceToNat, Nat.reduceAdd, Nat.reduceMul, Int.reduceAdd, Int.reduceSub, Int.reduceLE, Int.reduceLT, Int.reduceNeg, Int.reduceMul, Int.reduceEq, Int.reduceNe, Nat.reduceLeDiff, Nat.reduceSub, hn0, okr, hkr, hmetw]
    rw [wC_seq]
    simp only [XX, splice_def, Nat.reduceEqDiff, ↓reduceIte, reduceCtorEq, Int.reduceToNat, Nat.reduceAdd, Nat.reduceMul, Int.reduceAdd, Int.reduceSub, Int.reduceLE, Int.reduceLT, Int.reduceNeg, Int.reduceMul, Int.reduceEq, Int.reduceNe, Nat.reduceLeDiff, Nat.reduceSub, hn0, okr, hkr, hlk, orm, hrk, zc4, zok, -splice_def, hsp, hsp2]
    simp only [← hS1, nx_wr, nx_new, hn0, up_suc, Nat.reduceAdd, Nat.zero_add]
    refine wC_scut (fun fr S => S1 = S ∧ fr 0 = .ptr kr 0 ∧ fr 2 = .int .i64 deep ∧ fr 4 = .ptr (up 0 n) 0 ∧ fr 8 = .bool (hasN l nm) ∧ fr 9 = .bool (decide (k = 7 ∨ k = 8))) ?_ ?_
    · by_cases c7 : k = 7
      · simp only [XX, wC_seq, wC_seqj, splice_def, Nat.reduceEqDiff, ↓reduceIte, reduceCtorEq, Int.reduceToNat, Nat.reduceAdd, Nat.reduceMul, Int.reduceAdd, Int.reduceSub, Int.reduceLE, Int.reduceLT, Int.reduceNeg, Int.reduceMul, Int.reduceEq, Int.reduceNe, Nat.reduceLeDiff, Nat.reduceSub, r1b, c7]
        simp
      · by_cases c8 : k = 8
        · simp only [XX, wC_seq, wC_seqj, splice_def, Nat.reduceEqDiff, ↓reduceIte, reduceCtorEq, Int.reduceToNat, Nat.reduceAdd, Nat.reduceMul, Int.reduceAdd, Int.reduceSub, Int.reduceLE, Int.reduceLT, Int.reduceNeg, Int.reduceMul, Int.reduceEq, Int.reduceNe, Nat.reduceLeDiff, Nat.reduceSub, r1b, c7, c8]
          simp
        · simp only [XX, wC_seq, wC_seqj, splice_def, Nat.reduceEqDiff, ↓reduceIte, reduceCtorEq, Int.reduceToNat, Nat.reduceAdd, Nat.reduceMul, Int.reduceAdd, Int.reduceSub, Int.reduceLE, Int.reduceLT, Int.reduceNeg, Int.reduceMul, Int.reduceEq, Int.reduceNe, Nat.reduceLeDiff, Nat.reduceSub, r1b, c7, c8]
          simp
    rintro fr _ ⟨rfl, f0, f2, f4, f8, f9⟩
    by_cases d1 : 400 < met + 1
    · have d1' : (400 : Int) < ((met + 1 : Nat) : Int) := by omega
      simp only [XX, wC_seq, wC_seqj, splice_def, Nat.reduceEqDiff, ↓reduceIte, reduceCtorEq, Int.reduceToNat, Nat.reduceAdd, Nat.reduceMul, Int.reduceAdd, Int.reduceSub, Int.reduceLE, Int.reduceLT, Int.reduceNeg, Int.reduceMul, Int.reduceEq, Int.reduceNe, Nat.reduceLeDiff, Nat.reduceSub, f0, r1k, d1']
      exact done _ _ c1 ⟨_, r1k⟩ (by rw [hS, if_pos d1])
    have d1' : ¬ (400 : Int) < ((met + 1 : Nat) : Int) := by omega
    rw [if_neg d1] at hS
    by_cases d2 : 12 < deep
    · have d2' : (12 : Int) < (deep : Int) := by omega
      simp only [XX, wC_seq, wC_seqj, splice_def, Nat.reduceEqDiff, ↓reduceIte, reduceCtorEq, Int.reduceToNat, Nat.reduceAdd, Nat.reduceMul, Int.reduceAdd, Int.reduceSub, Int.reduceLE, Int.reduceLT, Int.reduceNeg, Int.reduceMul, Int.reduceEq, Int.reduceNe, Nat.reduceLeDiff, Nat.reduceSub, f0, f2, r1k, d1', d2']
      exact done _ _ c1 ⟨_, r1k⟩ (by rw [hS, if_pos d2])
    have d2' : ¬ (12 : Int) < (deep : Int) := by omega
    rw [if_neg d2] at hS
    by_cases d3 : k < 1 ∨ 9 < k
    · rw [if_pos d3] at hS
      by_cases d3a : k < 1
      · simp only [XX, wC_seq, wC_seqj, splice_def, Nat.reduceEqDiff, ↓reduceIte, reduceCtorEq, Int.reduceToNat, Nat.reduceAdd, Nat.reduceMul, Int.reduceAdd, Int.reduceSub, Int.reduceLE, Int.reduceLT, Int.reduceNeg, Int.reduceMul, Int.reduceEq, Int.reduceNe, Nat.reduceLeDiff, Nat.reduceSub, f0, f2, f4, r1k, r1b, d1', d2', d3a]
        exact done _ _ c1 ⟨_, r1k⟩ hS
      · have d3b : 9 < k := by omega
        simp only [XX, wC_seq, wC_seqj, splice_def, Nat.reduceEqDiff, ↓reduceIte, reduceCtorEq, Int.reduceToNat, Nat.reduceAdd, Nat.reduceMul, Int.reduceAdd, Int.reduceSub, Int.reduceLE, Int.reduceLT, Int.reduceNeg, Int.reduceMul, Int.reduceEq, Int.reduceNe, Nat.reduceLeDiff, Nat.reduceSub, f0, f2, f4, r1k, r1b, d1', d2', d3a, d3b]
        exact done _ _ c1 ⟨_, r1k⟩ hS
    have d3a : ¬ k < 1 := by omega
    have d3b : ¬ 9 < k := by omega
    rw [if_neg d3] at hS
    obtain ⟨J, hJ⟩ : ∃ J : Fr → St → Prop, ∀ fr S, J fr S ↔ ((¬ (ks.length ≠ kidsS (.mk k nm ns ks) ∨ (nm ≠ [] ∧ k ≠ 9) ∨ (0 < ns.length ∧ ¬ (k = 7 ∨ k = 8))) ∧ ¬ (k = 9 ∧ hasN l nm = false)) ∧ Gr S1 S ∧ fr 0 = .ptr kr 0 ∧ fr 2 = .int .i64 deep ∧ fr 4 = .ptr (up 0 n) 0) := ⟨_, fun _ _ => Iff.rfl⟩
    refine wC_cut J ?_ ?_
    · simp only [XX, splice_def, Nat.reduceEqDiff, ↓reduceIte, reduceCtorEq, Int.reduceToNat, Nat.reduceAdd, Nat.reduceMul, Int.reduceAdd, Int.reduceSub, Int.reduceLE, Int.reduceLT, Int.reduceNeg, Int.reduceMul, Int.reduceEq, Int.reduceNe, Nat.reduceLeDiff, Nat.reduceSub]
      rw [wC_seq]
      simp only [XX, splice_def, Nat.reduceEqDiff, ↓reduceIte, reduceCtorEq, Int.reduceToNat, Nat.reduceAdd, Nat.reduceMul, Int.reduceAdd, Int.reduceSub, Int.reduceLE, Int.reduceLT, Int.reduceNeg, Int.reduceMul, Int.reduceEq, Int.reduceNe, Nat.reduceLeDiff, Nat.reduceSub, f0, f2, f4, r1k, r1b, d1', d2', d3a, d3b]
      rw [wC_seq]
      simp only [XX, splice_def, Nat.reduceEqDiff, ↓reduceIte, reduceCtorEq, Int.reduceToNat, Nat.reduceAdd, Nat.reduceMul, Int.reduceAdd, Int.reduceSub, Int.reduceLE, Int.reduceLT, Int.reduceNeg, Int.reduceMul, Int.reduceEq, Int.reduceNe, Nat.reduceLeDiff, Nat.reduceSub, f0, f2, f4, r1k, r1b, d1', d2', d3a, d3b]
      rw [wC_seq]
      simp only [XX, splice_def, Nat.reduceEqDiff, ↓reduceIte, reduceCtorEq, Int.reduceToNat, Nat.reduceAdd, Nat.reduceMul, Int.reduceAdd, Int.reduceSub, Int.reduceLE, Int.reduceLT, Int.reduceNeg, Int.reduceMul, Int.reduceEq, Int.reduceNe, Nat.reduceLeDiff, Nat.reduceSub, f0, f2, f4, r1k, r1b, d1', d2', d3a, d3b]
      obtain ⟨B, hB⟩ : ∃ B : Prop, B = (ks.length ≠ kidsS (.mk k nm ns ks) ∨ (nm ≠ [] ∧ k ≠ 9) ∨ (0 < ns.length ∧ ¬ (k = 7 ∨ k = 8))) := ⟨_, rfl⟩
      obtain ⟨I, hI⟩ : ∃ I : Fr → St → Prop, ∀ fr S, I fr S ↔ (Gr S1 S ∧ fr 0 = .ptr kr 0 ∧ fr 2 = .int .i64 deep ∧ fr 4 = .ptr (up 0 n) 0 ∧ fr 8 = .bool (hasN l nm) ∧ ∃ b : Bool, fr 57 = .bool b ∧ (b = true ↔ B)) := ⟨_, fun _ _ => Iff.rfl⟩
      refine wC_scut I ?_ ?_
      · simp only [XX, wC_seq, wC_seqj, splice_def, Nat.reduceEqDiff, ↓reduceIte, reduceCtorEq, Int.reduceToNat, Nat.reduceAdd, Nat.reduceMul, Int.reduceAdd, Int.reduceSub, Int.reduceLE, Int.reduceLT, Int.reduceNeg, Int.reduceMul, Int.reduceEq, Int.reduceNe, Nat.reduceLeDiff, Nat.reduceSub, f0, f2, f4, r1k, r1b, l2]
        refine wCall_marked (kidsC (wf_low c1.wf _) (hx1.low _)) ?_
        rintro _ S2 g2 rfl
        have b2 := g2.cells r1b
        by_cases e1 : (ks.length : Int) = (kidsS (.mk k nm ns ks) : Nat)
        · by_cases e2 : nm = []
          · by_cases e4 : (0 : Int) < ns.length
            · simp only [XX, wC_seq, wC_seqj, splice_def, Nat.reduceEqDiff, ↓reduceIte, reduceCtorEq, Int.reduceToNat, Nat.reduceAdd, Nat.reduceMul, Int.reduceAdd, Int.reduceSub, Int.reduceLE, Int.reduceLT, Int.reduceNeg, Int.reduceMul, Int.reduceEq, Int.reduceNe, Nat.reduceLeDiff, Nat.reduceSub, f0, f2, f4, f8, f9, b2, l1, e1, e2, e4]
              refine (hI _ _).2 ⟨g2, by simp only [XX, wC_seq, wC_seqj, splice_def, Nat.reduceEqDiff, ↓reduceIte, reduceCtorEq, Int.reduceToNat, Nat.reduceAdd, Nat.reduceMul, Int.reduceAdd, Int.reduceSub, Int.reduceLE, Int.reduceLT, Int.reduceNeg, Int.reduceMul, Int.reduceEq, Int.reduceNe, Nat.reduceLeDiff, Nat.reduceSub, f0], by simp only [XX, wC_seq, wC_seqj, splice_def, Nat.reduceEqDiff, ↓reduceIte, reduceCtorEq, Int.reduceToNat, Nat.reduceAdd, Nat.reduceMul, Int.reduceAdd, Int.reduceSub, Int.reduceLE, Int.reduceLT, Int.reduceNeg, Int.reduceMul, Int.reduceEq, Int.reduceNe, Nat.reduceLeDiff, Nat.reduceSub, f2], by simp only [XX, wC_seq, wC_seqj, splice_def, Nat.reduceEqDiff, ↓reduceIte, reduceCtorEq, Int.reduceToNat, Nat.reduceAdd, Nat.reduceMul, Int.reduceAdd, Int.reduceSub, Int.reduceLE, Int.reduceLT, Int.reduceNeg, Int.reduceMul, Int.reduceEq, Int.reduceNe, Nat.reduceLeDiff, Nat.reduceSub, f4], by simp only [XX, wC_seq, wC_seqj, splice_def, Nat.reduceEqDiff, ↓reduceIte, reduceCtorEq, Int.reduceToNat, Nat.reduceAdd, Nat.reduceMul, Int.reduceAdd, Int.reduceSub, Int.reduceLE, Int.reduceLT, Int.reduceNeg, Int.reduceMul, Int.reduceEq, Int.reduceNe, Nat.reduceLeDiff, Nat.reduceSub, f8], ?b1, by simp only [XX, wC_seq, wC_seqj, splice_def, Nat.reduceEqDiff, ↓reduceIte, reduceCtorEq, Int.reduceToNat, Nat.reduceAdd, Nat.reduceMul, Int.reduceAdd, Int.reduceSub, Int.reduceLE, Int.reduceLT, Int.reduceNeg, Int.reduceMul, Int.reduceEq, Int.reduceNe, Nat.reduceLeDiff, Nat.reduceSub]; rfl, ?_⟩
              rw [hB]; subst e2; simp; omega
            · simp only [XX, wC_seq, wC_seqj, splice_def, Nat.reduceEqDiff, ↓reduceIte, reduceCtorEq, Int.reduceToNat, Nat.reduceAdd, Nat.reduceMul, Int.reduceAdd, Int.reduceSub, Int.reduceLE, Int.reduceLT, Int.reduceNeg, Int.reduceMul, Int.reduceEq, Int.reduceNe, Nat.reduceLeDiff, Nat.reduceSub, f0, f2, f4, f8, f9, b2, l1, e1, e2, e4]
              refine (hI _ _).2 ⟨g2, by simp only [XX, wC_seq, wC_seqj, splice_def, Nat.reduceEqDiff, ↓reduceIte, reduceCtorEq, Int.reduceToNat, Nat.reduceAdd, Nat.reduceMul, Int.reduceAdd, Int.reduceSub, Int.reduceLE, Int.reduceLT, Int.reduceNeg, Int.reduceMul, Int.reduceEq, Int.reduceNe, Nat.reduceLeDiff, Nat.reduceSub, f0], by simp only [XX, wC_seq, wC_seqj, splice_def, Nat.reduceEqDiff, ↓reduceIte, reduceCtorEq, Int.reduceToNat, Nat.reduceAdd, Nat.reduceMul, Int.reduceAdd, Int.reduceSub, Int.reduceLE, Int.reduceLT, Int.reduceNeg, Int.reduceMul, Int.reduceEq, Int.reduceNe, Nat.reduceLeDiff, Nat.reduceSub, f2], by simp only [XX, wC_seq, wC_seqj, splice_def, Nat.reduceEqDiff, ↓reduceIte, reduceCtorEq, Int.reduceToNat, Nat.reduceAdd, Nat.reduceMul, Int.reduceAdd, Int.reduceSub, Int.reduceLE, Int.reduceLT, Int.reduceNeg, Int.reduceMul, Int.reduceEq, Int.reduceNe, Nat.reduceLeDiff, Nat.reduceSub, f4], by simp only [XX, wC_seq, wC_seqj, splice_def, Nat.reduceEqDiff, ↓reduceIte, reduceCtorEq, Int.reduceToNat, Nat.reduceAdd, Nat.reduceMul, Int.reduceAdd, Int.reduceSub, Int.reduceLE, Int.reduceLT, Int.reduceNeg, Int.reduceMul, Int.reduceEq, Int.reduceNe, Nat.reduceLeDiff, Nat.reduceSub, f8], ?b2, by simp only [XX, wC_seq, wC_seqj, splice_def, Nat.reduceEqDiff, ↓reduceIte, reduceCtorEq, Int.reduceToNat, Nat.reduceAdd, Nat.reduceMul, Int.reduceAdd, Int.reduceSub, Int.reduceLE, Int.reduceLT, Int.reduceNeg, Int.reduceMul, Int.reduceEq, Int.reduceNe, Nat.reduceLeDiff, Nat.reduceSub]; rfl, ?_⟩
              rw [hB]; subst e2; simp; omega
          · by_cases e3 : k = 9
            · by_cases e4 : (0 : Int) < ns.length
              · simp only [XX, wC_seq, wC_seqj, splice_def, Nat.reduceEqDiff, ↓reduceIte, reduceCtorEq, Int.reduceToNat, Nat.reduceAdd, Nat.reduceMul, Int.reduceAdd, Int.reduceSub, Int.reduceLE, Int.reduceLT, Int.reduceNeg, Int.reduceMul, Int.reduceEq, Int.reduceNe, Nat.reduceLeDiff, Nat.reduceSub, f0, f2, f4, f8, f9, b2, l1, e1, e2, e3, e4]
                refine (hI _ _).2 ⟨g2, by simp only [XX, wC_seq, wC_seqj, splice_def, Nat.reduceEqDiff, ↓reduceIte, reduceCtorEq, Int.reduceToNat, Nat.reduceAdd, Nat.reduceMul, Int.reduceAdd, Int.reduceSub, Int.reduceLE, Int.reduceLT, Int.reduceNeg, Int.reduceMul, Int.reduceEq, Int.reduceNe, Nat.reduceLeDiff, Nat.reduceSub, f0], by simp only [XX, wC_seq, wC_seqj, splice_def, Nat.reduceEqDiff, ↓reduceIte, reduceCtorEq, Int.reduceToNat, Nat.reduceAdd, Nat.reduceMul, Int.reduceAdd, Int.reduceSub, Int.reduceLE, Int.reduceLT, Int.reduceNeg, Int.reduceMul, Int.reduceEq, Int.reduceNe, Nat.reduceLeDiff, Nat.reduceSub, f2], by simp only [XX, wC_seq, wC_seqj, splice_def, Nat.reduceEqDiff, ↓reduceIte, reduceCtorEq, Int.reduceToNat, Nat.reduceAdd, Nat.reduceMul, Int.reduceAdd, Int.reduceSub, Int.reduceLE, Int.reduceLT, Int.reduceNeg, Int.reduceMul, Int.reduceEq, Int.reduceNe, Nat.reduceLeDiff, Nat.reduceSub, f4], by simp only [XX, wC_seq, wC_seqj, splice_def, Nat.reduceEqDiff, ↓reduceIte, reduceCtorEq, Int.reduceToNat, Nat.reduceAdd, Nat.reduceMul, Int.reduceAdd, Int.reduceSub, Int.reduceLE, Int.reduceLT, Int.reduceNeg, Int.reduceMul, Int.reduceEq, Int.reduceNe, Nat.reduceLeDiff, Nat.reduceSub, f8], ?b3, by simp only [XX, wC_seq, wC_seqj, splice_def, Nat.reduceEqDiff, ↓reduceIte, reduceCtorEq, Int.reduceToNat, Nat.reduceAdd, Nat.reduceMul, Int.reduceAdd, Int.reduceSub, Int.reduceLE, Int.reduceLT, Int.reduceNeg, Int.reduceMul, Int.reduceEq, Int.reduceNe, Nat.reduceLeDiff, Nat.reduceSub]; rfl, ?_⟩
                rw [hB]; simp; omega
              · simp only [XX, wC_seq, wC_seqj, splice_def, Nat.reduceEqDiff, ↓reduceIte, reduceCtorEq, Int.reduceToNat, Nat.reduceAdd, Nat.reduceMul, Int.reduceAdd, Int.reduceSub, Int.reduceLE, Int.reduceLT, Int.reduceNeg, Int.reduceMul, Int.reduceEq, Int.reduceNe, Nat.reduceLeDiff, Nat.reduceSub, f0, f2, f4, f8, f9, b2, l1, e1, e2, e3, e4]
                refine (hI _ _).2 ⟨g2, by simp only [XX, wC_seq, wC_seqj, splice_def, Nat.reduceEqDiff, ↓reduceIte, reduceCtorEq, Int.reduceToNat, Nat.reduceAdd, Nat.reduceMul, Int.reduceAdd, Int.reduceSub, Int.reduceLE, Int.reduceLT, Int.reduceNeg, Int.reduceMul, Int.reduceEq, Int.reduceNe, Nat.reduceLeDiff, Nat.reduceSub, f0], by simp only [XX, wC_seq, wC_seqj, splice_def, Nat.reduceEqDiff, ↓reduceIte, reduceCtorEq, Int.reduceToNat, Nat.reduceAdd, Nat.reduceMul, Int.reduceAdd, Int.reduceSub, Int.reduceLE, Int.reduceLT, Int.reduceNeg, Int.reduceMul, Int.reduceEq, Int.reduceNe, Nat.reduceLeDiff, Nat.reduceSub, f2], by simp only [XX, wC_seq, wC_seqj, splice_def, Nat.reduceEqDiff, ↓reduceIte, reduceCtorEq, Int.reduceToNat, Nat.reduceAdd, Nat.reduceMul, Int.reduceAdd, Int.reduceSub, Int.reduceLE, Int.reduceLT, Int.reduceNeg, Int.reduceMul, Int.reduceEq, Int.reduceNe, Nat.reduceLeDiff, Nat.reduceSub, f4], by simp only [XX, wC_seq, wC_seqj, splice_def, Nat.reduceEqDiff, ↓reduceIte, reduceCtorEq, Int.reduceToNat, Nat.reduceAdd, Nat.reduceMul, Int.reduceAdd, Int.reduceSub, Int.reduceLE, Int.reduceLT, Int.reduceNeg, Int.reduceMul, Int.reduceEq, Int.reduceNe, Nat.reduceLeDiff, Nat.reduceSub, f8], ?b4, by simp only [XX, wC_seq, wC_seqj, splice_def, Nat.reduceEqDiff, ↓reduceIte, reduceCtorEq, Int.reduceToNat, Nat.reduceAdd, Nat.reduceMul, Int.reduceAdd, Int.reduceSub, Int.reduceLE, Int.reduceLT, Int.reduceNeg, Int.reduceMul, Int.reduceEq, Int.reduceNe, Nat.reduceLeDiff, Nat.reduceSub]; rfl, ?_⟩
                rw [hB]; simp; omega
            · simp only [XX, wC_seq, wC_seqj, splice_def, Nat.reduceEqDiff, ↓reduceIte, reduceCtorEq, Int.reduceToNat, Nat.reduceAdd, Nat.reduceMul, Int.reduceAdd, Int.reduceSub, Int.reduceLE, Int.reduceLT, Int.reduceNeg, Int.reduceMul, Int.reduceEq, Int.reduceNe, Nat.reduceLeDiff, Nat.reduceSub, f0, f2, f4, f8, f9, b2, l1, e1, e2, e3]
              refine (hI _ _).2 ⟨g2, by simp only [XX, wC_seq, wC_seqj, splice_def, Nat.reduceEqDiff, ↓reduceIte, reduceCtorEq, Int.reduceToNat, Nat.reduceAdd, Nat.reduceMul, Int.reduceAdd, Int.reduceSub, Int.reduceLE, Int.reduceLT, Int.reduceNeg, Int.reduceMul, Int.reduceEq, Int.reduceNe, Nat.reduceLeDiff, Nat.reduceSub, f0], by simp only [XX, wC_seq, wC_seqj, splice_def, Nat.reduceEqDiff, ↓reduceIte, reduceCtorEq, Int.reduceToNat, Nat.reduceAdd, Nat.reduceMul, Int.reduceAdd, Int.reduceSub, Int.reduceLE, Int.reduceLT, Int.reduceNeg, Int.reduceMul, Int.reduceEq, Int.reduceNe, Nat.reduceLeDiff, Nat.reduceSub, f2], by simp only [XX, wC_seq, wC_seqj, splice_def, Nat.reduceEqDiff, ↓reduceIte, reduceCtorEq, Int.reduceToNat, Nat.reduceAdd, Nat.reduceMul, Int.reduceAdd, Int.reduceSub, Int.reduceLE, Int.reduceLT, Int.reduceNeg, Int.reduceMul, Int.reduceEq, Int.reduceNe, Nat.reduceLeDiff, Nat.reduceSub, f4], by simp only [XX, wC_seq, wC_seqj, splice_def, Nat.reduceEqDiff, ↓reduceIte, reduceCtorEq, Int.reduceToNat, Nat.reduceAdd, Nat.reduceMul, Int.reduceAdd, Int.reduceSub, Int.reduceLE, Int.reduceLT, Int.reduceNeg, Int.reduceMul, Int.reduceEq, Int.reduceNe, Nat.reduceLeDiff, Nat.reduceSub, f8], ?b5, by simp only [XX, wC_seq, wC_seqj, splice_def, Nat.reduceEqDiff, ↓reduceIte, reduceCtorEq, Int.reduceToNat, Nat.reduceAdd, Nat.reduceMul, Int.reduceAdd, Int.reduceSub, Int.reduceLE, Int.reduceLT, Int.reduceNeg, Int.reduceMul, Int.reduceEq, Int.reduceNe, Nat.reduceLeDiff, Nat.reduceSub]; rfl, ?_⟩
              rw [hB]; simp [e2, e3]
        · simp only [XX, wC_seq, wC_seqj, splice_def, Nat.reduceEqDiff, ↓reduceIte, reduceCtorEq, Int.reduceToNat, Nat.reduceAdd, Nat.reduceMul, Int.reduceAdd, Int.reduceSub, Int.reduceLE, Int.reduceLT, Int.reduceNeg, Int.reduceMul, Int.reduceEq, Int.reduceNe, Nat.reduceLeDiff, Nat.reduceSub, f0, f2, f4, f8, f9, b2, l1, e1]
          refine (hI _ _).2 ⟨g2, by simp only [XX, wC_seq, wC_seqj, splice_def, Nat.reduceEqDiff, ↓reduceIte, reduceCtorEq, Int.reduceToNat, Nat.reduceAdd, Nat.reduceMul, Int.reduceAdd, Int.reduceSub, Int.reduceLE, Int.reduceLT, Int.reduceNeg, Int.reduceMul, Int.reduceEq, Int.reduceNe, Nat.reduceLeDiff, Nat.reduceSub, f0], by simp only [XX, wC_seq, wC_seqj, splice_def, Nat.reduceEqDiff, ↓reduceIte, reduceCtorEq, Int.reduceToNat, Nat.reduceAdd, Nat.reduceMul, Int.reduceAdd, Int.reduceSub, Int.reduceLE, Int.reduceLT, Int.reduceNeg, Int.reduceMul, Int.reduceEq, Int.reduceNe, Nat.reduceLeDiff, Nat.reduceSub, f2], by simp only [XX, wC_seq, wC_seqj, splice_def, Nat.reduceEqDiff, ↓reduceIte, reduceCtorEq, Int.reduceToNat, Nat.reduceAdd, Nat.reduceMul, Int.reduceAdd, Int.reduceSub, Int.reduceLE, Int.reduceLT, Int.reduceNeg, Int.reduceMul, Int.reduceEq, Int.reduceNe, Nat.reduceLeDiff, Nat.reduceSub, f4], by simp only [XX, wC_seq, wC_seqj, splice_def, Nat.reduceEqDiff, ↓reduceIte, reduceCtorEq, Int.reduceToNat, Nat.reduceAdd, Nat.reduceMul, Int.reduceAdd, Int.reduceSub, Int.reduceLE, Int.reduceLT, Int.reduceNeg, Int.reduceMul, Int.reduceEq, Int.reduceNe, Nat.reduceLeDiff, Nat.reduceSub, f8], ?b6, by simp only [XX, wC_seq, wC_seqj, splice_def, Nat.reduceEqDiff, ↓reduceIte, reduceCtorEq, Int.reduceToNat, Nat.reduceAdd, Nat.reduceMul, Int.reduceAdd, Int.reduceSub, Int.reduceLE, Int.reduceLT, Int.reduceNeg, Int.reduceMul, Int.reduceEq, Int.reduceNe, Nat.reduceLeDiff, Nat.reduceSub]; rfl, ?_⟩
          rw [hB]; simp; omega
      intro fr S2 hIf
      obtain ⟨g2, f0, f2, f4, f8, b, f57, hb⟩ := (hI _ _).1 hIf
      rw [hB] at hb
      have b2 := g2.cells r1b
      have cS : Ch (fun r => r = kr) st S2 := c1.gr g2
      cases b with
      | true =>
        simp only [XX, wC_seq, wC_seqj, splice_def, Nat.reduceEqDiff, ↓reduceIte, reduceCtorEq, Int.reduceToNat, Nat.reduceAdd, Nat.reduceMul, Int.reduceAdd, Int.reduceSub, Int.reduceLE, Int.reduceLT, Int.reduceNeg, Int.reduceMul, Int.reduceEq, Int.reduceNe, Nat.reduceLeDiff, Nat.reduceSub, f57]
        exact done _ _ cS ⟨_, g2.cells r1k⟩ (by rw [hS, if_pos (hb.1 rfl)])
      | false =>
        have hb' : ¬ (ks.length ≠ kidsS (.mk k nm ns ks) ∨ (nm ≠ [] ∧ k ≠ 9) ∨ (0 < ns.length ∧ ¬ (k = 7 ∨ k = 8))) := fun h => by cases hb.2 h
        rw [if_neg hb'] at hS
        by_cases e9 : k = 9
        · have e9' : (k = 9) = True := eq_true e9
          cases hh : hasN l nm with
          | false =>
            rw [hh] at f8
            simp only [XX, wC_seq, wC_seqj, splice_def, Nat.reduceEqDiff, ↓reduceIte, reduceCtorEq, Int.reduceToNat, Nat.reduceAdd, Nat.reduceMul, Int.reduceAdd, Int.reduceSub, Int.reduceLE, Int.reduceLT, Int.reduceNeg, Int.reduceMul, Int.reduceEq, Int.reduceNe, Nat.reduceLeDiff, Nat.reduceSub, f57, f4, f8, b2, e9']
            exact done _ _ cS ⟨_, g2.cells r1k⟩ (by rw [hS, if_pos ⟨e9, hh⟩])
          | true =>
            rw [hh] at f8
            simp only [XX, wC_seq, wC_seqj, splice_def, Nat.reduceEqDiff, ↓reduceIte, reduceCtorEq, Int.reduceToNat, Nat.reduceAdd, Nat.reduceMul, Int.reduceAdd, Int.reduceSub, Int.reduceLE, Int.reduceLT, Int.reduceNeg, Int.reduceMul, Int.reduceEq, Int.reduceNe, Nat.reduceLeDiff, Nat.reduceSub, f57, f0, f2, f4, f8, b2, e9']
            exact (hJ _ _).2 ⟨⟨hb', fun h => by rw [hh] at h; cases h.2⟩, g2, by simp only [XX, wC_seq, wC_seqj, splice_def, Nat.reduceEqDiff, ↓reduceIte, reduceCtorEq, Int.reduceToNat, Nat.reduceAdd, Nat.reduceMul, Int.reduceAdd, Int.reduceSub, Int.reduceLE, Int.reduceLT, Int.reduceNeg, Int.reduceMul, Int.reduceEq, Int.reduceNe, Nat.reduceLeDiff, Nat.reduceSub, f0], by simp only [XX, wC_seq, wC_seqj, splice_def, Nat.reduceEqDiff, ↓reduceIte, reduceCtorEq, Int.reduceToNat, Nat.reduceAdd, Nat.reduceMul, Int.reduceAdd, Int.reduceSub, Int.reduceLE, Int.reduceLT, Int.reduceNeg, Int.reduceMul, Int.reduceEq, Int.reduceNe, Nat.reduceLeDiff, Nat.reduceSub, f2], by simp only [XX, wC_seq, wC_seqj, splice_def, Nat.reduceEqDiff, ↓reduceIte, reduceCtorEq, Int.reduceToNat, Nat.reduceAdd, Nat.reduceMul, Int.reduceAdd, Int.reduceSub, Int.reduceLE, Int.reduceLT, Int.reduceNeg, Int.reduceMul, Int.reduceEq, Int.reduceNe, Nat.reduceLeDiff, Nat.reduceSub, f4]⟩
        · have e9' : (k = 9) = False := eq_false e9
          simp only [XX, wC_seq, wC_seqj, splice_def, Nat.reduceEqDiff, ↓reduceIte, reduceCtorEq, Int.reduceToNat, Nat.reduceAdd, Nat.reduceMul, Int.reduceAdd, Int.reduceSub, Int.reduceLE, Int.reduceLT, Int.reduceNeg, Int.reduceMul, Int.reduceEq, Int.reduceNe, Nat.reduceLeDiff, Nat.reduceSub, f57, f0, f2, f4, f8, b2, e9']
          exact (hJ _ _).2 ⟨⟨hb', fun h => e9 h.1⟩, g2, by simp only [XX, wC_seq, wC_seqj, splice_def, Nat.reduceEqDiff, ↓reduceIte, reduceCtorEq, Int.reduceToNat, Nat.reduceAdd, Nat.reduceMul, Int.reduceAdd, Int.reduceSub, Int.reduceLE, Int.reduceLT, Int.reduceNeg, Int.reduceMul, Int.reduceEq, Int.reduceNe, Nat.reduceLeDiff, Nat.reduceSub, f0], by simp only [XX, wC_seq, wC_seqj, splice_def, Nat.reduceEqDiff, ↓reduceIte, reduceCtorEq, Int.reduceToNat, Nat.reduceAdd, Nat.reduceMul, Int.reduceAdd, Int.reduceSub, Int.reduceLE, Int.reduceLT, Int.reduceNeg, Int.reduceMul, Int.reduceEq, Int.reduceNe, Nat.reduceLeDiff, Nat.reduceSub, f2], by simp only [XX, wC_seq, wC_seqj, splice_def, Nat.reduceEqDiff, ↓reduceIte, reduceCtorEq, Int.reduceToNat, Nat.reduceAdd, Nat.reduceMul, Int.reduceAdd, Int.reduceSub, Int.reduceLE, Int.reduceLT, Int.reduceNeg, Int.reduceMul, Int.reduceEq, Int.reduceNe, Nat.reduceLeDiff, Nat.reduceSub, f4]⟩
    · intro fr S2 hJf
      obtain ⟨⟨hb1, hb2⟩, g2, f0, f2, f4⟩ := (hJ _ _).1 hJf
      rw [if_neg hb1, if_neg hb2] at hS
      have b2 := g2.cells r1b
      have cS : Ch (fun r => r = kr) st S2 := c1.gr g2
      simp only [XX, wC_seq, wC_seqj, splice_def, Nat.reduceEqDiff, ↓reduceIte, reduceCtorEq, Int.reduceToNat, Nat.reduceAdd, Nat.reduceMul, Int.reduceAdd, Int.reduceSub, Int.reduceLE, Int.reduceLT, Int.reduceNeg, Int.reduceMul, Int.reduceEq, Int.reduceNe, Nat.reduceLeDiff, Nat.reduceSub, f4, b2]
      refine wCall_plain (fieldsC g2.wf (hx1.gr g2)) ?_
      rintro _ S3 ⟨g3, rfl⟩
      by_cases ef : fieldsS (.mk k nm ns ks) = 0
      · have ef' : (fieldsS (.mk k nm ns ks) = 0) = True := eq_true ef
        simp only [XX, wC_seq, wC_seqj, splice_def, Nat.reduceEqDiff, ↓reduceIte, reduceCtorEq, Int.reduceToNat, Nat.reduceAdd, Nat.reduceMul, Int.reduceAdd, Int.reduceSub, Int.reduceLE, Int.reduceLT, Int.reduceNeg, Int.reduceMul, Int.reduceEq, Int.reduceNe, Nat.reduceLeDiff, Nat.reduceSub, ef', f0, f2, f4, g3.cells b2, l2]
        rw [if_neg (by simpa using ef)] at hS
        have G3 := cS.gr g3
        have r3k := g3.cells (g2.cells r1k)
        obtain ⟨L, hL⟩ : ∃ L : Nat → Fr → St → Prop, ∀ j fr S, L j fr S ↔ ∃ i mi ti, j + i = ks.length ∧ fr 0 = .ptr kr 0 ∧ fr 2 = .int .i64 deep ∧ fr 98 = kv ∧ fr 99 = .int .i64 ks.length ∧ fr 100 = .int .i64 (i : Nat) ∧ Ch (fun r => r = kr) st S ∧ S.row kr = .cells ti [.map rm, .int .i64 (mi : Nat)] ∧ mi ≤ 400 ∧ maysS (hasN l) ks (deep + 1) (met + 1) = maysS (hasN l) (ks.drop i) (deep + 1) mi := ⟨_, fun _ _ _ => Iff.rfl⟩
        have hns : ns.length ≤ 8 := by
          have h : (if 8 < ns.length then (3 : Int) else if namesS none ns ≠ 0 then namesS none ns else if k = 8 ∧ ns = [] then 12 else 0) = 0 := ef
          by_cases e : 8 < ns.length
          · rw [if_pos e] at h; cases h
          · omega
        have hks : ks.length < 1000000 := by
          have e1 : ks.length = kidsS (.mk k nm ns ks) := Classical.byContradiction fun e => hb1 (.inl e)
          have e2 : kidsS (.mk k nm ns ks) ≤ 8 := by
            show (if k = 4 ∨ k = 5 ∨ k = 6 then 1 else if k = 7 ∨ k = 8 then ns.length else 0) ≤ 8
            split
            · omega
            · split <;> omega
          omega
        refine wC_loop L ks.length hks ((hL _ _ _).2 ⟨0, met + 1, _, by omega, by simp only [XX, wC_seq, wC_seqj, splice_def, Nat.reduceEqDiff, ↓reduceIte, reduceCtorEq, Int.reduceToNat, Nat.reduceAdd, Nat.reduceMul, Int.reduceAdd, Int.reduceSub, Int.reduceLE, Int.reduceLT, Int.reduceNeg, Int.reduceMul, Int.reduceEq, Int.reduceNe, Nat.reduceLeDiff, Nat.reduceSub, f0], by simp only [XX, wC_seq, wC_seqj, splice_def, Nat.reduceEqDiff, ↓reduceIte, reduceCtorEq, Int.reduceToNat, Nat.reduceAdd, Nat.reduceMul, Int.reduceAdd, Int.reduceSub, Int.reduceLE, Int.reduceLT, Int.reduceNeg, Int.reduceMul, Int.reduceEq, Int.reduceNe, Nat.reduceLeDiff, Nat.reduceSub, f2], by simp only [XX, wC_seq, wC_seqj, splice_def, Nat.reduceEqDiff, ↓reduceIte, reduceCtorEq, Int.reduceToNat, Nat.reduceAdd, Nat.reduceMul, Int.reduceAdd, Int.reduceSub, Int.reduceLE, Int.reduceLT, Int.reduceNeg, Int.reduceMul, Int.reduceEq, Int.reduceNe, Nat.reduceLeDiff, Nat.reduceSub], by simp only [XX, wC_seq, wC_seqj, splice_def, Nat.reduceEqDiff, ↓reduceIte, reduceCtorEq, Int.reduceToNat, Nat.reduceAdd, Nat.reduceMul, Int.reduceAdd, Int.reduceSub, Int.reduceLE, Int.reduceLT, Int.reduceNeg, Int.reduceMul, Int.reduceEq, Int.reduceNe, Nat.reduceLeDiff, Nat.reduceSub], by simp only [XX, wC_seq, wC_seqj, splice_def, Nat.reduceEqDiff, ↓reduceIte, reduceCtorEq, Int.reduceToNat, Nat.reduceAdd, Nat.reduceMul, Int.reduceAdd, Int.reduceSub, Int.reduceLE, Int.reduceLT, Int.reduceNeg, Int.reduceMul, Int.reduceEq, Int.reduceNe, Nat.reduceLeDiff, Nat.reduceSub]; rfl, G3, r3k, by omega, rfl⟩) ?_
        intro j fr S hLj
        obtain ⟨i, mi, ti, hj, f0, f2, f98, f99, f100, hC, rk, hmi, hrec⟩ := (hL _ _ _).1 hLj
        have wS := hC.wf
        obtain ⟨nS, hnS⟩ : ∃ n, S.nx = up 0 n := ⟨_, up0 _⟩
        by_cases hi : i < ks.length
        · have hi' : (i : Int) < ks.length := by omega
          have hie : i < es.length := by omega
          have hSr : ∀ r, P r → st.row r ≠ .none → S.row r = st.row r := fun r p e => hC.same r e (hP r p)
          obtain ⟨q, qo, a1, a2, a3, a4, a5⟩ := (x2.imp fun r p e => ⟨p, hSr r p e⟩ : SlAt P S kv 4 es).elem hie
          have oq := fun k => nes (ne_up wS hnS a3 k)
          have hx4 := x4 i hie hi
          obtain ⟨E, hE⟩ : ∃ E, E = es[i] := ⟨_, rfl⟩
          obtain ⟨T, hT⟩ : ∃ T, T = ks[i] := ⟨_, rfl⟩
          rw [← hE] at a4 hx4
          rw [← hT] at hx4
          have hsz : tsz T < m := by rw [hT]; have := tsz_kid (k := k) (n := nm) (ns := ns) hi; omega
          have e4 := hx4.four
          have eok := hx4.ok
          have espl : splice [.int .i64 0, ofL [], .snil, .snil] 0 E = E := splice_all (by rw [e4]; rfl)
          have etk : E.take 4 = E := by rw [← e4, List.take_length]
          have edl : 4 ≤ E.length := by omega
          have hdw : IntKind.i64.wrap ((deep : Int) + 1) = ((deep + 1 : Nat) : Int) := by rw [i64_in (by omega) (by omega)]; rfl
          have hadd1 : IntKind.i64.wrap ((i : Int) + 1) = ((i + 1 : Nat) : Int) := by rw [i64_in (by omega) (by omega)]; rfl
          simp only [XX, wC_seq, wC_seqj, splice_def, Nat.reduceEqDiff, ↓reduceIte, reduceCtorEq, Int.reduceToNat, Nat.reduceAdd, Nat.reduceMul, Int.reduceAdd, Int.reduceSub, Int.reduceLE, Int.reduceLT, Int.reduceNeg, Int.reduceMul, Int.reduceEq, Int.reduceNe, Nat.reduceLeDiff, Nat.reduceSub, f0, f2, f98, f99, f100, hi', a1, a4, hnS, oq, e4, eok, espl, etk, hdw, -splice_def]
          have gS : Gr S ((S.new fun t => .cells t [.int .i64 0, ofL [], .snil, .snil]).wr (up 0 nS) S.t fun u => .cells u E) := (Gr.refl wS).nw hnS (good_cells _) (good_cells _)
          refine wCall_plain (mayC m T hsz P _ kr rm l E (deep + 1) mi ti gS.wf (hM.imp (by rw [gS.same rm (by rw [hC.same rm hrm0 hrm]; exact hrm0), hC.same rm hrm0 hrm]) fun r p e => ⟨p, by rw [gS.same r (by rw [hSr r p e]; exact e), hSr r p e]⟩) ((hx4.imp fun r p e => ⟨p, hSr r p e⟩).gr gS) hP hrm (gS.cells rk) (by omega) hmi) ?_
          rintro _ S4 ⟨c4, ⟨t4, r4⟩, rfl⟩
          rw [List.drop_eq_getElem_cons hi, maysS_cons, ← hT] at hrec
          have hmet2 := mayS_met (hasN l) T (deep + 1) mi hmi
          have cS4 : Ch (fun r => r = kr) st S4 := (hC.gr gS).trans c4 fun r w => .inl w
          by_cases he : (mayS (hasN l) T (deep + 1) mi).1 = 0
          · rw [if_neg (by simpa using he)] at hrec
            have he' : ((mayS (hasN l) T (deep + 1) mi).1 = 0) = True := eq_true he
            simp only [XX, wC_seq, wC_seqj, splice_def, Nat.reduceEqDiff, ↓reduceIte, reduceCtorEq, Int.reduceToNat, Nat.reduceAdd, Nat.reduceMul, Int.reduceAdd, Int.reduceSub, Int.reduceLE, Int.reduceLT, Int.reduceNeg, Int.reduceMul, Int.reduceEq, Int.reduceNe, Nat.reduceLeDiff, Nat.reduceSub, he', f0, f2, f98, f99, f100, hadd1]
            exact ⟨ks.length - (i + 1), by omega, (hL _ _ _).2 ⟨i + 1, _, t4, by omega, by simp only [XX, wC_seq, wC_seqj, splice_def, Nat.reduceEqDiff, ↓reduceIte, reduceCtorEq, Int.reduceToNat, Nat.reduceAdd, Nat.reduceMul, Int.reduceAdd, Int.reduceSub, Int.reduceLE, Int.reduceLT, Int.reduceNeg, Int.reduceMul, Int.reduceEq, Int.reduceNe, Nat.reduceLeDiff, Nat.reduceSub, f0], by simp only [XX, wC_seq, wC_seqj, splice_def, Nat.reduceEqDiff, ↓reduceIte, reduceCtorEq, Int.reduceToNat, Nat.reduceAdd, Nat.reduceMul, Int.reduceAdd, Int.reduceSub, Int.reduceLE, Int.reduceLT, Int.reduceNeg, Int.reduceMul, Int.reduceEq, Int.reduceNe, Nat.reduceLeDiff, Nat.reduceSub, f2], by simp only [XX, wC_seq, wC_seqj, splice_def, Nat.reduceEqDiff, ↓reduceIte, reduceCtorEq, Int.reduceToNat, Nat.reduceAdd, Nat.reduceMul, Int.reduceAdd, Int.reduceSub, Int.reduceLE, Int.reduceLT, Int.reduceNeg, Int.reduceMul, Int.reduceEq, Int.reduceNe, Nat.reduceLeDiff, Nat.reduceSub, f98], by simp only [XX, wC_seq, wC_seqj, splice_def, Nat.reduceEqDiff, ↓reduceIte, reduceCtorEq, Int.reduceToNat, Nat.reduceAdd, Nat.reduceMul, Int.reduceAdd, Int.reduceSub, Int.reduceLE, Int.reduceLT, Int.reduceNeg, Int.reduceMul, Int.reduceEq, Int.reduceNe, Nat.reduceLeDiff, Nat.reduceSub, f99], by simp only [XX, wC_seq, wC_seqj, splice_def, Nat.reduceEqDiff, ↓reduceIte, reduceCtorEq, Int.reduceToNat, Nat.reduceAdd, Nat.reduceMul, Int.reduceAdd, Int.reduceSub, Int.reduceLE, Int.reduceLT, Int.reduceNeg, Int.reduceMul, Int.reduceEq, Int.reduceNe, Nat.reduceLeDiff, Nat.reduceSub], cS4, r4, hmet2.2 he, hrec⟩⟩
          · rw [if_pos (by simpa using he)] at hrec
            have he' : ((mayS (hasN l) T (deep + 1) mi).1 = 0) = False := eq_false he
            simp only [XX, wC_seq, wC_seqj, splice_def, Nat.reduceEqDiff, ↓reduceIte, reduceCtorEq, Int.reduceToNat, Nat.reduceAdd, Nat.reduceMul, Int.reduceAdd, Int.reduceSub, Int.reduceLE, Int.reduceLT, Int.reduceNeg, Int.reduceMul, Int.reduceEq, Int.reduceNe, Nat.reduceLeDiff, Nat.reduceSub, he']
            refine fin _ _ (fun r a b => cS4.same r a b) fun _ => ?_
            rw [hS, hrec]; exact ⟨⟨t4, r4⟩, rfl⟩
        · have hi' : ¬ (i : Int) < ks.length := by omega
          have hie : i = ks.length := by omega
          rw [hie, List.drop_length, maysS_nil] at hrec
          simp only [XX, wC_seq, wC_seqj, splice_def, Nat.reduceEqDiff, ↓reduceIte, reduceCtorEq, Int.reduceToNat, Nat.reduceAdd, Nat.reduceMul, Int.reduceAdd, Int.reduceSub, Int.reduceLE, Int.reduceLT, Int.reduceNeg, Int.reduceMul, Int.reduceEq, Int.reduceNe, Nat.reduceLeDiff, Nat.reduceSub, f0, f2, f98, f99, f100, hi']
          refine fin _ _ (fun r a b => hC.same r a b) fun _ => ?_
          rw [hS, hrec]; exact ⟨⟨ti, rk⟩, rfl⟩
      · have ef' : (fieldsS (.mk k nm ns ks) = 0) = False := eq_false ef
        simp only [XX, wC_seq, wC_seqj, splice_def, Nat.reduceEqDiff, ↓reduceIte, reduceCtorEq, Int.reduceToNat, Nat.reduceAdd, Nat.reduceMul, Int.reduceAdd, Int.reduceSub, Int.reduceLE, Int.reduceLT, Int.reduceNeg, Int.reduceMul, Int.reduceEq, Int.reduceNe, Nat.reduceLeDiff, Nat.reduceSub, ef']
        exact done _ _ (cS.gr g3) ⟨_, g3.cells (g2.cells r1k)⟩ (by rw [hS, if_pos ef])
end Go.Proofs.Ytajifckdgaoncaa
