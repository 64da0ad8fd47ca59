/- A type opened. -/
import Derived.Test.YtjblgoefcobkgaaNode
namespace Go.Proofs.Ytjblgoefcobkgaa
open Eva Go.RowKit
set_option maxRecDepth 100000
set_option linter.unusedSimpArgs false
set_option linter.unusedVariables false
set_option maxHeartbeats 1000000 in
theorem openC {W F : Pt → Prop} {st : St} {rt : Pt} {tb : Tb} {id : Nat} (hw : WF st) (hT : Tab W F st rt tb) :
    Does (tabT tabD) n_cons_Table_Open [.ptr rt 0, .int .i64 id] st fun v st' => v = .tup [.int .i64 ((openS tb (tb.nodes.length + 1) id).1 : Nat), .bool (openS tb (tb.nodes.length + 1) id).2] ∧ st = st' := by
  refine does_fn at_cons_Table_Open rfl ?_
  obtain ⟨lv, ra, rn, rs, es, sv, hT⟩ := hT
  obtain ⟨t, c⟩ := hT.cell
  have hadd : IntKind.i64.wrap ((tb.nodes.length : Int) + 1) = ((tb.nodes.length + 1 : Nat) : Int) := by have := hT.few; rw [i64_in (by omega) (by omega)]; rfl
  simp only [cf_cons_Table_Open, XX, wC_seq, wC_seqj, splice_def, Nat.reduceEqDiff, ↓reduceIte, reduceCtorEq, Int.reduceToNat, Nat.reduceAdd, Nat.reduceMul, Int.reduceAdd, Int.reduceSub, Int.reduceLE, Int.reduceLT, Int.reduceNeg, Int.reduceMul, Int.reduceEq, Int.reduceNe, Nat.reduceLeDiff, Nat.reduceSub, c, hT.l.len, hadd]
  obtain ⟨K, hK⟩ : ∃ K : V → St → Prop, ∀ v S, K v S ↔ (v = .tup [.int .i64 ((openS tb (tb.nodes.length + 1) id).1 : Nat), .bool (openS tb (tb.nodes.length + 1) id).2] ∧ st = S) := ⟨_, fun _ _ => Iff.rfl⟩
  simp only [← hK]
  obtain ⟨L, hL⟩ : ∃ L : Nat → Fr → St → Prop, ∀ j fr S, L j fr S ↔ ∃ (i : Nat) (z : Int), S = st ∧ j + i = tb.nodes.length + 1 ∧ fr 0 = .ptr rt 0 ∧ fr 1 = .int .i64 z ∧ fr 13 = .int .i64 ((tb.nodes.length + 1 : Nat) : Int) ∧ fr 14 = .int .i64 i ∧ openS tb (tb.nodes.length + 1) id = if z < 0 then (0, false) else openS tb (tb.nodes.length + 1 - i) z.toNat := ⟨_, fun _ _ _ => Iff.rfl⟩
  have := hT.few
  refine wC_loop L (tb.nodes.length + 1) (by omega) ((hL _ _ _).2 ⟨0, id, rfl, by omega, by simp only [XX, wC_seq, wC_seqj, splice_def, Nat.reduceEqDiff, ↓reduceIte, reduceCtorEq, Int.reduceToNat, Nat.reduceAdd, Nat.reduceMul, Int.reduceAdd, Int.reduceSub, Int.reduceLE, Int.reduceLT, Int.reduceNeg, Int.reduceMul, Int.reduceEq, Int.reduceNe, Nat.reduceLeDiff, Nat.reduceSub], by simp only [XX, wC_seq, wC_seqj, splice_def, Nat.reduceEqDiff, ↓reduceIte, reduceCtorEq, Int.reduceToNat, Nat.reduceAdd, Nat.reduceMul, Int.reduceAdd, Int.reduceSub, Int.reduceLE, Int.reduceLT, Int.reduceNeg, Int.reduceMul, Int.reduceEq, Int.reduceNe, Nat.reduceLeDiff, Nat.reduceSub], by simp only [XX, wC_seq, wC_seqj, splice_def, Nat.reduceEqDiff, ↓reduceIte, reduceCtorEq, Int.reduceToNat, Nat.reduceAdd, Nat.reduceMul, Int.reduceAdd, Int.reduceSub, Int.reduceLE, Int.reduceLT, Int.reduceNeg, Int.reduceMul, Int.reduceEq, Int.reduceNe, Nat.reduceLeDiff, Nat.reduceSub], by simp only [XX, wC_seq, wC_seqj, splice_def, Nat.reduceEqDiff, ↓reduceIte, reduceCtorEq, Int.reduceToNat, Nat.reduceAdd, Nat.reduceMul, Int.reduceAdd, Int.reduceSub, Int.reduceLE, Int.reduceLT, Int.reduceNeg, Int.reduceMul, Int.reduceEq, Int.reduceNe, Nat.reduceLeDiff, Nat.reduceSub]; rfl, by rw [if_neg (by omega)]; rfl⟩) ?_
  intro j fr S hLj
  obtain ⟨i, z, rfl, hj, f0, f1, f13, f14, hrec⟩ := (hL _ _ _).1 hLj
  by_cases hi : i < tb.nodes.length + 1
  · have hi' : (i : Int) < ((tb.nodes.length + 1 : Nat) : Int) := by omega
    by_cases z0 : z < 0
    · simp only [XX, wC_seq, wC_seqj, splice_def, Nat.reduceEqDiff, ↓reduceIte, reduceCtorEq, Int.reduceToNat, Nat.reduceAdd, Nat.reduceMul, Int.reduceAdd, Int.reduceSub, Int.reduceLE, Int.reduceLT, Int.reduceNeg, Int.reduceMul, Int.reduceEq, Int.reduceNe, Nat.reduceLeDiff, Nat.reduceSub, f0, f1, f13, f14, hi', z0]
      rw [hK, hrec, if_pos z0]; exact ⟨rfl, rfl⟩
    obtain ⟨a, rfl⟩ : ∃ a : Nat, z = a := ⟨z.toNat, by omega⟩
    rw [if_neg (by omega), show tb.nodes.length + 1 - i = (tb.nodes.length - i) + 1 by omega] at hrec
    simp only [Int.toNat_natCast] at hrec
    by_cases z1 : tb.nodes.length ≤ a
    · have z1' : (tb.nodes.length : Int) ≤ (a : Int) := by omega
      rw [openS_none z1] at hrec
      simp only [XX, wC_seq, wC_seqj, splice_def, Nat.reduceEqDiff, ↓reduceIte, reduceCtorEq, Int.reduceToNat, Nat.reduceAdd, Nat.reduceMul, Int.reduceAdd, Int.reduceSub, Int.reduceLE, Int.reduceLT, Int.reduceNeg, Int.reduceMul, Int.reduceEq, Int.reduceNe, Nat.reduceLeDiff, Nat.reduceSub, f0, f1, f13, f14, hi', z0, c, hT.l.len, z1']
      rw [hK, hrec]; exact ⟨rfl, rfl⟩
    have z1' : ¬ (tb.nodes.length : Int) ≤ (a : Int) := by omega
    have ha : a < tb.nodes.length := by omega
    have hie : a < es.length := by rw [hT.len]; exact ha
    obtain ⟨q, qo, a1, a2, a3, a4, a5, a6⟩ := hT.elem hie
    have hnd := hT.nd a hie ha
    have E0 := a6 0
    have E1 := a6 1
    obtain ⟨E, hE⟩ : ∃ E, E = es[a] := ⟨_, rfl⟩
    simp only [← hE] at hnd E0 E1
    obtain ⟨nv, kv, rfl, h1, h2⟩ := hnd
    have E0 := E0 (by simp)
    have E1 := E1 (by simp)
    simp only [List.getElem_cons_zero, List.getElem_cons_succ, Nat.add_zero] at E0 E1
    by_cases k9 : tb.nodes[a].kind = 9
    · have k9' : (tb.nodes[a].kind = 9) = True := eq_true k9
      have hlk := lookup_at (e := .one .s) hT.named (.int .i64 0) true tb.nodes[a].name (str_heq _ _) rfl
      rw [at_find] at hlk
      have hadd1 : IntKind.i64.wrap ((i : Int) + 1) = ((i + 1 : Nat) : Int) := by rw [i64_in (by omega) (by omega)]; rfl
      have hdef : defI tb tb.nodes[a].name = (tb.named.find? fun p => tb.nodes[a].name = p.1).map (·.2) := rfl
      rw [← hdef] at hlk
      cases hd : defI tb tb.nodes[a].name with
      | none =>
        rw [openS_nodef ha k9 hd] at hrec
        rw [hd] at hlk
        simp only [Option.map_none, ansL, if_true] at hlk
        simp only [XX, wC_seq, wC_seqj, splice_def, Nat.reduceEqDiff, ↓reduceIte, reduceCtorEq, Int.reduceToNat, Nat.reduceAdd, Nat.reduceMul, Int.reduceAdd, Int.reduceSub, Int.reduceLE, Int.reduceLT, Int.reduceNeg, Int.reduceMul, Int.reduceEq, Int.reduceNe, Nat.reduceLeDiff, Nat.reduceSub, f0, f1, f13, f14, hi', z0, c, hT.l.len, z1', a1, E0, E1, k9', hlk, hadd1]
        exact ⟨tb.nodes.length + 1 - (i + 1), by omega, (hL _ _ _).2 ⟨i + 1, -1, rfl, by omega, by simp only [XX, wC_seq, wC_seqj, splice_def, Nat.reduceEqDiff, ↓reduceIte, reduceCtorEq, Int.reduceToNat, Nat.reduceAdd, Nat.reduceMul, Int.reduceAdd, Int.reduceSub, Int.reduceLE, Int.reduceLT, Int.reduceNeg, Int.reduceMul, Int.reduceEq, Int.reduceNe, Nat.reduceLeDiff, Nat.reduceSub, f0], by simp only [XX, wC_seq, wC_seqj, splice_def, Nat.reduceEqDiff, ↓reduceIte, reduceCtorEq, Int.reduceToNat, Nat.reduceAdd, Nat.reduceMul, Int.reduceAdd, Int.reduceSub, Int.reduceLE, Int.reduceLT, Int.reduceNeg, Int.reduceMul, Int.reduceEq, Int.reduceNe, Nat.reduceLeDiff, Nat.reduceSub], by simp only [XX, wC_seq, wC_seqj, splice_def, Nat.reduceEqDiff, ↓reduceIte, reduceCtorEq, Int.reduceToNat, Nat.reduceAdd, Nat.reduceMul, Int.reduceAdd, Int.reduceSub, Int.reduceLE, Int.reduceLT, Int.reduceNeg, Int.reduceMul, Int.reduceEq, Int.reduceNe, Nat.reduceLeDiff, Nat.reduceSub, f13], by simp only [XX, wC_seq, wC_seqj, splice_def, Nat.reduceEqDiff, ↓reduceIte, reduceCtorEq, Int.reduceToNat, Nat.reduceAdd, Nat.reduceMul, Int.reduceAdd, Int.reduceSub, Int.reduceLE, Int.reduceLT, Int.reduceNeg, Int.reduceMul, Int.reduceEq, Int.reduceNe, Nat.reduceLeDiff, Nat.reduceSub], by rw [hrec, if_pos (by omega)]⟩⟩
      | some b =>
        rw [openS_def ha k9 hd] at hrec
        rw [hd] at hlk
        simp only [Option.map_some, ansL, if_true] at hlk
        simp only [XX, wC_seq, wC_seqj, splice_def, Nat.reduceEqDiff, ↓reduceIte, reduceCtorEq, Int.reduceToNat, Nat.reduceAdd, Nat.reduceMul, Int.reduceAdd, Int.reduceSub, Int.reduceLE, Int.reduceLT, Int.reduceNeg, Int.reduceMul, Int.reduceEq, Int.reduceNe, Nat.reduceLeDiff, Nat.reduceSub, f0, f1, f13, f14, hi', z0, c, hT.l.len, z1', a1, E0, E1, k9', hlk, hadd1]
        exact ⟨tb.nodes.length + 1 - (i + 1), by omega, (hL _ _ _).2 ⟨i + 1, b, rfl, by omega, by simp only [XX, wC_seq, wC_seqj, splice_def, Nat.reduceEqDiff, ↓reduceIte, reduceCtorEq, Int.reduceToNat, Nat.reduceAdd, Nat.reduceMul, Int.reduceAdd, Int.reduceSub, Int.reduceLE, Int.reduceLT, Int.reduceNeg, Int.reduceMul, Int.reduceEq, Int.reduceNe, Nat.reduceLeDiff, Nat.reduceSub, f0], by simp only [XX, wC_seq, wC_seqj, splice_def, Nat.reduceEqDiff, ↓reduceIte, reduceCtorEq, Int.reduceToNat, Nat.reduceAdd, Nat.reduceMul, Int.reduceAdd, Int.reduceSub, Int.reduceLE, Int.reduceLT, Int.reduceNeg, Int.reduceMul, Int.reduceEq, Int.reduceNe, Nat.reduceLeDiff, Nat.reduceSub], by simp only [XX, wC_seq, wC_seqj, splice_def, Nat.reduceEqDiff, ↓reduceIte, reduceCtorEq, Int.reduceToNat, Nat.reduceAdd, Nat.reduceMul, Int.reduceAdd, Int.reduceSub, Int.reduceLE, Int.reduceLT, Int.reduceNeg, Int.reduceMul, Int.reduceEq, Int.reduceNe, Nat.reduceLeDiff, Nat.reduceSub, f13], by simp only [XX, wC_seq, wC_seqj, splice_def, Nat.reduceEqDiff, ↓reduceIte, reduceCtorEq, Int.reduceToNat, Nat.reduceAdd, Nat.reduceMul, Int.reduceAdd, Int.reduceSub, Int.reduceLE, Int.reduceLT, Int.reduceNeg, Int.reduceMul, Int.reduceEq, Int.reduceNe, Nat.reduceLeDiff, Nat.reduceSub], by rw [hrec, if_neg (by omega)]; congr 1; omega⟩⟩
    · have k9' : (tb.nodes[a].kind = 9) = False := eq_false k9
      rw [openS_self ha k9] at hrec
      simp only [XX, wC_seq, wC_seqj, splice_def, Nat.reduceEqDiff, ↓reduceIte, reduceCtorEq, Int.reduceToNat, Nat.reduceAdd, Nat.reduceMul, Int.reduceAdd, Int.reduceSub, Int.reduceLE, Int.reduceLT, Int.reduceNeg, Int.reduceMul, Int.reduceEq, Int.reduceNe, Nat.reduceLeDiff, Nat.reduceSub, f0, f1, f13, f14, hi', z0, c, hT.l.len, z1', a1, E0, E1, k9']
      rw [hK, hrec]; exact ⟨rfl, rfl⟩
  · have hi' : ¬ (i : Int) < ((tb.nodes.length + 1 : Nat) : Int) := by omega
    have hie : i = tb.nodes.length + 1 := by omega
    simp only [XX, wC_seq, wC_seqj, splice_def, Nat.reduceEqDiff, ↓reduceIte, reduceCtorEq, Int.reduceToNat, Nat.reduceAdd, Nat.reduceMul, Int.reduceAdd, Int.reduceSub, Int.reduceLE, Int.reduceLT, Int.reduceNeg, Int.reduceMul, Int.reduceEq, Int.reduceNe, Nat.reduceLeDiff, Nat.reduceSub, f0, f1, f13, f14, hi']
    rw [hK, hrec, hie, Nat.sub_self]
    refine ⟨?_, rfl⟩
    split <;> rfl
end Go.Proofs.Ytjblgoefcobkgaa
