/- The key of a node. -/
import Derived.Test.YtajifckdgaoncaaClone
namespace Go.Proofs.Ytajifckdgaoncaa
open Eva Go.RowKit
set_option maxRecDepth 100000
set_option linter.unusedSimpArgs false
set_option maxHeartbeats 1000000 in
theorem keyed {P : Pt → Prop} {st : St} {e : List V} {nd : Nd} (hw : WF st) (h : NdC P st e nd) (hf : nd.fit) :
    Does (tabT tabD) n_cons_keyed [.agg e] st fun v st' => Gr st st' ∧ v = .agg (keyL nd) := by
  refine Does.gr tabM hw (does_fn at_cons_keyed rfl ?_)
  obtain ⟨n, hn0⟩ : ∃ n, st.nx = up 0 n := ⟨_, up0 _⟩
  have hold := fun r (h : st.row r ≠ .none) => old_up hw hn0 h
  obtain ⟨nv, kv, rfl, h1, h2⟩ := h
  have l1 := h1.len; have l2 := h2.len
  rw [strs_len] at l1; rw [ints_len] at l2
  simp only [cf_cons_keyed, XX, wC_seq, wC_seqj, splice_def, Nat.reduceEqDiff, ↓reduceIte, reduceCtorEq, Int.reduceToNat, Nat.reduceAdd, Nat.reduceMul, Int.reduceAdd, Int.reduceSub, Int.reduceLE, Int.reduceLT, Int.reduceNeg, Int.reduceMul, Int.reduceEq, Int.reduceNe, Nat.reduceLeDiff, Nat.reduceSub, hn0, h1.cells, h2.cells, h1.sc, h2.sc, l1, l2, List.getElem?_cons_zero, List.getElem?_cons_succ]
  have hS := fun (r : Pt) (hr : st.row r ≠ .none) => hold r hr
  refine wW_copy (st0 := st) (t := ?t) (l := ?l) h1 ?hS (strs_ok _) ?hr ?hle ?hn ?k
  case hr => simp only [XX, wC_seq, wC_seqj, splice_def, Nat.reduceEqDiff, ↓reduceIte, reduceCtorEq, Int.reduceToNat, Nat.reduceAdd, Nat.reduceMul, Int.reduceAdd, Int.reduceSub, Int.reduceLE, Int.reduceLT, Int.reduceNeg, Int.reduceMul, Int.reduceEq, Int.reduceNe, Nat.reduceLeDiff, Nat.reduceSub, hn0]; rfl
  case hS => intro r hr; simp only [XX, wC_seq, wC_seqj, splice_def, Nat.reduceEqDiff, ↓reduceIte, reduceCtorEq, Int.reduceToNat, Nat.reduceAdd, Nat.reduceMul, Int.reduceAdd, Int.reduceSub, Int.reduceLE, Int.reduceLT, Int.reduceNeg, Int.reduceMul, Int.reduceEq, Int.reduceNe, Nat.reduceLeDiff, Nat.reduceSub, hn0, hold r hr]
  case hle => simp only [XX, wC_seq, wC_seqj, splice_def, Nat.reduceEqDiff, ↓reduceIte, reduceCtorEq, Int.reduceToNat, Nat.reduceAdd, Nat.reduceMul, Int.reduceAdd, Int.reduceSub, Int.reduceLE, Int.reduceLT, Int.reduceNeg, Int.reduceMul, Int.reduceEq, Int.reduceNe, Nat.reduceLeDiff, Nat.reduceSub]
  case hn => rw [strs_len]; exact hf.1
  intro S1 t1 r1 o1 n1
  have q0 : S1.row (up 0 n) = .cells _ _ := (o1 _ (by simp only [up_ne]; decide)).trans (by simp only [XX, wC_seq, wC_seqj, splice_def, Nat.reduceEqDiff, ↓reduceIte, reduceCtorEq, Int.reduceToNat, Nat.reduceAdd, Nat.reduceMul, Int.reduceAdd, Int.reduceSub, Int.reduceLE, Int.reduceLT, Int.reduceNeg, Int.reduceMul, Int.reduceEq, Int.reduceNe, Nat.reduceLeDiff, Nat.reduceSub, hn0]; rfl)
  have q1 : S1.row (up 1 n) = .cells _ _ := (o1 _ (by simp only [up_ne]; decide)).trans (by simp only [XX, wC_seq, wC_seqj, splice_def, Nat.reduceEqDiff, ↓reduceIte, reduceCtorEq, Int.reduceToNat, Nat.reduceAdd, Nat.reduceMul, Int.reduceAdd, Int.reduceSub, Int.reduceLE, Int.reduceLT, Int.reduceNeg, Int.reduceMul, Int.reduceEq, Int.reduceNe, Nat.reduceLeDiff, Nat.reduceSub, hn0]; rfl)
  have eo : ∀ r, st.row r ≠ .none → S1.row r = st.row r := fun r hr => (o1 r (ne_up hw hn0 hr 2)).trans (by simp only [XX, wC_seq, wC_seqj, splice_def, Nat.reduceEqDiff, ↓reduceIte, reduceCtorEq, Int.reduceToNat, Nat.reduceAdd, Nat.reduceMul, Int.reduceAdd, Int.reduceSub, Int.reduceLE, Int.reduceLT, Int.reduceNeg, Int.reduceMul, Int.reduceEq, Int.reduceNe, Nat.reduceLeDiff, Nat.reduceSub, hn0, hold r hr])
  have m1 : S1.nx = up 3 n := n1.trans (by simp only [XX, wC_seq, wC_seqj, splice_def, Nat.reduceEqDiff, ↓reduceIte, reduceCtorEq, Int.reduceToNat, Nat.reduceAdd, Nat.reduceMul, Int.reduceAdd, Int.reduceSub, Int.reduceLE, Int.reduceLT, Int.reduceNeg, Int.reduceMul, Int.reduceEq, Int.reduceNe, Nat.reduceLeDiff, Nat.reduceSub, hn0])
  clear o1 n1
  rw [strs_flat, key_1 _ _ _ _ _ _ _ (by simpa using hf.1)] at r1
  obtain ⟨L1, hL1⟩ : ∃ L, L = [V.int IntKind.i64 nd.kind, V.int IntKind.i64 ↑nd.names.length, V.int IntKind.i64 ↑nd.kids.length, ofL nd.name] ++ (pad (nd.names.map ofL) (ofL []) ++ List.replicate 8 (V.int IntKind.i64 0)) := ⟨_, rfl⟩
  rw [← hL1] at r1
  have h12 : 20 ≤ L1.length := by
    rw [hL1, List.length_append, List.length_append, pad_len (by simpa using hf.1), List.length_replicate]; exact Nat.le_refl _
  simp only [XX, wC_seq, wC_seqj, splice_def, Nat.reduceEqDiff, ↓reduceIte, reduceCtorEq, Int.reduceToNat, Nat.reduceAdd, Nat.reduceMul, Int.reduceAdd, Int.reduceSub, Int.reduceLE, Int.reduceLT, Int.reduceNeg, Int.reduceMul, Int.reduceEq, Int.reduceNe, Nat.reduceLeDiff, Nat.reduceSub, r1, q0, q1, h12]
  refine wW_copy (st0 := st) h2 eo (ints_ok _) r1 h12 (by rw [ints_len]; exact hf.2) ?_
  intro S2 t2 r2 o2 n2
  have q1 : S2.row (up 1 n) = .cells _ _ := (o2 _ (by simp only [up_ne]; decide)).trans q1
  have eo : ∀ r, st.row r ≠ .none → S2.row r = st.row r := fun r hr => (o2 r (ne_up hw hn0 hr 2)).trans (eo r hr)
  have m1 : S2.nx = up 3 n := n2.trans m1
  clear o2 n2
  rw [ints_flat, hL1, key_2 _ _ _ _ _ _ _ _ (by simpa using hf.1) (by simpa using hf.2)] at r2
  have r2 : S2.row (up 2 n) = .cells t2 (keyL nd) := r2
  have k1 := keyL_len hf
  have k2 : 20 ≤ (keyL nd).length := by rw [k1]; decide
  have k3 : (keyL nd).take 20 = keyL nd := by rw [← k1, List.take_length]
  simp only [XX, wC_seq, wC_seqj, splice_def, Nat.reduceEqDiff, ↓reduceIte, reduceCtorEq, Int.reduceToNat, Nat.reduceAdd, Nat.reduceMul, Int.reduceAdd, Int.reduceSub, Int.reduceLE, Int.reduceLT, Int.reduceNeg, Int.reduceMul, Int.reduceEq, Int.reduceNe, Nat.reduceLeDiff, Nat.reduceSub, r2, q1, k2, k3, k1, keyL_ok]
  exact fun r hr => by simp only [hold r hr, if_false]; exact eo r hr
end Go.Proofs.Ytajifckdgaoncaa
