/- Slices copied: what Clone answers. -/
import Derived.Test.YtajifckdgaoncaaMon
namespace Go.Proofs.Ytajifckdgaoncaa
open Eva Go.RowKit
set_option maxRecDepth 100000
set_option linter.unusedSimpArgs false
theorem clone_int {P Q : Pt → Prop} {st : St} {v : V} {es : List (List V)} (hw : WF st) (h : SlAt P st v 1 es) (hok : okC es) (hn : es.length < 2 ^ 20) (hQ : ∀ r, st.row r = .none → Q r) :
    Does (tabT tabD) n_slices_Clone_int [v] st fun v' st' => Gr st st' ∧ SlAt Q st' v' 1 es := by
  refine Does.gr tabM hw (does_fn at_slices_Clone_int rfl ?_)
  obtain ⟨n, hn0⟩ : ∃ n, st.nx = up 0 n := ⟨_, up0 _⟩
  have hold := fun r (h : st.row r ≠ .none) => old_up hw hn0 h
  rcases h.2 with ⟨rfl, rfl⟩ | ⟨r, o, hp, hv, l, hl, h1, h2⟩
  · have e1 : eqV (.one .l) false .snil .snil = some (.bool true, .no) := rfl
    simp only [cf_slices_Clone_int, XX, wC_seq, wC_seqj, splice_def, Nat.reduceEqDiff, ↓reduceIte, reduceCtorEq, Int.reduceToNat, Nat.reduceAdd, Nat.reduceMul, Int.reduceAdd, Int.reduceSub, Int.reduceLE, Int.reduceLT, Int.reduceNeg, Int.reduceMul, Int.reduceEq, Int.reduceNe, Nat.reduceLeDiff, Nat.reduceSub, e1]
    exact ⟨fun _ _ => trivial, SlAt.nil _ _ _⟩
  · have e1 : eqV (.one .l) false v .snil = some (.bool false, .no) := by rcases hv with rfl | ⟨c, _, rfl⟩ <;> rfl
    have h' : SlAt P (st.new fun t => .cells t []) v 1 es := h.imp fun r p e => ⟨p, row_new_old hw _ e⟩
    have r0 := row_new_nx st fun t => .cells t []
    have ha : appV (st.new fun t => .cells t []) 1 (.slx st.nx 0 0 1 0) v = if 0 < es.length then some (.sl (st.new fun t => .cells t []).nx 0 es.length 1, .new fun u => .cells u es.flatten) else some (.slx st.nx 0 0 1 0, .no) := by
      by_cases h0 : 0 < es.length
      · rw [if_pos h0]; exact app_empty h' hok hn h0 r0
      · rw [if_neg h0]
        have : es = [] := List.length_eq_zero_iff.1 (by omega)
        subst this
        exact app_empty0 h'
    rw [hn0] at ha
    by_cases h0 : 0 < es.length
    · simp only [h0] at ha
      simp only [cf_slices_Clone_int, XX, wC_seq, wC_seqj, splice_def, Nat.reduceEqDiff, ↓reduceIte, reduceCtorEq, Int.reduceToNat, Nat.reduceAdd, Nat.reduceMul, Int.reduceAdd, Int.reduceSub, Int.reduceLE, Int.reduceLT, Int.reduceNeg, Int.reduceMul, Int.reduceEq, Int.reduceNe, Nat.reduceLeDiff, Nat.reduceSub, e1, hn0, e_app, ha]
      refine ⟨fun r hr => by simp only [hold r hr, if_false], ?_⟩
      refine SlAt.fresh (t := (st.new fun t => .cells t []).t) (by simp only [XX, wC_seq, wC_seqj, splice_def, Nat.reduceEqDiff, ↓reduceIte, reduceCtorEq, Int.reduceToNat, Nat.reduceAdd, Nat.reduceMul, Int.reduceAdd, Int.reduceSub, Int.reduceLE, Int.reduceLT, Int.reduceNeg, Int.reduceMul, Int.reduceEq, Int.reduceNe, Nat.reduceLeDiff, Nat.reduceSub, hn0]) (hQ _ ?_) h.1
      exact nx0 hw hn0 1
    · simp only [h0] at ha
      simp only [cf_slices_Clone_int, XX, wC_seq, wC_seqj, splice_def, Nat.reduceEqDiff, ↓reduceIte, reduceCtorEq, Int.reduceToNat, Nat.reduceAdd, Nat.reduceMul, Int.reduceAdd, Int.reduceSub, Int.reduceLE, Int.reduceLT, Int.reduceNeg, Int.reduceMul, Int.reduceEq, Int.reduceNe, Nat.reduceLeDiff, Nat.reduceSub, e1, hn0, e_app, ha]
      refine ⟨fun r hr => by simp only [hold r hr, if_false], ?_⟩
      have : es = [] := List.length_eq_zero_iff.1 (by omega)
      subst this
      exact SlAt.freshx (t := st.t) (by simp only [XX, wC_seq, wC_seqj, splice_def, Nat.reduceEqDiff, ↓reduceIte, reduceCtorEq, Int.reduceToNat, Nat.reduceAdd, Nat.reduceMul, Int.reduceAdd, Int.reduceSub, Int.reduceLE, Int.reduceLT, Int.reduceNeg, Int.reduceMul, Int.reduceEq, Int.reduceNe, Nat.reduceLeDiff, Nat.reduceSub, hn0, List.flatten_nil]) (hQ _ (nx0 hw hn0 0)) h.1
theorem clone_string {P Q : Pt → Prop} {st : St} {v : V} {es : List (List V)} (hw : WF st) (h : SlAt P st v 1 es) (hok : okC es) (hn : es.length < 2 ^ 20) (hQ : ∀ r, st.row r = .none → Q r) :
    Does (tabT tabD) n_slices_Clone_string [v] st fun v' st' => Gr st st' ∧ SlAt Q st' v' 1 es := by
  refine Does.gr tabM hw (does_fn at_slices_Clone_string rfl ?_)
  obtain ⟨n, hn0⟩ : ∃ n, st.nx = up 0 n := ⟨_, up0 _⟩
  have hold := fun r (h : st.row r ≠ .none) => old_up hw hn0 h
  rcases h.2 with ⟨rfl, rfl⟩ | ⟨r, o, hp, hv, l, hl, h1, h2⟩
  · have e1 : eqV (.one .l) false .snil .snil = some (.bool true, .no) := rfl
    simp only [cf_slices_Clone_string, XX, wC_seq, wC_seqj, splice_def, Nat.reduceEqDiff, ↓reduceIte, reduceCtorEq, Int.reduceToNat, Nat.reduceAdd, Nat.reduceMul, Int.reduceAdd, Int.reduceSub, Int.reduceLE, Int.reduceLT, Int.reduceNeg, Int.reduceMul, Int.reduceEq, Int.reduceNe, Nat.reduceLeDiff, Nat.reduceSub, e1]
    exact ⟨fun _ _ => trivial, SlAt.nil _ _ _⟩
  · have e1 : eqV (.one .l) false v .snil = some (.bool false, .no) := by rcases hv with rfl | ⟨c, _, rfl⟩ <;> rfl
    have h' : SlAt P (st.new fun t => .cells t []) v 1 es := h.imp fun r p e => ⟨p, row_new_old hw _ e⟩
    have r0 := row_new_nx st fun t => .cells t []
    have ha : appV (st.new fun t => .cells t []) 1 (.slx st.nx 0 0 1 0) v = if 0 < es.length then some (.sl (st.new fun t => .cells t []).nx 0 es.length 1, .new fun u => .cells u es.flatten) else some (.slx st.nx 0 0 1 0, .no) := by
      by_cases h0 : 0 < es.length
      · rw [if_pos h0]; exact app_empty h' hok hn h0 r0
      · rw [if_neg h0]
        have : es = [] := List.length_eq_zero_iff.1 (by omega)
        subst this
        exact app_empty0 h'
    rw [hn0] at ha
    by_cases h0 : 0 < es.length
    · simp only [h0] at ha
      simp only [cf_slices_Clone_string, XX, wC_seq, wC_seqj, splice_def, Nat.reduceEqDiff, ↓reduceIte, reduceCtorEq, Int.reduceToNat, Nat.reduceAdd, Nat.reduceMul, Int.reduceAdd, Int.reduceSub, Int.reduceLE, Int.reduceLT, Int.reduceNeg, Int.reduceMul, Int.reduceEq, Int.reduceNe, Nat.reduceLeDiff, Nat.reduceSub, e1, hn0, e_app, ha]
      refine ⟨fun r hr => by simp only [hold r hr, if_false], ?_⟩
      refine SlAt.fresh (t := (st.new fun t => .cells t []).t) (by simp only [XX, wC_seq, wC_seqj, splice_def, Nat.reduceEqDiff, ↓reduceIte, reduceCtorEq, Int.reduceToNat, Nat.reduceAdd, Nat.reduceMul, Int.reduceAdd, Int.reduceSub, Int.reduceLE, Int.reduceLT, Int.reduceNeg, Int.reduceMul, Int.reduceEq, Int.reduceNe, Nat.reduceLeDiff, Nat.reduceSub, hn0]) (hQ _ ?_) h.1
      exact nx0 hw hn0 1
    · simp only [h0] at ha
      simp only [cf_slices_Clone_string, XX, wC_seq, wC_seqj, splice_def, Nat.reduceEqDiff, ↓reduceIte, reduceCtorEq, Int.reduceToNat, Nat.reduceAdd, Nat.reduceMul, Int.reduceAdd, Int.reduceSub, Int.reduceLE, Int.reduceLT, Int.reduceNeg, Int.reduceMul, Int.reduceEq, Int.reduceNe, Nat.reduceLeDiff, Nat.reduceSub, e1, hn0, e_app, ha]
      refine ⟨fun r hr => by simp only [hold r hr, if_false], ?_⟩
      have : es = [] := List.length_eq_zero_iff.1 (by omega)
      subst this
      exact SlAt.freshx (t := st.t) (by simp only [XX, wC_seq, wC_seqj, splice_def, Nat.reduceEqDiff, ↓reduceIte, reduceCtorEq, Int.reduceToNat, Nat.reduceAdd, Nat.reduceMul, Int.reduceAdd, Int.reduceSub, Int.reduceLE, Int.reduceLT, Int.reduceNeg, Int.reduceMul, Int.reduceEq, Int.reduceNe, Nat.reduceLeDiff, Nat.reduceSub, hn0, List.flatten_nil]) (hQ _ (nx0 hw hn0 0)) h.1
end Go.Proofs.Ytajifckdgaoncaa
