/- What is wrong with types, with functions. -/
import Derived.Test.YtajifckdgaoncaaMay
namespace Go.Proofs.Ytajifckdgaoncaa
open Eva Go.RowKit
set_option maxRecDepth 100000
set_option linter.unusedSimpArgs false
set_option linter.unusedVariables false
structure LookAt (P : Pt → Prop) (st : St) (kr rm : Pt) (l : List (Str × Ty)) (met : Nat) : Prop where
  map : NmMap P st rm l
  cell : ∃ t, st.row kr = .cells t [.map rm, .int .i64 met]
  sep : ∀ r, P r → r ≠ kr
  ne : rm ≠ kr
theorem LookAt.mapne {P : Pt → Prop} {st : St} {kr rm : Pt} {l : List (Str × Ty)} {met : Nat} (h : LookAt P st kr rm l met) : st.row rm ≠ .none := by
  obtain ⟨_, h, _⟩ := h.map
  exact h.ne
theorem LookAt.krne {P : Pt → Prop} {st : St} {kr rm : Pt} {l : List (Str × Ty)} {met : Nat} (h : LookAt P st kr rm l met) : st.row kr ≠ .none := by
  obtain ⟨_, h⟩ := h.cell
  exact ne_cells h
theorem LookAt.ch {P : Pt → Prop} {st st' : St} {kr rm : Pt} {l : List (Str × Ty)} {met met' : Nat} (h : LookAt P st kr rm l met) (c : Ch (fun r => r = kr) st st') (k : ∃ t, st'.row kr = .cells t [.map rm, .int .i64 met']) : LookAt P st' kr rm l met' :=
  ⟨h.map.imp (c.same rm h.mapne h.ne) fun r p e => ⟨p, c.same r e (h.sep r p)⟩, k, h.sep, h.ne⟩
theorem LookAt.gr {P : Pt → Prop} {st st' : St} {kr rm : Pt} {l : List (Str × Ty)} {met : Nat} (h : LookAt P st kr rm l met) (g : Gr st st') : LookAt P st' kr rm l met :=
  h.ch (Ch.of _ g) (by obtain ⟨t, e⟩ := h.cell; exact ⟨t, g.cells e⟩)
theorem mayD {P : Pt → Prop} {st : St} {kr rm : Pt} {l : List (Str × Ty)} {met : Nat} {e : List V} {ty : Ty} {deep : Nat} (hw : WF st) (hL : LookAt P st kr rm l met) (hx : TyC P st e ty) (hd : deep ≤ 13) (hmet : met ≤ 400) :
    Does (tabT tabD) n_shape_looker_may [.ptr kr 0, .agg e, .int .i64 deep] st fun v st' => Ch (fun r => r = kr) st st' ∧ LookAt P st' kr rm l (mayS (hasN l) ty deep met).2 ∧ v = .int .i64 (mayS (hasN l) ty deep met).1 := by
  obtain ⟨t, ht⟩ := hL.cell
  exact (mayC _ ty (Nat.lt_succ_self _) P st kr rm l e deep met t hw hL.map hx hL.sep hL.ne ht hd hmet).mono fun v st' ⟨a, b, c⟩ => ⟨a, hL.ch a b, c⟩
end Go.Proofs.Ytajifckdgaoncaa
