/- 'FlowNarrows': for every input the law returns true, and each argument reads as it read before. No condition. -/
import Derived.Test.YthnmjlcdepbiiaaGreatFlowNarrowsCases1
import Derived.Test.YthnmjlcdepbiiaaGreatFlowNarrowsCases2
import Derived.WalkKit
import Derived.ProofKit
import Derived.OpenShut
import Derived.HandedShaped
namespace Go.Proofs.YthnmjlcdepbiiaaGreat.law
open Eva Go.RowKit Go.ChangeShapes Go.WideShapes Go.ChangeAt
set_option linter.unusedVariables false
theorem own : ownKnob Tryz.prog.godebug = none := by kernel_rfl
theorem row_true (k : Nat) (h : k < 19) : G k := by
  by_cases h0 : k < 4
  · exact fromN_ok (G := fun k => G k) row_ok rows0 (by omega) (by omega)
  by_cases h1 : k < 8
  · exact fromN_ok (G := fun k => G k) row_ok rows4 (by omega) (by omega)
  by_cases h2 : k < 12
  · exact fromN_ok (G := fun k => G k) row_ok rows8 (by omega) (by omega)
  by_cases h3 : k < 16
  · exact fromN_ok (G := fun k => G k) row_ok rows12 (by omega) (by omega)
  exact fromN_ok (G := fun k => G k) row_ok rows16 (by omega) (by omega)
theorem one_true (k0 : Nat) (h0 : k0 < 19) : G k0 := by
  have h := row_true k0 h0
  exact h
theorem walk (a0 : Int) (w0 : (Lit.int .i64 a0).wf = true) (w : World) (hm : hasM 0 w) : Calls Tryz.prog 6 #[.int .i64 a0] w fun e w' => e = .returned (.bool true) ∧ Below w.heap.size w w' := by
  obtain ⟨k0, l0, e0⟩ := left_of a0 (n := 19) (by first | decide | omega)
  have hone := one_true k0 l0
  unfold G at hone
  let ρ : Nat → Value := fun i => match i with
    | 0 => .int .i64 a0
    | _ => .bool false
  have hρ : ∀ i, (ρ i).oneCell' = true := fun i => by
    show Value.oneCell' (match i with
      | 0 => .int .i64 a0
      | _ => .bool false) = true
    split <;> rfl
  have hh : HypOK ρ (hypOf 0 [19] k0) := hyp_of (i := 0) (M := 19) (a := a0) rfl w0 e0 (by decide)
  exact good_call (ρ := ρ) (tab_B hρ hm hh) hone (xs := [.int .i64 a0]) ⟨_, _, rfl, rfl, rfl⟩
set_option maxRecDepth 100000 in
theorem lifted (os : Os) (started : os.Started) (H : Type) (enc : TypeId × Value → H) :
    ReturnsInHanded {} Tryz.checked os 6 .any (Rows.flowNarrowsSpec.pre6 enc Tryz.prog Tryz.f6 Rows.flowNarrowsRow.domain false) (Rows.flowNarrowsSpec.post enc Tryz.prog Tryz.f6 false true false false) := by
  refine returnsInHanded_of_change_shaped (C := Tryz.checked) own started (by kernel_rfl) Tryz.func6
    (ChangeSpec.witness6 (enc := enc) (C := Tryz.checked) false ⟨#[], #[.int .i64 0], []⟩ 8 (by kernel_rfl) (by kernel_rfl) (by kernel_rfl) (by kernel_rfl)) ?_
  intro W base args ds gs before hval0 hW hcnd0 _ hsh _
  have hval : ∀ (j : Nat) t v, Tryz.f6.params[j]? = some t → args[j]? = some v → Value.okWide Tryz.prog W .any base t v := hval0
  have hW' := hW
  obtain ⟨p, q, hA0, hV, rfl, hfz, hnd⟩ := hW
  have hA : DataW.TrodAll enc Tryz.prog W 0 (fun _ => true) true Tryz.f6.params.toList args.toList ds p := hA0
  rw [Tryz.params6] at hA hval
  obtain ⟨v0, vs0, d0, ds0, p0, q0, hargs, rfl, rfl, h0, r0⟩ := trodAll_cons hA
  obtain ⟨rfl, rfl, rfl⟩ := trodAll_nil r0
  obtain rfl : args = #[v0] := by cases args; simp_all
  obtain ⟨rfl, rfl⟩ := trodVars_none hV
  obtain ⟨a0, rfl, rfl, rfl, w0⟩ := open_int Tryz.underlying3 (hval 0 3 v0 rfl rfl) h0
  clear hA0 hval0
  simp only [List.append_nil] at hW'
  refine (walk a0 w0 W (hasM_of (Tryz.laysM143.s1_3 W hsh))).mono fun e W' ⟨he, hg⟩ => ?_
  subst he
  exact ⟨_, rfl, post_of_below (pa := []) (pv := []) hW' hg (fun _ _ _ => (trodAll_cons_mk (shut_bool Tryz.underlying4 _) trodAll_mk0)) (fun sp _ => (trodAll_cons_mk (shut_int Tryz.underlying3 w0) trodAll_mk0)) (fun _ _ => rfl) rfl (ok_one (by kernel_rfl) rfl (okWide_bool_mk Tryz.underlying4 _))⟩

theorem over : Rows.flowNarrowsRow.holds Tryz.pinned (OpenSpec.ofChange Rows.flowNarrowsSpec) :=
  OpenClaim.holds_of_wide 6 Tryz.f6 rfl rfl rfl rfl rfl rfl rfl ⟨rfl, rfl, rfl, rfl, rfl⟩ rfl rfl rfl rfl rfl (by kernel_rfl) Tryz.func6 (by kernel_rfl)
    (of_decide_eq_true (by kernel_rfl)) (by unfold Func.isWrapper; first | (rw [if_pos (by decide +kernel)]; kernel_rfl) | (rw [if_neg (by decide +kernel)]; exact ⟨rfl, rfl⟩))
    (fun os started H enc _ => lifted os started H enc)

theorem proved : Rows.FlowNarrowsSaid :=
  over
end Go.Proofs.YthnmjlcdepbiiaaGreat.law
