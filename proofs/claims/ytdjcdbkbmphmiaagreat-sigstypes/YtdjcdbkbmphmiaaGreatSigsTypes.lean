/- 'SigsTypes': for every input the law returns true, and each argument reads as it read before. No condition. -/
import Derived.Test.YtdjcdbkbmphmiaaGreatSigsTypesCases1
import Derived.Test.YtdjcdbkbmphmiaaGreatSigsTypesCases2
import Derived.WalkKit
import Derived.ProofKit
import Derived.OpenShut
import Derived.HandedShaped
namespace Go.Proofs.YtdjcdbkbmphmiaaGreat.law
open Eva Go.RowKit Go.ChangeShapes Go.WideShapes Go.ChangeAt
set_option linter.unusedVariables false
theorem own : ownKnob Tryz.prog.godebug = none := by kernel_rfl
theorem row_true (k : Nat) (h : k < 8) : (∀ k1, k1 < 2 → G k k1) := by
  by_cases h0 : k < 1
  · exact fromN_ok (G := fun k => (∀ k1, k1 < 2 → G k k1)) row_ok rows0 (by omega) (by omega)
  by_cases h1 : k < 2
  · exact fromN_ok (G := fun k => (∀ k1, k1 < 2 → G k k1)) row_ok rows1 (by omega) (by omega)
  by_cases h2 : k < 3
  · exact fromN_ok (G := fun k => (∀ k1, k1 < 2 → G k k1)) row_ok rows2 (by omega) (by omega)
  by_cases h3 : k < 4
  · exact fromN_ok (G := fun k => (∀ k1, k1 < 2 → G k k1)) row_ok rows3 (by omega) (by omega)
  by_cases h4 : k < 5
  · exact fromN_ok (G := fun k => (∀ k1, k1 < 2 → G k k1)) row_ok rows4 (by omega) (by omega)
  by_cases h5 : k < 6
  · exact fromN_ok (G := fun k => (∀ k1, k1 < 2 → G k k1)) row_ok rows5 (by omega) (by omega)
  by_cases h6 : k < 7
  · exact fromN_ok (G := fun k => (∀ k1, k1 < 2 → G k k1)) row_ok rows6 (by omega) (by omega)
  exact fromN_ok (G := fun k => (∀ k1, k1 < 2 → G k k1)) row_ok rows7 (by omega) (by omega)
theorem one_true (k0 : Nat) (k1 : Nat) (h0 : k0 < 8) (h1 : k1 < 2) : G k0 k1 := by
  have h := row_true k0 h0
  have h := h k1 h1
  exact h
theorem walk (a0 : Int) (a1 : Int) (w0 : (Lit.int .i64 a0).wf = true) (w1 : (Lit.int .i64 a1).wf = true) (w : World) (hm : hasM 0 w) : Calls Tryz.prog 5 #[.int .i64 a0, .int .i64 a1] w fun e w' => e = .returned (.bool true) ∧ Below w.heap.size w w' := by
  obtain ⟨k0, l0, e0⟩ := left_of a0 (n := 8) (by first | decide | omega)
  obtain ⟨k1, l1, e1⟩ := left_of a1 (n := 2) (by first | decide | omega)
  have hone := one_true k0 k1 l0 l1
  unfold G at hone
  let ρ : Nat → Value := fun i => match i with
    | 0 => .int .i64 a0
    | 1 => .int .i64 a1
    | _ => .bool false
  have hρ : ∀ i, (ρ i).oneCell' = true := fun i => by
    show Value.oneCell' (match i with
      | 0 => .int .i64 a0
      | 1 => .int .i64 a1
      | _ => .bool false) = true
    split <;> rfl
  have hh : HypOK ρ (hypOf 0 [8] k0) := hyp_of (i := 0) (M := 8) (a := a0) rfl w0 e0 (by decide)
  exact good_call (ρ := ρ) (tab_B hρ hm hh) hone (xs := [.int .i64 a0, .int .i64 a1]) ⟨_, _, rfl, rfl, ⟨_, _, rfl, ⟨a1, rfl, by decide, by decide, e1⟩, rfl⟩⟩
set_option maxRecDepth 100000 in
theorem lifted (os : Os) (started : os.Started) (H : Type) (enc : TypeId × Value → H) :
    ReturnsInHanded {} Tryz.checked os 5 .any (Rows.sigsTypesSpec.pre6 enc Tryz.prog Tryz.f5 Rows.sigsTypesRow.domain false) (Rows.sigsTypesSpec.post enc Tryz.prog Tryz.f5 false true false false) := by
  refine returnsInHanded_of_change_shaped (C := Tryz.checked) own started (by kernel_rfl) Tryz.func5
    (ChangeSpec.witness6 (enc := enc) (C := Tryz.checked) false ⟨#[], #[.int .i64 0, .int .i64 0], []⟩ 8 (by kernel_rfl) (by kernel_rfl) (by kernel_rfl) (by kernel_rfl)) ?_
  intro W base args ds gs before hval0 hW hcnd0 _ hsh _
  have hval : ∀ (j : Nat) t v, Tryz.f5.params[j]? = some t → args[j]? = some v → Value.okWide Tryz.prog W .any base t v := hval0
  have hW' := hW
  obtain ⟨p, q, hA0, hV, rfl, hfz, hnd⟩ := hW
  have hA : DataW.TrodAll enc Tryz.prog W 0 (fun _ => true) true Tryz.f5.params.toList args.toList ds p := hA0
  rw [Tryz.params5] at hA hval
  obtain ⟨v0, vs0, d0, ds0, p0, q0, hargs, rfl, rfl, h0, r0⟩ := trodAll_cons hA
  obtain ⟨v1, vs1, d1, ds1, p1, q1, rfl, rfl, rfl, h1, r1⟩ := trodAll_cons r0
  obtain ⟨rfl, rfl, rfl⟩ := trodAll_nil r1
  obtain rfl : args = #[v0, v1] := by cases args; simp_all
  obtain ⟨rfl, rfl⟩ := trodVars_none hV
  obtain ⟨a0, rfl, rfl, rfl, w0⟩ := open_int Tryz.underlying3 (hval 0 3 v0 rfl rfl) h0
  obtain ⟨a1, rfl, rfl, rfl, w1⟩ := open_int Tryz.underlying3 (hval 1 3 v1 rfl rfl) h1
  clear hA0 hval0
  simp only [List.append_nil] at hW'
  refine (walk a0 a1 w0 w1 W (hasM_of (Tryz.laysM143.s1_3 W hsh))).mono fun e W' ⟨he, hg⟩ => ?_
  subst he
  exact ⟨_, rfl, post_of_below (pa := []) (pv := []) hW' hg (fun _ _ _ => (trodAll_cons_mk (shut_bool Tryz.underlying4 _) trodAll_mk0)) (fun sp _ => (trodAll_cons_mk (shut_int Tryz.underlying3 w0) (trodAll_cons_mk (shut_int Tryz.underlying3 w1) trodAll_mk0))) (fun _ _ => rfl) rfl (ok_one (by kernel_rfl) rfl (okWide_bool_mk Tryz.underlying4 _))⟩

theorem over : Rows.sigsTypesRow.holds Tryz.pinned (OpenSpec.ofChange Rows.sigsTypesSpec) :=
  OpenClaim.holds_of_wide 5 Tryz.f5 rfl rfl rfl rfl rfl rfl rfl ⟨rfl, rfl, rfl, rfl, rfl⟩ rfl rfl rfl rfl rfl (by kernel_rfl) Tryz.func5 (by kernel_rfl)
    (of_decide_eq_true (by kernel_rfl)) (by unfold Func.isWrapper; first | (rw [if_pos (by decide +kernel)]; kernel_rfl) | (rw [if_neg (by decide +kernel)]; exact ⟨rfl, rfl⟩))
    (fun os started H enc _ => lifted os started H enc)

theorem proved : Rows.SigsTypesSaid :=
  over
end Go.Proofs.YtdjcdbkbmphmiaaGreat.law
