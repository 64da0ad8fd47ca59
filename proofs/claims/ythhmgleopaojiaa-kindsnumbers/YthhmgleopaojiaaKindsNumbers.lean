/- 'KindsNumbers': for every input the law returns true, and each argument reads as it read before. No condition. -/
import Derived.Test.YthhmgleopaojiaaKindsNumbersCases1
import Derived.Test.YthhmgleopaojiaaKindsNumbersCases2
import Derived.Test.YthhmgleopaojiaaKindsNumbersCases3
import Derived.Test.YthhmgleopaojiaaKindsNumbersCases4
import Derived.Test.YthhmgleopaojiaaKindsNumbersCases5
import Derived.Test.YthhmgleopaojiaaKindsNumbersCases6
import Derived.WalkKit
import Derived.ProofKit
import Derived.OpenShut
import Derived.HandedShaped
namespace Go.Proofs.Ythhmgleopaojiaa.law
open Eva Go.RowKit Go.ChangeShapes Go.WideShapes Go.ChangeAt
set_option linter.unusedVariables false
theorem own : ownKnob Try.prog.godebug = none := by kernel_rfl
theorem row_true (k : Nat) (h : k < 30) : row k = true := by
  by_cases h0 : k < 1
  · exact fromK_true rows0 (by omega) (by omega)
  by_cases h1 : k < 2
  · exact fromK_true rows1 (by omega) (by omega)
  by_cases h2 : k < 3
  · exact fromK_true rows2 (by omega) (by omega)
  by_cases h3 : k < 4
  · exact fromK_true rows3 (by omega) (by omega)
  by_cases h4 : k < 5
  · exact fromK_true rows4 (by omega) (by omega)
  by_cases h5 : k < 6
  · exact fromK_true rows5 (by omega) (by omega)
  by_cases h6 : k < 7
  · exact fromK_true rows6 (by omega) (by omega)
  by_cases h7 : k < 8
  · exact fromK_true rows7 (by omega) (by omega)
  by_cases h8 : k < 9
  · exact fromK_true rows8 (by omega) (by omega)
  by_cases h9 : k < 10
  · exact fromK_true rows9 (by omega) (by omega)
  by_cases h10 : k < 11
  · exact fromK_true rows10 (by omega) (by omega)
  by_cases h11 : k < 12
  · exact fromK_true rows11 (by omega) (by omega)
  by_cases h12 : k < 13
  · exact fromK_true rows12 (by omega) (by omega)
  by_cases h13 : k < 14
  · exact fromK_true rows13 (by omega) (by omega)
  by_cases h14 : k < 15
  · exact fromK_true rows14 (by omega) (by omega)
  by_cases h15 : k < 16
  · exact fromK_true rows15 (by omega) (by omega)
  by_cases h16 : k < 17
  · exact fromK_true rows16 (by omega) (by omega)
  by_cases h17 : k < 18
  · exact fromK_true rows17 (by omega) (by omega)
  by_cases h18 : k < 19
  · exact fromK_true rows18 (by omega) (by omega)
  by_cases h19 : k < 20
  · exact fromK_true rows19 (by omega) (by omega)
  by_cases h20 : k < 21
  · exact fromK_true rows20 (by omega) (by omega)
  by_cases h21 : k < 22
  · exact fromK_true rows21 (by omega) (by omega)
  by_cases h22 : k < 23
  · exact fromK_true rows22 (by omega) (by omega)
  by_cases h23 : k < 24
  · exact fromK_true rows23 (by omega) (by omega)
  by_cases h24 : k < 25
  · exact fromK_true rows24 (by omega) (by omega)
  by_cases h25 : k < 26
  · exact fromK_true rows25 (by omega) (by omega)
  by_cases h26 : k < 27
  · exact fromK_true rows26 (by omega) (by omega)
  by_cases h27 : k < 28
  · exact fromK_true rows27 (by omega) (by omega)
  by_cases h28 : k < 29
  · exact fromK_true rows28 (by omega) (by omega)
  exact fromK_true rows29 (by omega) (by omega)
theorem one_true (k0 : Nat) (k1 : Nat) (k2 : Nat) (h0 : k0 < 30) (h1 : k1 < 5) (h2 : k2 < 5) : one k0 k1 k2 = true := by
  have h := row_true k0 h0
  unfold row at h
  have h := allK_true h k1 h1
  have h := allK_true h k2 h2
  exact h
theorem walk (a0 : Int) (a1 : Int) (a2 : Int) (w0 : (Lit.int .i64 a0).wf = true) (w1 : (Lit.int .i64 a1).wf = true) (w2 : (Lit.int .i64 a2).wf = true) (w : World) (hm : hasM 0 w) : Calls Try.prog 5 #[.int .i64 a0, .int .i64 a1, .int .i64 a2] w fun e w' => e = .returned (.bool true) ∧ Below w.heap.size w w' := by
  obtain ⟨k0, l0, e0⟩ := left_of a0 (n := 30) (by first | decide | omega)
  obtain ⟨k1, l1, e1⟩ := left_of a1 (n := 5) (by first | decide | omega)
  obtain ⟨k2, l2, e2⟩ := left_of a2 (n := 5) (by first | decide | omega)
  have hone := one_true k0 k1 k2 l0 l1 l2
  unfold one at hone
  let ρ : Nat → Value := fun i => match i with
    | 0 => .int .i64 a0
    | 1 => .int .i64 a1
    | 2 => .int .i64 a2
    | _ => .bool false
  have hρ : ∀ i, (ρ i).oneCell' = true := fun i => by
    show Value.oneCell' (match i with
      | 0 => .int .i64 a0
      | 1 => .int .i64 a1
      | 2 => .int .i64 a2
      | _ => .bool false) = true
    split <;> rfl
  have hh : HypOK ρ (hypOf 0 [6, 5] k0 ++ hypOf 1 [5] k1 ++ hypOf 2 [5] k2) := hyp_app (hyp_app (hyp_of (i := 0) (M := 30) (a := a0) rfl w0 e0 (by decide)) (hyp_of (i := 1) (M := 5) (a := a1) rfl w1 e1 (by decide))) (hyp_of (i := 2) (M := 5) (a := a2) rfl w2 e2 (by decide))
  exact check_call (ρ := ρ) (tab_K _) (tab_B hρ hm hh) hone (xs := [.int .i64 a0, .int .i64 a1, .int .i64 a2]) ⟨_, _, rfl, rfl, ⟨_, _, rfl, rfl, ⟨_, _, rfl, rfl, rfl⟩⟩⟩
set_option maxRecDepth 100000 in
theorem lifted (os : Os) (started : os.Started) (H : Type) (enc : TypeId × Value → H) :
    ReturnsInHanded {} Try.checked os 5 .any (Rows.kindsNumbersSpec.pre6 enc Try.prog Try.f5 Rows.kindsNumbersRow.domain false) (Rows.kindsNumbersSpec.post enc Try.prog Try.f5 false true false false) := by
  refine returnsInHanded_of_change_shaped (C := Try.checked) own started (by kernel_rfl) Try.func5
    (ChangeSpec.witness6 (enc := enc) (C := Try.checked) false ⟨#[], #[.int .i64 0, .int .i64 0, .int .i64 0], []⟩ 8 (by kernel_rfl) (by kernel_rfl) (by kernel_rfl) (by kernel_rfl)) ?_
  intro W base args ds gs before hval0 hW hcnd0 _ hsh _
  have hval : ∀ (j : Nat) t v, Try.f5.params[j]? = some t → args[j]? = some v → Value.okWide Try.prog W .any base t v := hval0
  have hW' := hW
  obtain ⟨p, q, hA0, hV, rfl, hfz, hnd⟩ := hW
  have hA : DataW.TrodAll enc Try.prog W 0 (fun _ => true) true Try.f5.params.toList args.toList ds p := hA0
  rw [Try.params5] at hA hval
  obtain ⟨v0, vs0, d0, ds0, p0, q0, hargs, rfl, rfl, h0, r0⟩ := trodAll_cons hA
  obtain ⟨v1, vs1, d1, ds1, p1, q1, rfl, rfl, rfl, h1, r1⟩ := trodAll_cons r0
  obtain ⟨v2, vs2, d2, ds2, p2, q2, rfl, rfl, rfl, h2, r2⟩ := trodAll_cons r1
  obtain ⟨rfl, rfl, rfl⟩ := trodAll_nil r2
  obtain rfl : args = #[v0, v1, v2] := by cases args; simp_all
  obtain ⟨rfl, rfl⟩ := trodVars_none hV
  obtain ⟨a0, rfl, rfl, rfl, w0⟩ := open_int Try.underlying3 (hval 0 3 v0 rfl rfl) h0
  obtain ⟨a1, rfl, rfl, rfl, w1⟩ := open_int Try.underlying3 (hval 1 3 v1 rfl rfl) h1
  obtain ⟨a2, rfl, rfl, rfl, w2⟩ := open_int Try.underlying3 (hval 2 3 v2 rfl rfl) h2
  clear hA0 hval0
  simp only [List.append_nil] at hW'
  refine (walk a0 a1 a2 w0 w1 w2 W (hasM_of (Try.laysM143.s1_3 W hsh))).mono fun e W' ⟨he, hg⟩ => ?_
  subst he
  exact ⟨_, rfl, post_of_below (pa := []) (pv := []) hW' hg (fun _ _ _ => (trodAll_cons_mk (shut_bool Try.underlying4 _) trodAll_mk0)) (fun sp _ => (trodAll_cons_mk (shut_int Try.underlying3 w0) (trodAll_cons_mk (shut_int Try.underlying3 w1) (trodAll_cons_mk (shut_int Try.underlying3 w2) trodAll_mk0)))) (fun _ _ => rfl) rfl (ok_one (by kernel_rfl) rfl (okWide_bool_mk Try.underlying4 _))⟩

theorem over : Rows.kindsNumbersRow.holds Try.pinned (OpenSpec.ofChange Rows.kindsNumbersSpec) :=
  OpenClaim.holds_of_wide 5 Try.f5 rfl rfl rfl rfl rfl rfl rfl ⟨rfl, rfl, rfl, rfl, rfl⟩ rfl rfl rfl rfl rfl (by kernel_rfl) Try.func5 (by kernel_rfl)
    (of_decide_eq_true (by kernel_rfl)) (by unfold Func.isWrapper; first | (rw [if_pos (by decide +kernel)]; kernel_rfl) | (rw [if_neg (by decide +kernel)]; exact ⟨rfl, rfl⟩))
    (fun os started H enc _ => lifted os started H enc)

theorem proved : Rows.KindsNumbersSaid :=
  over
end Go.Proofs.Ythhmgleopaojiaa.law
