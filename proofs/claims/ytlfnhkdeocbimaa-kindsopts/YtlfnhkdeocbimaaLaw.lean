/- 'KindsOpts': for every input the law returns true, and each argument reads as it read before. No condition. -/
import Derived.Test.YtlfnhkdeocbimaaBind
import Derived.ProofKit
import Derived.OpenShut
import Derived.HandedShaped
namespace Go.Proofs.Ytlfnhkdeocbimaa.law
open Eva Go.RowKit Go.ChangeShapes Go.WideShapes Go.ChangeAt Go.ChangeMaps
set_option linter.unusedVariables false
theorem own : ownKnob Try.prog.godebug = none := by kernel_rfl
theorem laidOut : laidOutB Try.prog = true := by kernel_rfl
theorem rawTy : RawTy Try.prog 25 3 22 23 := ⟨⟨_, _, _, _, Try.underlying25, ⟨rfl, rfl⟩, ⟨rfl, rfl⟩, ⟨rfl, rfl⟩, ⟨rfl, rfl⟩⟩, Try.underlying3, Try.underlying22, Try.underlying23, by kernel_rfl, by kernel_rfl, by kernel_rfl, by kernel_rfl⟩
theorem walk (w : World) (v0 : Value) (q0 : Rw) (o0 : OpnV (fun _ => .bool false) w v0 fun st u => ∃ e, u = .agg e ∧ RwC (fun _ => True) st e q0) (v1 : Value) (q1 : Rw) (o1 : OpnV (fun _ => .bool false) w v1 fun st u => ∃ e, u = .agg e ∧ RwC (fun _ => True) st e q1) (hm : hasM 0 w) : Calls Try.prog 4 #[v0, v1] w fun e w' => e = .returned (.bool true) ∧ Below w.heap.size w w' := by
  obtain ⟨B0, u0, k0, j0⟩ := o0 [] (RowsOK.nil _ _)
  obtain ⟨B1, u1, k1, j1⟩ := o1 ([] ++ B0) k0
  have p1 : (([] ++ B0) ++ B1) <+: (([] ++ B0) ++ B1) := List.prefix_refl _
  have p0 : ([] ++ B0) <+: (([] ++ B0) ++ B1) := (List.prefix_append _ _).trans p1
  obtain ⟨f0, e0, rfl, g0⟩ := j0 _ p0
  obtain ⟨f1, e1, rfl, g1⟩ := j1 _ p1
  exact does_callsA (ρ := (fun _ => .bool false)) (tabD_B (fun _ => rfl) hm) k1 (law4 (rosA (([] ++ B0) ++ B1)) (rosR_wf _) e0 q0 g0 e1 q1 g1) (xs := [v0, v1]) ⟨_, _, rfl, f0, ⟨_, _, rfl, f1, rfl⟩⟩
set_option maxRecDepth 100000 in
theorem lifted (os : Os) (started : os.Started) (H : Type) (enc : TypeId × Value → H) :
    ReturnsInHanded {} Try.checked os 4 .any (Rows.kindsOptsSpec.pre6 enc Try.prog Try.f4 Rows.kindsOptsRow.domain false) (Rows.kindsOptsSpec.post enc Try.prog Try.f4 false true false false) := by
  refine returnsInHanded_of_change_shaped (C := Try.checked) own started (by kernel_rfl) Try.func4
    (ChangeSpec.witness6 (enc := enc) (C := Try.checked) false ⟨#[], #[.agg #[.int .i64 0, .int .i64 0, .slice none 0 0, .slice none 0 0], .agg #[.int .i64 0, .int .i64 0, .slice none 0 0, .slice none 0 0]], []⟩ 8 (by kernel_rfl) (by kernel_rfl) (by kernel_rfl) (by kernel_rfl)) ?_
  intro W base args ds gs before hval0 hW hcnd0 _ hsh _
  have hval : ∀ (j : Nat) t v, Try.f4.params[j]? = some t → args[j]? = some v → Value.okWide Try.prog W .any base t v := hval0
  have hW' := hW
  obtain ⟨p, q, hA0, hV, rfl, hfz, hnd⟩ := hW
  have hA : DataW.TrodAll enc Try.prog W 0 (fun _ => true) true Try.f4.params.toList args.toList ds p := hA0
  rw [Try.params4] at hA hval
  obtain ⟨v0, vs0, d0, ds0, p0, q0, hargs, rfl, rfl, h0, r0⟩ := trodAll_cons hA
  obtain ⟨v1, vs1, d1, ds1, p1, q1, rfl, rfl, rfl, h1, r1⟩ := trodAll_cons r0
  obtain ⟨rfl, rfl, rfl⟩ := trodAll_nil r1
  obtain rfl : args = #[v0, v1] := by cases args; simp_all
  obtain ⟨rfl, rfl⟩ := trodVars_none hV
  have hM0 : 0 < W.heap.size := (hasM_of (Try.laysM143.s1_3 W hsh)).1
  obtain ⟨z0, o0⟩ := raw_of (ρ := (fun _ => .bool false)) rawTy hM0 (hval 0 25 v0 rfl rfl) h0
  obtain ⟨z1, o1⟩ := raw_of (ρ := (fun _ => .bool false)) rawTy hM0 (hval 1 25 v1 rfl rfl) h1
  clear hA0 hval0
  simp only [List.append_nil, List.nil_append] at hW'
  refine (walk W v0 z0 o0 v1 z1 o1 (hasM_of (Try.laysM143.s1_3 W hsh))).mono fun e W' ⟨he, hg⟩ => ?_
  subst he
  have hlt : ∀ x ∈ (p0 ++ (p1) : List MemPlace), x.block < W.heap.size := fun x hx => hW'.lt x hx
  exact ⟨_, rfl, post_of_below (pa := p0 ++ (p1)) (pv := []) hW' hg (fun _ _ _ => (trodAll_cons_mk (shut_bool Try.underlying4 _) trodAll_mk0))
    (fun sp hsp => by
      have := (trodAll_cons_mk (WideElems.Trod_stays laidOut (by kernel_rfl) (of_decide_eq_true (by kernel_rfl)) h0 (fun x hx => hg.same (hlt x (List.mem_append.2 (.inl hx)))) (fun x hx => hsp x (List.mem_append.2 (.inl hx)))) (trodAll_cons_mk (WideElems.Trod_stays laidOut (by kernel_rfl) (of_decide_eq_true (by kernel_rfl)) h1 (fun x hx => hg.same (hlt x (List.mem_append.2 (.inr hx)))) (fun x hx => hsp x (List.mem_append.2 (.inr hx)))) trodAll_mk0))
      simp only [List.append_nil, List.nil_append] at this
      exact this)
    (fun _ _ => rfl) (by simp) (ok_one (by kernel_rfl) rfl (okWide_bool_mk Try.underlying4 _))⟩

theorem over : Rows.kindsOptsRow.holds Try.pinned (OpenSpec.ofChange Rows.kindsOptsSpec) :=
  OpenClaim.holds_of_wide 4 Try.f4 rfl rfl rfl rfl rfl rfl rfl ⟨rfl, rfl, rfl, rfl, rfl⟩ rfl rfl rfl rfl rfl (by kernel_rfl) Try.func4 (by kernel_rfl)
    (of_decide_eq_true (by kernel_rfl)) (by unfold Func.isWrapper; first | (rw [if_pos (by decide +kernel)]; kernel_rfl) | (rw [if_neg (by decide +kernel)]; exact ⟨rfl, rfl⟩))
    (fun os started H enc _ => lifted os started H enc)

theorem proved : Rows.KindsOptsSaid :=
  over
end Go.Proofs.Ytlfnhkdeocbimaa.law
