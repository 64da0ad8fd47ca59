/- 'ShapeChecks': for every input the law returns true, and each argument reads as it read before. No condition. -/
import Derived.Test.YtjdphbjnoblnaaaBind
import Derived.ProofKit
import Derived.OpenShut
import Derived.HandedShaped
namespace Go.Proofs.Ytjdphbjnoblnaaa.law
open Eva Go.RowKit Go.ChangeShapes Go.WideShapes Go.ChangeAt Go.ChangeMaps
set_option linter.unusedVariables false
theorem own : ownKnob Try.prog.godebug = none := by kernel_rfl
theorem laidOut : laidOutB Try.prog = true := by kernel_rfl
theorem tyTy : TyTy Try.prog 25 3 9 22 23 := ⟨⟨_, _, _, _, Try.underlying25, ⟨rfl, rfl⟩, ⟨rfl, rfl⟩, ⟨rfl, rfl⟩, ⟨rfl, rfl⟩⟩, Try.underlying3, Try.underlying9, Try.underlying22, Try.underlying23, by kernel_rfl, by kernel_rfl, by kernel_rfl, by kernel_rfl, by kernel_rfl⟩
theorem schTy : SchTy Try.prog 29 26 27 44 46 25 3 9 22 23 := ⟨tyTy, ⟨_, _, _, Try.underlying29, ⟨rfl, rfl⟩, ⟨rfl, rfl⟩, ⟨rfl, rfl⟩⟩, ⟨_, _, Try.underlying44, ⟨rfl, rfl⟩, ⟨rfl, rfl⟩⟩, ⟨_, _, _, Try.underlying46, ⟨rfl, rfl⟩, ⟨rfl, rfl⟩, ⟨rfl, rfl⟩⟩, Try.underlying26, Try.underlying27, by kernel_rfl, by kernel_rfl, by kernel_rfl, by kernel_rfl, by kernel_rfl⟩
theorem rawTy : RawTy Try.prog 33 3 30 31 := ⟨⟨_, _, _, _, Try.underlying33, ⟨rfl, rfl⟩, ⟨rfl, rfl⟩, ⟨rfl, rfl⟩, ⟨rfl, rfl⟩⟩, Try.underlying3, Try.underlying30, Try.underlying31, by kernel_rfl, by kernel_rfl, by kernel_rfl, by kernel_rfl⟩
theorem walk (w : World) (v0 : Value) (q0 : Sch) (o0 : OpnV (fun _ => .bool false) w v0 fun st u => ∃ e, u = .agg e ∧ SchC (fun _ => True) st e q0) (v1 : Value) (q1 : Rw) (o1 : OpnV (fun _ => .bool false) w v1 fun st u => ∃ e, u = .agg e ∧ RwC (fun _ => True) st e q1) (v2 : Value) (q2 : List Rw) (o2 : OpnV (fun _ => .bool false) w v2 fun st u => RwsAt (fun _ => True) st u q2) (v3 : Value) (q3 : List Rw) (o3 : OpnV (fun _ => .bool false) w v3 fun st u => RwsAt (fun _ => True) st u q3) (a4 : Int) (w4 : (Lit.int .i64 a4).wf = true) (a5 : Int) (w5 : (Lit.int .i64 a5).wf = true) (x6 : ByteArray) (h6 : x6.size ≤ maxLen) (v7 : Value) (q7 : Ty) (o7 : OpnV (fun _ => .bool false) w v7 fun st u => ∃ e, u = .agg e ∧ TyC (fun _ => True) st e q7) (hm : hasM 0 w) : Calls Try.prog 3 #[v0, v1, v2, v3, .int .i64 a4, .int .i64 a5, .string x6, v7] w fun e w' => e = .returned (.bool true) ∧ Below w.heap.size w w' := by
  obtain ⟨B0, u0, k0, j0⟩ := o0 [] (RowsOK.nil _ _)
  obtain ⟨B1, u1, k1, j1⟩ := o1 ([] ++ B0) k0
  obtain ⟨B2, u2, k2, j2⟩ := o2 (([] ++ B0) ++ B1) k1
  obtain ⟨B3, u3, k3, j3⟩ := o3 ((([] ++ B0) ++ B1) ++ B2) k2
  obtain ⟨B7, u7, k7, j7⟩ := o7 (((([] ++ B0) ++ B1) ++ B2) ++ B3) k3
  have p7 : ((((([] ++ B0) ++ B1) ++ B2) ++ B3) ++ B7) <+: ((((([] ++ B0) ++ B1) ++ B2) ++ B3) ++ B7) := List.prefix_refl _
  have p3 : (((([] ++ B0) ++ B1) ++ B2) ++ B3) <+: ((((([] ++ B0) ++ B1) ++ B2) ++ B3) ++ B7) := (List.prefix_append _ _).trans p7
  have p2 : ((([] ++ B0) ++ B1) ++ B2) <+: ((((([] ++ B0) ++ B1) ++ B2) ++ B3) ++ B7) := (List.prefix_append _ _).trans p3
  have p1 : (([] ++ B0) ++ B1) <+: ((((([] ++ B0) ++ B1) ++ B2) ++ B3) ++ B7) := (List.prefix_append _ _).trans p2
  have p0 : ([] ++ B0) <+: ((((([] ++ B0) ++ B1) ++ B2) ++ B3) ++ B7) := (List.prefix_append _ _).trans p1
  obtain ⟨f0, e0, rfl, g0⟩ := j0 _ p0
  obtain ⟨f1, e1, rfl, g1⟩ := j1 _ p1
  obtain ⟨f2, g2⟩ := j2 _ p2
  obtain ⟨f3, g3⟩ := j3 _ p3
  obtain ⟨f7, e7, rfl, g7⟩ := j7 _ p7
  have c4 : -9223372036854775808 ≤ a4 ∧ a4 < 9223372036854775808 := by
    have : -9223372036854775808 ≤ a4 ∧ a4 ≤ 9223372036854775807 := by simpa [Lit.wf, IntKind.min, IntKind.max, IntKind.bits, IntKind.signed] using w4
    omega
  have c5 : -9223372036854775808 ≤ a5 ∧ a5 < 9223372036854775808 := by
    have : -9223372036854775808 ≤ a5 ∧ a5 ≤ 9223372036854775807 := by simpa [Lit.wf, IntKind.min, IntKind.max, IntKind.bits, IntKind.signed] using w5
    omega
  have hs6 : x6.data.toList.length ≤ maxLen := by rw [Array.length_toList, ByteArray.size_data]; exact h6
  exact does_callsA (ρ := (fun _ => .bool false)) (tabD_B (fun _ => rfl) hm) k7 (law3 (rosA ((((([] ++ B0) ++ B1) ++ B2) ++ B3) ++ B7)) (rosR_wf _) e0 q0 g0 e1 q1 g1 u2 q2 g2 u3 q3 g3 a4 c4.1 c4.2 a5 c5.1 c5.2 x6.data.toList hs6 e7 q7 g7) (xs := [v0, v1, v2, v3, .int .i64 a4, .int .i64 a5, .string x6, v7]) ⟨_, _, rfl, f0, ⟨_, _, rfl, f1, ⟨_, _, rfl, f2, ⟨_, _, rfl, f3, ⟨_, _, rfl, rfl, ⟨_, _, rfl, rfl, ⟨_, _, rfl, ⟨x6, rfl, rfl, rfl⟩, ⟨_, _, rfl, f7, rfl⟩⟩⟩⟩⟩⟩⟩⟩
set_option maxRecDepth 100000 in
theorem lifted (os : Os) (started : os.Started) (H : Type) (enc : TypeId × Value → H) :
    ReturnsInHanded {} Try.checked os 3 .any (Rows.shapeChecksSpec.pre6 enc Try.prog Try.f3 Rows.shapeChecksRow.domain false) (Rows.shapeChecksSpec.post enc Try.prog Try.f3 false true false false) := by
  refine returnsInHanded_of_change_shaped (C := Try.checked) own started (by kernel_rfl) Try.func3
    (ChangeSpec.witness6 (enc := enc) (C := Try.checked) false ⟨#[], #[.agg #[.int .i64 0, .string ⟨#[]⟩, .slice none 0 0, .slice none 0 0, .slice none 0 0, .slice none 0 0], .agg #[.int .i64 0, .int .i64 0, .slice none 0 0, .slice none 0 0], .slice none 0 0, .slice none 0 0, .int .i64 0, .int .i64 0, .string ⟨#[]⟩, .agg #[.int .i64 0, .string ⟨#[]⟩, .slice none 0 0, .slice none 0 0]], []⟩ 8 (by kernel_rfl) (by kernel_rfl) (by kernel_rfl) (by kernel_rfl)) ?_
  intro W base args ds gs before hval0 hW hcnd0 _ hsh _
  have hval : ∀ (j : Nat) t v, Try.f3.params[j]? = some t → args[j]? = some v → Value.okWide Try.prog W .any base t v := hval0
  have hW' := hW
  obtain ⟨p, q, hA0, hV, rfl, hfz, hnd⟩ := hW
  have hA : DataW.TrodAll enc Try.prog W 0 (fun _ => true) true Try.f3.params.toList args.toList ds p := hA0
  rw [Try.params3] at hA hval
  obtain ⟨v0, vs0, d0, ds0, p0, q0, hargs, rfl, rfl, h0, r0⟩ := trodAll_cons hA
  obtain ⟨v1, vs1, d1, ds1, p1, q1, rfl, rfl, rfl, h1, r1⟩ := trodAll_cons r0
  obtain ⟨v2, vs2, d2, ds2, p2, q2, rfl, rfl, rfl, h2, r2⟩ := trodAll_cons r1
  obtain ⟨v3, vs3, d3, ds3, p3, q3, rfl, rfl, rfl, h3, r3⟩ := trodAll_cons r2
  obtain ⟨v4, vs4, d4, ds4, p4, q4, rfl, rfl, rfl, h4, r4⟩ := trodAll_cons r3
  obtain ⟨v5, vs5, d5, ds5, p5, q5, rfl, rfl, rfl, h5, r5⟩ := trodAll_cons r4
  obtain ⟨v6, vs6, d6, ds6, p6, q6, rfl, rfl, rfl, h6, r6⟩ := trodAll_cons r5
  obtain ⟨v7, vs7, d7, ds7, p7, q7, rfl, rfl, rfl, h7, r7⟩ := trodAll_cons r6
  obtain ⟨rfl, rfl, rfl⟩ := trodAll_nil r7
  obtain rfl : args = #[v0, v1, v2, v3, v4, v5, v6, v7] := by cases args; simp_all
  obtain ⟨rfl, rfl⟩ := trodVars_none hV
  have hM0 : 0 < W.heap.size := (hasM_of (Try.laysM143.s1_3 W hsh)).1
  obtain ⟨z0, o0⟩ := sch_of (ρ := (fun _ => .bool false)) schTy hM0 (hval 0 29 v0 rfl rfl) h0
  obtain ⟨z1, o1⟩ := raw_of (ρ := (fun _ => .bool false)) rawTy hM0 (hval 1 33 v1 rfl rfl) h1
  obtain ⟨z2, o2⟩ := raws_of (ρ := (fun _ => .bool false)) rawTy hM0 (hval 2 31 v2 rfl rfl) h2
  obtain ⟨z3, o3⟩ := raws_of (ρ := (fun _ => .bool false)) rawTy hM0 (hval 3 31 v3 rfl rfl) h3
  obtain ⟨a4, rfl, rfl, rfl, w4⟩ := open_int Try.underlying3 (hval 4 3 v4 rfl rfl) h4
  obtain ⟨a5, rfl, rfl, rfl, w5⟩ := open_int Try.underlying3 (hval 5 3 v5 rfl rfl) h5
  obtain ⟨x6, rfl, rfl, rfl, sx6⟩ := open_string Try.underlying9 (hval 6 9 v6 rfl rfl) h6
  obtain ⟨z7, o7⟩ := ty_of (ρ := (fun _ => .bool false)) tyTy hM0 (hval 7 25 v7 rfl rfl) h7
  clear hA0 hval0
  simp only [List.append_nil, List.nil_append] at hW'
  refine (walk W v0 z0 o0 v1 z1 o1 v2 z2 o2 v3 z3 o3 a4 w4 a5 w5 x6 sx6 v7 z7 o7 (hasM_of (Try.laysM143.s1_3 W hsh))).mono fun e W' ⟨he, hg⟩ => ?_
  subst he
  have hlt : ∀ x ∈ (p0 ++ (p1 ++ (p2 ++ (p3 ++ (p7)))) : List MemPlace), x.block < W.heap.size := fun x hx => hW'.lt x hx
  exact ⟨_, rfl, post_of_below (pa := p0 ++ (p1 ++ (p2 ++ (p3 ++ (p7))))) (pv := []) hW' hg (fun _ _ _ => (trodAll_cons_mk (shut_bool Try.underlying4 _) trodAll_mk0))
    (fun sp hsp => by
      have := (trodAll_cons_mk (WideElems.Trod_stays laidOut (by kernel_rfl) (of_decide_eq_true (by kernel_rfl)) h0 (fun x hx => hg.same (hlt x (List.mem_append.2 (.inl hx)))) (fun x hx => hsp x (List.mem_append.2 (.inl hx)))) (trodAll_cons_mk (WideElems.Trod_stays laidOut (by kernel_rfl) (of_decide_eq_true (by kernel_rfl)) h1 (fun x hx => hg.same (hlt x (List.mem_append.2 (.inr (List.mem_append.2 (.inl hx)))))) (fun x hx => hsp x (List.mem_append.2 (.inr (List.mem_append.2 (.inl hx)))))) (trodAll_cons_mk (WideElems.Trod_stays laidOut (by kernel_rfl) (of_decide_eq_true (by kernel_rfl)) h2 (fun x hx => hg.same (hlt x (List.mem_append.2 (.inr (List.mem_append.2 (.inr (List.mem_append.2 (.inl hx)))))))) (fun x hx => hsp x (List.mem_append.2 (.inr (List.mem_append.2 (.inr (List.mem_append.2 (.inl hx)))))))) (trodAll_cons_mk (WideElems.Trod_stays laidOut (by kernel_rfl) (of_decide_eq_true (by kernel_rfl)) h3 (fun x hx => hg.same (hlt x (List.mem_append.2 (.inr (List.mem_append.2 (.inr (List.mem_append.2 (.inr (List.mem_append.2 (.inl hx)))))))))) (fun x hx => hsp x (List.mem_append.2 (.inr (List.mem_append.2 (.inr (List.mem_append.2 (.inr (List.mem_append.2 (.inl hx)))))))))) (trodAll_cons_mk (shut_int Try.underlying3 w4) (trodAll_cons_mk (shut_int Try.underlying3 w5) (trodAll_cons_mk (shut_string Try.underlying9 sx6) (trodAll_cons_mk (WideElems.Trod_stays laidOut (by kernel_rfl) (of_decide_eq_true (by kernel_rfl)) h7 (fun x hx => hg.same (hlt x (List.mem_append.2 (.inr (List.mem_append.2 (.inr (List.mem_append.2 (.inr (List.mem_append.2 (.inr hx)))))))))) (fun x hx => hsp x (List.mem_append.2 (.inr (List.mem_append.2 (.inr (List.mem_append.2 (.inr (List.mem_append.2 (.inr hx)))))))))) trodAll_mk0))))))))
      simp only [List.append_nil, List.nil_append] at this
      exact this)
    (fun _ _ => rfl) (by simp) (ok_one (by kernel_rfl) rfl (okWide_bool_mk Try.underlying4 _))⟩

theorem over : Rows.shapeChecksRow.holds Try.pinned (OpenSpec.ofChange Rows.shapeChecksSpec) :=
  OpenClaim.holds_of_wide 3 Try.f3 rfl rfl rfl rfl rfl rfl rfl ⟨rfl, rfl, rfl, rfl, rfl⟩ rfl rfl rfl rfl rfl (by kernel_rfl) Try.func3 (by kernel_rfl)
    (of_decide_eq_true (by kernel_rfl)) (by unfold Func.isWrapper; first | (rw [if_pos (by decide +kernel)]; kernel_rfl) | (rw [if_neg (by decide +kernel)]; exact ⟨rfl, rfl⟩))
    (fun os started H enc _ => lifted os started H enc)

theorem proved : Rows.ShapeChecksSaid :=
  over
end Go.Proofs.Ytjdphbjnoblnaaa.law
