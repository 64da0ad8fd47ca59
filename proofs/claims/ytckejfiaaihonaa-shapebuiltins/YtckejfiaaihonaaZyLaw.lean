/- 'ShapeBuiltins': for every input the law returns true, and each argument reads as it read before. No condition. -/
import Derived.Test.YtckejfiaaihonaaZyLaw3
import Derived.ProofKit
import Derived.OpenShut
import Derived.HandedShaped
namespace Go.Proofs.Ytckejfiaaihonaa.law
open Eva Go.RowKit Go.ChangeShapes Go.WideShapes Go.ChangeAt Go.ChangeMaps
set_option linter.unusedVariables false
theorem own : ownKnob Try.prog.godebug = none := by kernel_rfl
theorem laidOut : laidOutB Try.prog = true := by kernel_rfl
theorem walk (w : World) (a0 : Int) (w0 : (Lit.int .i64 a0).wf = true) (x1 : ByteArray) (h1 : x1.size ≤ maxLen) (hm : hasM 0 w) : Calls Try.prog 3 #[.int .i64 a0, .string x1] w fun e w' => e = .returned (.bool true) ∧ Below w.heap.size w w' := by
  obtain ⟨L, hL⟩ : ∃ L : List (List V), L = [] := ⟨_, rfl⟩
  have c0 : -9223372036854775808 ≤ a0 ∧ a0 < 9223372036854775808 := by
    have : -9223372036854775808 ≤ a0 ∧ a0 ≤ 9223372036854775807 := by simpa [Lit.wf, IntKind.min, IntKind.max, IntKind.bits, IntKind.signed] using w0
    omega
  have hs1 : x1.data.toList.length ≤ maxLen := by rw [Array.length_toList, ByteArray.size_data]; exact h1
  have hM : Monos := fun n f args st v st' hr hw => (run_ok (P := Try.prog) (ρ := fun _ => .bool false) (base := ⟨w.heap.size, w⟩) (T := tabT tabD) (fun f b hb => by
    simp only [tabT, Option.some.injEq] at hb
    subst hb
    exact sel_B (tabD_B (fun _ => rfl) hm) f) n f args st v st' hr hw).1.wf
  refine does_calls (ρ := fun _ => .bool false) (tabD_B (fun _ => rfl) hm) (L := L) (locs := fun _ => ⟨0, 0, 0⟩) (fun i hi => ?_) (law3 (rosR L) (rosR_wf _) (by rw [hL]) hM a0 c0.1 c0.2 x1.data.toList hs1) (xs := [.int .i64 a0, .string x1]) ⟨_, _, rfl, rfl, ⟨_, _, rfl, ⟨x1, rfl, rfl, rfl⟩, rfl⟩⟩
  subst hL
  simp at hi
set_option maxRecDepth 100000 in
theorem lifted (os : Os) (started : os.Started) (H : Type) (enc : TypeId × Value → H) :
    ReturnsInHanded {} Try.checked os 3 .any (Rows.shapeBuiltinsSpec.pre6 enc Try.prog Try.f3 Rows.shapeBuiltinsRow.domain false) (Rows.shapeBuiltinsSpec.post enc Try.prog Try.f3 false true false false) := by
  refine returnsInHanded_of_change_shaped (C := Try.checked) own started (by kernel_rfl) Try.func3
    (ChangeSpec.witness6 (enc := enc) (C := Try.checked) false ⟨#[], #[.int .i64 0, .string ⟨#[]⟩], []⟩ 8 (by kernel_rfl) (by kernel_rfl) (by kernel_rfl) (by kernel_rfl)) ?_
  intro W base args ds gs before hval0 hW hcnd0 _ hsh _
  have hval : ∀ (j : Nat) t v, Try.f3.params[j]? = some t → args[j]? = some v → Value.okWide Try.prog W .any base t v := hval0
  have hW' := hW
  obtain ⟨p, q, hA0, hV, rfl, hfz, hnd⟩ := hW
  have hA : DataW.TrodAll enc Try.prog W 0 (fun _ => true) true Try.f3.params.toList args.toList ds p := hA0
  rw [Try.params3] at hA hval
  obtain ⟨v0, vs0, d0, ds0, p0, q0, hargs, rfl, rfl, h0, r0⟩ := trodAll_cons hA
  obtain ⟨v1, vs1, d1, ds1, p1, q1, rfl, rfl, rfl, h1, r1⟩ := trodAll_cons r0
  obtain ⟨rfl, rfl, rfl⟩ := trodAll_nil r1
  obtain rfl : args = #[v0, v1] := by cases args; simp_all
  obtain ⟨rfl, rfl⟩ := trodVars_none hV
  obtain ⟨a0, rfl, rfl, rfl, w0⟩ := open_int Try.underlying3 (hval 0 3 v0 rfl rfl) h0
  obtain ⟨x1, rfl, rfl, rfl, sx1⟩ := open_string Try.underlying9 (hval 1 9 v1 rfl rfl) h1
  clear hA0 hval0
  simp only [List.append_nil] at hW'
  refine (walk W a0 w0 x1 sx1 (hasM_of (Try.laysM143.s1_3 W hsh))).mono fun e W' ⟨he, hg⟩ => ?_
  subst he
  have hlt : ∀ x ∈ ([] : List MemPlace), x.block < W.heap.size := fun x hx => hW'.lt x hx
  exact ⟨_, rfl, post_of_below (pa := []) (pv := []) hW' hg (fun _ _ _ => (trodAll_cons_mk (shut_bool Try.underlying4 _) trodAll_mk0))
    (fun sp hsp => by
      exact (trodAll_cons_mk (shut_int Try.underlying3 w0) (trodAll_cons_mk (shut_string Try.underlying9 sx1) trodAll_mk0)))
    (fun _ _ => rfl) (by simp) (ok_one (by kernel_rfl) rfl (okWide_bool_mk Try.underlying4 _))⟩

theorem over : Rows.shapeBuiltinsRow.holds Try.pinned (OpenSpec.ofChange Rows.shapeBuiltinsSpec) :=
  OpenClaim.holds_of_wide 3 Try.f3 rfl rfl rfl rfl rfl rfl rfl ⟨rfl, rfl, rfl, rfl, rfl⟩ rfl rfl rfl rfl rfl (by kernel_rfl) Try.func3 (by kernel_rfl)
    (of_decide_eq_true (by kernel_rfl)) (by unfold Func.isWrapper; first | (rw [if_pos (by decide +kernel)]; kernel_rfl) | (rw [if_neg (by decide +kernel)]; exact ⟨rfl, rfl⟩))
    (fun os started H enc _ => lifted os started H enc)

theorem proved : Rows.ShapeBuiltinsSaid :=
  over
end Go.Proofs.Ytckejfiaaihonaa.law
