/- 'SubUnions': for every input the law returns true, and each argument reads as it read before. No condition. -/
import Derived.Test.YtjblgoefcobkgaaBind
import Derived.ProofKit
import Derived.OpenShut
import Derived.HandedShaped
namespace Go.Proofs.Ytjblgoefcobkgaa.law
open Eva Go.RowKit Go.ChangeShapes Go.WideShapes Go.ChangeAt Go.ChangeMaps
set_option linter.unusedVariables false
theorem own : ownKnob Try.prog.godebug = none := by kernel_rfl
theorem laidOut : laidOutB Try.prog = true := by kernel_rfl
theorem cells3 : Try.prog.cellsOf 3 = 1 := by kernel_rfl
theorem walk (w : World) (v0 : Value) (z0 : List Int) (h0 : IntsIn w v0 z0) (b0 : ∀ z ∈ z0, -9223372036854775808 ≤ z ∧ z < 9223372036854775808) (n0 : z0.length ≤ maxLen) (v1 : Value) (z1 : List Int) (h1 : IntsIn w v1 z1) (b1 : ∀ z ∈ z1, -9223372036854775808 ≤ z ∧ z < 9223372036854775808) (n1 : z1.length ≤ maxLen) (a2 : Bool) (hm : hasM 0 w) : Calls Try.prog 6 #[v0, v1, .bool a2] w fun e w' => e = .returned (.bool true) ∧ Below w.heap.size w w' := by
  obtain ⟨lo0, hlo0, hrow0, hu0⟩ := ints_row h0 hm.1
  obtain ⟨u0, hu0a, hu0b⟩ := hu0 Pt.h
  obtain ⟨lo1, hlo1, hrow1, hu1⟩ := ints_row h1 hm.1
  obtain ⟨u1, hu1a, hu1b⟩ := hu1 (Pt.a .h)
  obtain ⟨L, hL⟩ : ∃ L : List (List V), L = [z1.map (V.int .i64), z0.map (V.int .i64)] := ⟨_, rfl⟩
  have hr0 : (rosR L).row Pt.h = .ro (z0.map (V.int .i64)) := by rw [hL, rosR_row]; rfl
  have hat0 : IntsAt (rosR L) u0 z0 := by
    rcases hu0a with h | h
    · exact .inl h
    · exact .inr ⟨Pt.h, h, hr0⟩
  have hr1 : (rosR L).row (Pt.a .h) = .ro (z1.map (V.int .i64)) := by rw [hL, rosR_row]; rfl
  have hat1 : IntsAt (rosR L) u1 z1 := by
    rcases hu1a with h | h
    · exact .inl h
    · exact .inr ⟨(Pt.a .h), h, hr1⟩
  refine does_calls (ρ := fun _ => .bool false) (tabD_B (fun _ => rfl) hm) (L := L) (locs := fun i => match i with
    | 0 => lo0
    | 1 => lo1
    | _ => ⟨0, 0, 0⟩) (fun i hi => ?_) (law6 (rosR L) (rosR_wf _) u0 z0 hat0 b0 n0 u1 z1 hat1 b1 n1 a2) (xs := [v0, v1, .bool a2]) ⟨_, _, rfl, hu0b _ _ (by rw [hL]; rfl), ⟨_, _, rfl, hu1b _ _ (by rw [hL]; rfl), ⟨_, _, rfl, rfl, rfl⟩⟩⟩
  have hi' : i < 2 := by rw [hL] at hi; simpa using hi
  subst hL
  obtain rfl | rfl : i = 0 ∨ i = 1 := by omega
  · exact ⟨hrow0 _ _, hlo0⟩
  · exact ⟨hrow1 _ _, hlo1⟩
set_option maxRecDepth 100000 in
theorem lifted (os : Os) (started : os.Started) (H : Type) (enc : TypeId × Value → H) :
    ReturnsInHanded {} Try.checked os 6 .any (Rows.subUnionsSpec.pre6 enc Try.prog Try.f6 Rows.subUnionsRow.domain false) (Rows.subUnionsSpec.post enc Try.prog Try.f6 false true false false) := by
  refine returnsInHanded_of_change_shaped (C := Try.checked) own started (by kernel_rfl) Try.func6
    (ChangeSpec.witness6 (enc := enc) (C := Try.checked) false ⟨#[], #[.slice none 0 0, .slice none 0 0, .bool false], []⟩ 8 (by kernel_rfl) (by kernel_rfl) (by kernel_rfl) (by kernel_rfl)) ?_
  intro W base args ds gs before hval0 hW hcnd0 _ hsh _
  have hval : ∀ (j : Nat) t v, Try.f6.params[j]? = some t → args[j]? = some v → Value.okWide Try.prog W .any base t v := hval0
  have hW' := hW
  obtain ⟨p, q, hA0, hV, rfl, hfz, hnd⟩ := hW
  have hA : DataW.TrodAll enc Try.prog W 0 (fun _ => true) true Try.f6.params.toList args.toList ds p := hA0
  rw [Try.params6] at hA hval
  obtain ⟨v0, vs0, d0, ds0, p0, q0, hargs, rfl, rfl, h0, r0⟩ := trodAll_cons hA
  obtain ⟨v1, vs1, d1, ds1, p1, q1, rfl, rfl, rfl, h1, r1⟩ := trodAll_cons r0
  obtain ⟨v2, vs2, d2, ds2, p2, q2, rfl, rfl, rfl, h2, r2⟩ := trodAll_cons r1
  obtain ⟨rfl, rfl, rfl⟩ := trodAll_nil r2
  obtain rfl : args = #[v0, v1, v2] := by cases args; simp_all
  obtain ⟨rfl, rfl⟩ := trodVars_none hV
  obtain ⟨z0, hi0, hz0, hn0⟩ := ints_of Try.underlying33 Try.underlying3 cells3 (hval 0 33 v0 rfl rfl) h0
  obtain ⟨z1, hi1, hz1, hn1⟩ := ints_of Try.underlying33 Try.underlying3 cells3 (hval 1 33 v1 rfl rfl) h1
  obtain ⟨a2, rfl, rfl, rfl⟩ := open_bool Try.underlying4 (hval 2 4 v2 rfl rfl) h2
  clear hA0 hval0
  simp only [List.append_nil, List.nil_append] at hW'
  refine (walk W v0 z0 hi0 hz0 hn0 v1 z1 hi1 hz1 hn1 a2 (hasM_of (Try.laysM143.s1_3 W hsh))).mono fun e W' ⟨he, hg⟩ => ?_
  subst he
  have hlt : ∀ x ∈ (p0 ++ (p1) : List MemPlace), x.block < W.heap.size := fun x hx => hW'.lt x hx
  exact ⟨_, rfl, post_of_below (pa := p0 ++ (p1)) (pv := []) hW' hg (fun _ _ _ => (trodAll_cons_mk (shut_bool Try.underlying4 _) trodAll_mk0))
    (fun sp hsp => by
      have := (trodAll_cons_mk (WideElems.Trod_stays laidOut (by kernel_rfl) (of_decide_eq_true (by kernel_rfl)) h0 (fun x hx => hg.same (hlt x (List.mem_append.2 (.inl hx)))) (fun x hx => hsp x (List.mem_append.2 (.inl hx)))) (trodAll_cons_mk (WideElems.Trod_stays laidOut (by kernel_rfl) (of_decide_eq_true (by kernel_rfl)) h1 (fun x hx => hg.same (hlt x (List.mem_append.2 (.inr hx)))) (fun x hx => hsp x (List.mem_append.2 (.inr hx)))) (trodAll_cons_mk (shut_bool Try.underlying4 a2) trodAll_mk0)))
      simp only [List.append_nil, List.nil_append] at this
      exact this)
    (fun _ _ => rfl) (by simp) (ok_one (by kernel_rfl) rfl (okWide_bool_mk Try.underlying4 _))⟩

theorem over : Rows.subUnionsRow.holds Try.pinned (OpenSpec.ofChange Rows.subUnionsSpec) :=
  OpenClaim.holds_of_wide 6 Try.f6 rfl rfl rfl rfl rfl rfl rfl ⟨rfl, rfl, rfl, rfl, rfl⟩ rfl rfl rfl rfl rfl (by kernel_rfl) Try.func6 (by kernel_rfl)
    (of_decide_eq_true (by kernel_rfl)) (by unfold Func.isWrapper; first | (rw [if_pos (by decide +kernel)]; kernel_rfl) | (rw [if_neg (by decide +kernel)]; exact ⟨rfl, rfl⟩))
    (fun os started H enc _ => lifted os started H enc)

theorem proved : Rows.SubUnionsSaid :=
  over
end Go.Proofs.Ytjblgoefcobkgaa.law
