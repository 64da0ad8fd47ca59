/- 'PipeVars': for every input the law returns true, and each argument reads as it read before. No condition. -/
import Derived.Test.YtgmgjbdfolclpaaPipeVarsCases1
import Derived.Test.YtgmgjbdfolclpaaPipeVarsCases2
import Derived.Test.YtgmgjbdfolclpaaPipeVarsCases3
import Derived.Test.YtgmgjbdfolclpaaPipeVarsCases4
import Derived.Test.YtgmgjbdfolclpaaPipeVarsCases5
import Derived.Test.YtgmgjbdfolclpaaPipeVarsCases6
import Derived.Test.YtgmgjbdfolclpaaPipeVarsCases7
import Derived.Test.YtgmgjbdfolclpaaPipeVarsCases8
import Derived.Test.YtgmgjbdfolclpaaPipeVarsCases9
import Derived.Test.YtgmgjbdfolclpaaPipeVarsCases10
import Derived.Test.YtgmgjbdfolclpaaPipeVarsCases11
import Derived.WalkKit
import Derived.ProofKit
import Derived.OpenShut
import Derived.HandedShaped
namespace Go.Proofs.Ytgmgjbdfolclpaa.law
open Eva Go.RowKit Go.ChangeShapes Go.WideShapes Go.ChangeAt Go.ChangeMaps
set_option linter.unusedVariables false
theorem own : ownKnob Try.prog.godebug = none := by kernel_rfl
theorem laidOut : laidOutB Try.prog = true := by kernel_rfl
theorem cells3 : Try.prog.cellsOf 3 = 1 := by kernel_rfl
theorem law_two {zs : List Int} {ρ : Nat → Value} (hρ : ∀ i (hi : i < zs.length), ρ i = .int .i64 zs[i]) (hz : ∀ z ∈ zs, -9223372036854775808 ≤ z ∧ z < 9223372036854775808) (m : Nat) (hm : m < zs.length) : ∃ r, r < 7 ∧ HypOK ρ [(m, 7, r)] := by
  obtain ⟨r, hr, e⟩ := left_of zs[m] (n := 7) (by decide)
  refine ⟨r, hr, fun p hp => ?_⟩
  rw [List.mem_singleton.1 hp]
  have := hz _ (List.getElem_mem hm)
  exact ⟨zs[m], hρ m hm, by simp [Lit.wf, IntKind.min, IntKind.max, IntKind.bits, IntKind.signed]; omega, e⟩
theorem walk (w : World) (v0 : Value) (z0 : List Int) (h0 : IntsIn w v0 z0) (b0 : ∀ z ∈ z0, -9223372036854775808 ≤ z ∧ z < 9223372036854775808) (n0 : z0.length ≤ maxLen) (a1 : Int) (w1 : (Lit.int .i64 a1).wf = true) (hm : hasM 0 w) : Calls Try.prog 3 #[v0, .int .i64 a1] w fun e w' => e = .returned (.bool true) ∧ Below w.heap.size w w' := by
  obtain ⟨lo, hlo, hrow, hu⟩ := ints_row h0 hm.1
  obtain ⟨u, hu1, hu2⟩ := hu Pt.h
  obtain ⟨c, hc, ec⟩ := left_of a1 (n := 2) (by decide)
  obtain ⟨ρ, hρd⟩ : ∃ ρ : Nat → Value, ρ = fun i => .int .i64 (z0.getD i 0) := ⟨_, rfl⟩
  have hρ : ∀ i, (ρ i).oneCell' = true := fun i => by rw [hρd]; rfl
  have hI : ∀ i, ∃ a : Int, ρ i = .int .i64 a := fun i => ⟨_, by rw [hρd]⟩
  have hz : ∀ i (hi : i < z0.length), ρ i = .int .i64 z0[i] := fun i hi => by rw [hρd]; simp [List.getElem?_eq_getElem hi]
  have key : ∀ {l : List V} {m : Nat} {hyp : List (Nat × Nat × Nat)}, m ≤ z0.length → l = (List.range m).map V.opq → HypOK ρ hyp → G u l hyp c → Calls Try.prog 3 #[v0, .int .i64 a1] w fun e w' => e = .returned (.bool true) ∧ Below w.heap.size w w' := fun {l m hyp} hmz hl hh g => by
    subst hl
    exact good_callR (tab_B hρ hm hh hI) g hlo (opq_row hrow hz hmz) (xs := [v0, .int .i64 a1]) fun γ hγ => ⟨_, _, rfl, hu2 γ ρ hγ, ⟨_, _, rfl, ⟨a1, rfl, by decide, by decide, ec⟩, rfl⟩⟩
  have two : ∀ {m1 m2 : Nat}, m1 < z0.length → m2 < z0.length → ∃ r1 r2, r1 < 7 ∧ r2 < 7 ∧ HypOK ρ [(m1, 7, r1), (m2, 7, r2)] := fun {m1 m2} h1 h2 => by
    obtain ⟨r1, l1, e1⟩ := law_two hz b0 m1 h1
    obtain ⟨r2, l2, e2⟩ := law_two hz b0 m2 h2
    exact ⟨r1, r2, l1, l2, hyp_app e1 e2⟩
  have hc2 : c = 0 ∨ c = 1 := by omega
  rcases hu1 with ⟨rfl, e⟩ | hu1
  · rcases hc2 with rfl | rfl
    · exact key (m := 0) (Nat.zero_le _) rfl (hyp_nil ρ) (one_ok Go.Proofs.Ytgmgjbdfolclpaa.law.n0).1
    · exact key (m := 0) (Nat.zero_le _) rfl (hyp_nil ρ) (one_ok Go.Proofs.Ytgmgjbdfolclpaa.law.n1).1
  obtain ⟨k, hk⟩ : ∃ k, k = z0.length := ⟨_, rfl⟩
  rw [← hk] at hu1
  subst hu1
  by_cases h11 : 11 ≤ k
  · obtain ⟨y, rfl⟩ : ∃ y, k = y + 11 := ⟨k - 11, by omega⟩
    obtain ⟨r1, r2, l1, l2, hh⟩ := two (m1 := 9) (m2 := 8) (by omega) (by omega)
    rcases hc2 with rfl | rfl
    · exact key (m := 10) (by omega) rfl hh ((rowM_ok (big_0 y)).1 r1 l1 r2 l2)
    · exact key (m := 10) (by omega) rfl hh ((rowM_ok (big_1 y)).1 r1 l1 r2 l2)
  have hks : k = 0 ∨ k = 1 ∨ k = 2 ∨ k = 3 ∨ k = 4 ∨ k = 5 ∨ k = 6 ∨ k = 7 ∨ k = 8 ∨ k = 9 ∨ k = 10 := by omega
  rcases hks with rfl | rfl | rfl | rfl | rfl | rfl | rfl | rfl | rfl | rfl | rfl
  · rcases hc2 with rfl | rfl
    · exact key (m := 0) (Nat.zero_le _) rfl (hyp_nil ρ) (one_ok z0_).1
    · exact key (m := 0) (Nat.zero_le _) rfl (hyp_nil ρ) (one_ok z1_).1
  · obtain ⟨r1, l1, hh⟩ := law_two hz b0 0 (by omega)
    rcases hc2 with rfl | rfl
    · exact key (m := 1) (by omega) rfl hh ((rowS_ok s0).1 r1 l1)
    · exact key (m := 1) (by omega) rfl hh ((rowS_ok s1).1 r1 l1)
  · obtain ⟨r1, r2, l1, l2, hh⟩ := two (m1 := 1) (m2 := 0) (by omega) (by omega)
    rcases hc2 with rfl | rfl
    · exact key (m := 2) (by omega) rfl hh ((rowM_ok m2_0).1 r1 l1 r2 l2)
    · exact key (m := 2) (by omega) rfl hh ((rowM_ok m2_1).1 r1 l1 r2 l2)
  · obtain ⟨r1, r2, l1, l2, hh⟩ := two (m1 := 2) (m2 := 1) (by omega) (by omega)
    rcases hc2 with rfl | rfl
    · exact key (m := 3) (by omega) rfl hh ((rowM_ok m3_0).1 r1 l1 r2 l2)
    · exact key (m := 3) (by omega) rfl hh ((rowM_ok m3_1).1 r1 l1 r2 l2)
  · obtain ⟨r1, r2, l1, l2, hh⟩ := two (m1 := 3) (m2 := 2) (by omega) (by omega)
    rcases hc2 with rfl | rfl
    · exact key (m := 4) (by omega) rfl hh ((rowM_ok m4_0).1 r1 l1 r2 l2)
    · exact key (m := 4) (by omega) rfl hh ((rowM_ok m4_1).1 r1 l1 r2 l2)
  · obtain ⟨r1, r2, l1, l2, hh⟩ := two (m1 := 4) (m2 := 3) (by omega) (by omega)
    rcases hc2 with rfl | rfl
    · exact key (m := 5) (by omega) rfl hh ((rowM_ok m5_0).1 r1 l1 r2 l2)
    · exact key (m := 5) (by omega) rfl hh ((rowM_ok m5_1).1 r1 l1 r2 l2)
  · obtain ⟨r1, r2, l1, l2, hh⟩ := two (m1 := 5) (m2 := 4) (by omega) (by omega)
    rcases hc2 with rfl | rfl
    · exact key (m := 6) (by omega) rfl hh ((rowM_ok m6_0).1 r1 l1 r2 l2)
    · exact key (m := 6) (by omega) rfl hh ((rowM_ok m6_1).1 r1 l1 r2 l2)
  · obtain ⟨r1, r2, l1, l2, hh⟩ := two (m1 := 6) (m2 := 5) (by omega) (by omega)
    rcases hc2 with rfl | rfl
    · exact key (m := 7) (by omega) rfl hh ((rowM_ok m7_0).1 r1 l1 r2 l2)
    · exact key (m := 7) (by omega) rfl hh ((rowM_ok m7_1).1 r1 l1 r2 l2)
  · obtain ⟨r1, r2, l1, l2, hh⟩ := two (m1 := 7) (m2 := 6) (by omega) (by omega)
    rcases hc2 with rfl | rfl
    · exact key (m := 8) (by omega) rfl hh ((rowM_ok m8_0).1 r1 l1 r2 l2)
    · exact key (m := 8) (by omega) rfl hh ((rowM_ok m8_1).1 r1 l1 r2 l2)
  · obtain ⟨r1, r2, l1, l2, hh⟩ := two (m1 := 8) (m2 := 7) (by omega) (by omega)
    rcases hc2 with rfl | rfl
    · exact key (m := 9) (by omega) rfl hh ((rowM_ok m9_0).1 r1 l1 r2 l2)
    · exact key (m := 9) (by omega) rfl hh ((rowM_ok m9_1).1 r1 l1 r2 l2)
  · obtain ⟨r1, r2, l1, l2, hh⟩ := two (m1 := 9) (m2 := 8) (by omega) (by omega)
    rcases hc2 with rfl | rfl
    · exact key (m := 10) (by omega) rfl hh ((rowM_ok m10_0).1 r1 l1 r2 l2)
    · exact key (m := 10) (by omega) rfl hh ((rowM_ok m10_1).1 r1 l1 r2 l2)
set_option maxRecDepth 100000 in
theorem lifted (os : Os) (started : os.Started) (H : Type) (enc : TypeId × Value → H) :
    ReturnsInHanded {} Try.checked os 3 .any (Rows.pipeVarsSpec.pre6 enc Try.prog Try.f3 Rows.pipeVarsRow.domain false) (Rows.pipeVarsSpec.post enc Try.prog Try.f3 false true false false) := by
  refine returnsInHanded_of_change_shaped (C := Try.checked) own started (by kernel_rfl) Try.func3
    (ChangeSpec.witness6 (enc := enc) (C := Try.checked) false ⟨#[], #[.slice none 0 0, .int .i64 0], []⟩ 8 (by kernel_rfl) (by kernel_rfl) (by kernel_rfl) (by kernel_rfl)) ?_
  intro W base args ds gs before hval0 hW hcnd0 _ hsh _
  have hval : ∀ (j : Nat) t v, Try.f3.params[j]? = some t → args[j]? = some v → Value.okWide Try.prog W .any base t v := hval0
  have hW' := hW
  obtain ⟨p, q, hA0, hV, rfl, hfz, hnd⟩ := hW
  have hA : DataW.TrodAll enc Try.prog W 0 (fun _ => true) true Try.f3.params.toList args.toList ds p := hA0
  rw [Try.params3] at hA hval
  obtain ⟨v0, vs0, d0, ds0, p0, q0, hargs, rfl, rfl, h0, r0⟩ := trodAll_cons hA
  obtain ⟨v1, vs1, d1, ds1, p1, q1, rfl, rfl, rfl, h1, r1⟩ := trodAll_cons r0
  obtain ⟨rfl, rfl, rfl⟩ := trodAll_nil r1
  obtain rfl : args = #[v0, v1] := by cases args; simp_all
  obtain ⟨rfl, rfl⟩ := trodVars_none hV
  obtain ⟨z0, hi0, hz0, hn0⟩ := ints_of Try.underlying22 Try.underlying3 cells3 (hval 0 22 v0 rfl rfl) h0
  obtain ⟨a1, rfl, rfl, rfl, w1⟩ := open_int Try.underlying3 (hval 1 3 v1 rfl rfl) h1
  clear hA0 hval0
  simp only [List.append_nil] at hW'
  refine (walk W v0 z0 hi0 hz0 hn0 a1 w1 (hasM_of (Try.laysM143.s1_3 W hsh))).mono fun e W' ⟨he, hg⟩ => ?_
  subst he
  have hlt : ∀ x ∈ (p0 : List MemPlace), x.block < W.heap.size := fun x hx => hW'.lt x hx
  exact ⟨_, rfl, post_of_below (pa := p0) (pv := []) hW' hg (fun _ _ _ => (trodAll_cons_mk (shut_bool Try.underlying4 _) trodAll_mk0))
    (fun sp hsp => by
      have := (trodAll_cons_mk (WideElems.Trod_stays laidOut (by kernel_rfl) (of_decide_eq_true (by kernel_rfl)) h0 (fun x hx => hg.same (hlt x hx)) (fun x hx => hsp x hx)) (trodAll_cons_mk (shut_int Try.underlying3 w1) trodAll_mk0))
      simp only [List.append_nil] at this
      exact this)
    (fun _ _ => rfl) (by simp) (ok_one (by kernel_rfl) rfl (okWide_bool_mk Try.underlying4 _))⟩

theorem over : Rows.pipeVarsRow.holds Try.pinned (OpenSpec.ofChange Rows.pipeVarsSpec) :=
  OpenClaim.holds_of_wide 3 Try.f3 rfl rfl rfl rfl rfl rfl rfl ⟨rfl, rfl, rfl, rfl, rfl⟩ rfl rfl rfl rfl rfl (by kernel_rfl) Try.func3 (by kernel_rfl)
    (of_decide_eq_true (by kernel_rfl)) (by unfold Func.isWrapper; first | (rw [if_pos (by decide +kernel)]; kernel_rfl) | (rw [if_neg (by decide +kernel)]; exact ⟨rfl, rfl⟩))
    (fun os started H enc _ => lifted os started H enc)

theorem proved : Rows.PipeVarsSaid :=
  over
end Go.Proofs.Ytgmgjbdfolclpaa.law
