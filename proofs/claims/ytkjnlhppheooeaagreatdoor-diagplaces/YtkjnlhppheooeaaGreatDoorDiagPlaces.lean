/- 'DiagPlaces': for every input the law returns true, and each argument reads as it read before. No condition. -/
import Derived.Test.YtkjnlhppheooeaaGreatDoorDiagPlacesCases1
import Derived.Test.YtkjnlhppheooeaaGreatDoorDiagPlacesCases2
import Derived.Test.YtkjnlhppheooeaaGreatDoorDiagPlacesCases3
import Derived.Test.YtkjnlhppheooeaaGreatDoorDiagPlacesCases4
import Derived.Test.YtkjnlhppheooeaaGreatDoorDiagPlacesCases5
import Derived.Test.YtkjnlhppheooeaaGreatDoorDiagPlacesCases6
import Derived.Test.YtkjnlhppheooeaaGreatDoorDiagPlacesCases7
import Derived.Test.YtkjnlhppheooeaaGreatDoorDiagPlacesCases8
import Derived.Test.YtkjnlhppheooeaaGreatDoorDiagPlacesCases9
import Derived.Test.YtkjnlhppheooeaaGreatDoorDiagPlacesCases10
import Derived.Test.YtkjnlhppheooeaaGreatDoorDiagPlacesCases11
import Derived.Test.YtkjnlhppheooeaaGreatDoorDiagPlacesCases12
import Derived.Test.YtkjnlhppheooeaaGreatDoorDiagPlacesCases13
import Derived.Test.YtkjnlhppheooeaaGreatDoorDiagPlacesCases14
import Derived.Test.YtkjnlhppheooeaaGreatDoorDiagPlacesCases15
import Derived.Test.YtkjnlhppheooeaaGreatDoorDiagPlacesCases16
import Derived.Test.YtkjnlhppheooeaaGreatDoorDiagPlacesCases17
import Derived.Test.YtkjnlhppheooeaaGreatDoorDiagPlacesCases18
import Derived.Test.YtkjnlhppheooeaaGreatDoorDiagPlacesCases19
import Derived.Test.YtkjnlhppheooeaaGreatDoorDiagPlacesCases20
import Derived.Test.YtkjnlhppheooeaaGreatDoorDiagPlacesCases21
import Derived.Test.YtkjnlhppheooeaaGreatDoorDiagPlacesCases22
import Derived.Test.YtkjnlhppheooeaaGreatDoorDiagPlacesCases23
import Derived.Test.YtkjnlhppheooeaaGreatDoorDiagPlacesCases24
import Derived.Test.YtkjnlhppheooeaaGreatDoorDiagPlacesCases25
import Derived.Test.YtkjnlhppheooeaaGreatDoorDiagPlacesCases26
import Derived.Test.YtkjnlhppheooeaaGreatDoorDiagPlacesCases27
import Derived.Test.YtkjnlhppheooeaaGreatDoorDiagPlacesCases28
import Derived.Test.YtkjnlhppheooeaaGreatDoorDiagPlacesCases29
import Derived.Test.YtkjnlhppheooeaaGreatDoorDiagPlacesCases30
import Derived.WalkKit
import Derived.ProofKit
import Derived.OpenShut
import Derived.HandedShaped
import Derived.LaidLaws
import Derived.Lay
import Derived.MakeChecks
import Derived.SevenTiedAt
import Derived.Test.YtkjnlhppheooeaaGreatDoorCards
import Derived.Test.YtkjnlhppheooeaaGreatDoorTie
namespace Go.Proofs.YtkjnlhppheooeaaGreatDoor.law
open Eva Go.RowKit Go.ChangeShapes Go.WideShapes Go.ChangeAt
set_option linter.unusedVariables false
theorem own : ownKnob Tryz.prog.godebug = none := by kernel_rfl
theorem row_true (k : Nat) (h : k < 30) : (∀ k1, k1 < 20 → (∀ k2, k2 < 6 → G k k1 k2)) := by
  by_cases h0 : k < 1
  · exact fromN_ok (G := fun k => (∀ k1, k1 < 20 → (∀ k2, k2 < 6 → G k k1 k2))) row_ok rows0 (by omega) (by omega)
  by_cases h1 : k < 2
  · exact fromN_ok (G := fun k => (∀ k1, k1 < 20 → (∀ k2, k2 < 6 → G k k1 k2))) row_ok rows1 (by omega) (by omega)
  by_cases h2 : k < 3
  · exact fromN_ok (G := fun k => (∀ k1, k1 < 20 → (∀ k2, k2 < 6 → G k k1 k2))) row_ok rows2 (by omega) (by omega)
  by_cases h3 : k < 4
  · exact fromN_ok (G := fun k => (∀ k1, k1 < 20 → (∀ k2, k2 < 6 → G k k1 k2))) row_ok rows3 (by omega) (by omega)
  by_cases h4 : k < 5
  · exact fromN_ok (G := fun k => (∀ k1, k1 < 20 → (∀ k2, k2 < 6 → G k k1 k2))) row_ok rows4 (by omega) (by omega)
  by_cases h5 : k < 6
  · exact fromN_ok (G := fun k => (∀ k1, k1 < 20 → (∀ k2, k2 < 6 → G k k1 k2))) row_ok rows5 (by omega) (by omega)
  by_cases h6 : k < 7
  · exact fromN_ok (G := fun k => (∀ k1, k1 < 20 → (∀ k2, k2 < 6 → G k k1 k2))) row_ok rows6 (by omega) (by omega)
  by_cases h7 : k < 8
  · exact fromN_ok (G := fun k => (∀ k1, k1 < 20 → (∀ k2, k2 < 6 → G k k1 k2))) row_ok rows7 (by omega) (by omega)
  by_cases h8 : k < 9
  · exact fromN_ok (G := fun k => (∀ k1, k1 < 20 → (∀ k2, k2 < 6 → G k k1 k2))) row_ok rows8 (by omega) (by omega)
  by_cases h9 : k < 10
  · exact fromN_ok (G := fun k => (∀ k1, k1 < 20 → (∀ k2, k2 < 6 → G k k1 k2))) row_ok rows9 (by omega) (by omega)
  by_cases h10 : k < 11
  · exact fromN_ok (G := fun k => (∀ k1, k1 < 20 → (∀ k2, k2 < 6 → G k k1 k2))) row_ok rows10 (by omega) (by omega)
  by_cases h11 : k < 12
  · exact fromN_ok (G := fun k => (∀ k1, k1 < 20 → (∀ k2, k2 < 6 → G k k1 k2))) row_ok rows11 (by omega) (by omega)
  by_cases h12 : k < 13
  · exact fromN_ok (G := fun k => (∀ k1, k1 < 20 → (∀ k2, k2 < 6 → G k k1 k2))) row_ok rows12 (by omega) (by omega)
  by_cases h13 : k < 14
  · exact fromN_ok (G := fun k => (∀ k1, k1 < 20 → (∀ k2, k2 < 6 → G k k1 k2))) row_ok rows13 (by omega) (by omega)
  by_cases h14 : k < 15
  · exact fromN_ok (G := fun k => (∀ k1, k1 < 20 → (∀ k2, k2 < 6 → G k k1 k2))) row_ok rows14 (by omega) (by omega)
  by_cases h15 : k < 16
  · exact fromN_ok (G := fun k => (∀ k1, k1 < 20 → (∀ k2, k2 < 6 → G k k1 k2))) row_ok rows15 (by omega) (by omega)
  by_cases h16 : k < 17
  · exact fromN_ok (G := fun k => (∀ k1, k1 < 20 → (∀ k2, k2 < 6 → G k k1 k2))) row_ok rows16 (by omega) (by omega)
  by_cases h17 : k < 18
  · exact fromN_ok (G := fun k => (∀ k1, k1 < 20 → (∀ k2, k2 < 6 → G k k1 k2))) row_ok rows17 (by omega) (by omega)
  by_cases h18 : k < 19
  · exact fromN_ok (G := fun k => (∀ k1, k1 < 20 → (∀ k2, k2 < 6 → G k k1 k2))) row_ok rows18 (by omega) (by omega)
  by_cases h19 : k < 20
  · exact fromN_ok (G := fun k => (∀ k1, k1 < 20 → (∀ k2, k2 < 6 → G k k1 k2))) row_ok rows19 (by omega) (by omega)
  by_cases h20 : k < 21
  · exact fromN_ok (G := fun k => (∀ k1, k1 < 20 → (∀ k2, k2 < 6 → G k k1 k2))) row_ok rows20 (by omega) (by omega)
  by_cases h21 : k < 22
  · exact fromN_ok (G := fun k => (∀ k1, k1 < 20 → (∀ k2, k2 < 6 → G k k1 k2))) row_ok rows21 (by omega) (by omega)
  by_cases h22 : k < 23
  · exact fromN_ok (G := fun k => (∀ k1, k1 < 20 → (∀ k2, k2 < 6 → G k k1 k2))) row_ok rows22 (by omega) (by omega)
  by_cases h23 : k < 24
  · exact fromN_ok (G := fun k => (∀ k1, k1 < 20 → (∀ k2, k2 < 6 → G k k1 k2))) row_ok rows23 (by omega) (by omega)
  by_cases h24 : k < 25
  · exact fromN_ok (G := fun k => (∀ k1, k1 < 20 → (∀ k2, k2 < 6 → G k k1 k2))) row_ok rows24 (by omega) (by omega)
  by_cases h25 : k < 26
  · exact fromN_ok (G := fun k => (∀ k1, k1 < 20 → (∀ k2, k2 < 6 → G k k1 k2))) row_ok rows25 (by omega) (by omega)
  by_cases h26 : k < 27
  · exact fromN_ok (G := fun k => (∀ k1, k1 < 20 → (∀ k2, k2 < 6 → G k k1 k2))) row_ok rows26 (by omega) (by omega)
  by_cases h27 : k < 28
  · exact fromN_ok (G := fun k => (∀ k1, k1 < 20 → (∀ k2, k2 < 6 → G k k1 k2))) row_ok rows27 (by omega) (by omega)
  by_cases h28 : k < 29
  · exact fromN_ok (G := fun k => (∀ k1, k1 < 20 → (∀ k2, k2 < 6 → G k k1 k2))) row_ok rows28 (by omega) (by omega)
  exact fromN_ok (G := fun k => (∀ k1, k1 < 20 → (∀ k2, k2 < 6 → G k k1 k2))) row_ok rows29 (by omega) (by omega)
theorem one_true (k0 : Nat) (k1 : Nat) (k2 : Nat) (h0 : k0 < 30) (h1 : k1 < 20) (h2 : k2 < 6) : G k0 k1 k2 := by
  have h := row_true k0 h0
  have h := h k1 h1
  have h := h k2 h2
  exact h
theorem walk0 (a0 : Int) (a1 : Int) (a2 : Int) (w0 : (Lit.int .i64 a0).wf = true) (w1 : (Lit.int .i64 a1).wf = true) (w2 : (Lit.int .i64 a2).wf = true) (w : World) (hm : hasM 1 w) : Calls Tryz.prog 3 #[.int .i64 a0, .int .i64 a1, .int .i64 a2] w fun e w' => e = .returned (.bool true) ∧ Below w.heap.size w w' := by
  obtain ⟨k0, l0, e0⟩ := left_of a0 (n := 30) (by first | decide | omega)
  obtain ⟨k1, l1, e1⟩ := left_of a1 (n := 20) (by first | decide | omega)
  obtain ⟨k2, l2, e2⟩ := left_of a2 (n := 6) (by first | decide | omega)
  have hone := one_true k0 k1 k2 l0 l1 l2
  unfold G at hone
  let ρ : Nat → Value := fun i => match i with
    | 0 => .int .i64 a0
    | 1 => .int .i64 a1
    | 2 => .int .i64 a2
    | _ => .bool false
  have hρ : ∀ i, (ρ i).oneCell' = true := fun i => by
    show Value.oneCell' (match i with
      | 0 => .int .i64 a0
      | 1 => .int .i64 a1
      | 2 => .int .i64 a2
      | _ => .bool false) = true
    split <;> rfl
  have hh : HypOK ρ (hypOf 0 [30] k0 ++ hypOf 1 [20] k1 ++ hypOf 2 [6] k2) := hyp_app (hyp_app (hyp_of (i := 0) (M := 30) (a := a0) rfl w0 e0 (by decide)) (hyp_of (i := 1) (M := 20) (a := a1) rfl w1 e1 (by decide))) (hyp_of (i := 2) (M := 6) (a := a2) rfl w2 e2 (by decide))
  exact good_call (ρ := ρ) (tab_B hρ hm hh) hone (xs := [.int .i64 a0, .int .i64 a1, .int .i64 a2]) ⟨_, _, rfl, rfl, ⟨_, _, rfl, rfl, ⟨_, _, rfl, rfl, rfl⟩⟩⟩
theorem walk (w : World) (a0 : Int) (w0 : (Lit.int .i64 a0).wf = true) (a1 : Int) (w1 : (Lit.int .i64 a1).wf = true) (a2 : Int) (w2 : (Lit.int .i64 a2).wf = true) (hm : hasM 1 w) : Calls Tryz.prog 3 #[.int .i64 a0, .int .i64 a1, .int .i64 a2] w fun e w' => e = .returned (.bool true) ∧ Below w.heap.size w w' := walk0 a0 a1 a2 w0 w1 w2 w hm
set_option maxRecDepth 100000 in
theorem lifted (os : Os) (started : os.Started) (H : Type) (enc : TypeId × Value → H) :
    ReturnsInHanded {} Tryz.checked os 3 .any (fun w args => (Rows.diagPlacesSpec.pre enc Tryz.prog Tryz.f3 Rows.diagPlacesRow.domain false w args ∧ laidMetH Tryz.prog Rows.diagPlacesRow.laid w) ∧ sizedMet enc Tryz.prog Tryz.f3 (OpenSpec.ofChange Rows.diagPlacesSpec) false w args) (Rows.diagPlacesSpec.post enc Tryz.prog Tryz.f3 false true false false) := by
  refine change_and_shaped (C := Tryz.checked) (X := fun w _ => laidMetH Tryz.prog Rows.diagPlacesRow.laid w) (fun _ _ _ hh h => h.of_heap hh) own started (by kernel_rfl) Tryz.func3
    (ChangeSpec.witness_shaped (enc := enc) (C := Tryz.checked) (os := os) (X := fun w _ => laidMetH Tryz.prog Rows.diagPlacesRow.laid w) false (World.laidAll Tryz.prog os Rows.diagPlacesRow.laid) #[.int .i64 0, .int .i64 0, .int .i64 0] 8 (World.laidAll_os _ _ _) (World.shaped_of_ZipB (by kernel_rfl) (by kernel_rfl)) (by kernel_rfl) (by kernel_rfl) (by kernel_rfl)
      (by rw [MakeChecks.laidMetH_plain _ _ _ (by kernel_rfl)]; exact laidMet_laidAll _ (by kernel_rfl) (by kernel_rfl))) ?_
  intro W base args ds gs before hval0 hW hcnd0 _ hL hsh _
  have hval : ∀ (j : Nat) t v, Tryz.f3.params[j]? = some t → args[j]? = some v → Value.okWide Tryz.prog W .any base t v := hval0
  have hW' := hW
  obtain ⟨p, q, hA0, hV, rfl, hfz, hnd⟩ := hW
  have hA : DataW.TrodAll enc Tryz.prog W 0 (fun _ => true) true Tryz.f3.params.toList args.toList ds p := hA0
  rw [Tryz.params3] at hA hval
  obtain ⟨v0, vs0, d0, ds0, p0, q0, hargs, rfl, rfl, h0, r0⟩ := trodAll_cons hA
  obtain ⟨v1, vs1, d1, ds1, p1, q1, rfl, rfl, rfl, h1, r1⟩ := trodAll_cons r0
  obtain ⟨v2, vs2, d2, ds2, p2, q2, rfl, rfl, rfl, h2, r2⟩ := trodAll_cons r1
  obtain ⟨rfl, rfl, rfl⟩ := trodAll_nil r2
  obtain rfl : args = #[v0, v1, v2] := by cases args; simp_all
  obtain ⟨rfl, rfl⟩ := trodVars_none hV
  obtain ⟨a0, rfl, rfl, rfl, w0⟩ := open_int Tryz.underlying3 (hval 0 3 v0 rfl rfl) h0
  obtain ⟨a1, rfl, rfl, rfl, w1⟩ := open_int Tryz.underlying3 (hval 1 3 v1 rfl rfl) h1
  obtain ⟨a2, rfl, rfl, rfl, w2⟩ := open_int Tryz.underlying3 (hval 2 3 v2 rfl rfl) h2
  clear hA0 hval0
  simp only [List.append_nil] at hW'
  refine (walk W a0 w0 a1 w1 a2 w2 (hasM_of (Tryz.laysM143.s1_3 W hsh))).mono fun e W' ⟨he, hg⟩ => ?_
  subst he
  have hlt : ∀ x ∈ ([] : List MemPlace), x.block < W.heap.size := fun x hx => hW'.lt x hx
  exact ⟨_, rfl, post_of_below (pa := []) (pv := []) hW' hg (fun _ _ _ => (trodAll_cons_mk (shut_bool Tryz.underlying4 _) trodAll_mk0))
    (fun sp hsp => by
      exact (trodAll_cons_mk (shut_int Tryz.underlying3 w0) (trodAll_cons_mk (shut_int Tryz.underlying3 w1) (trodAll_cons_mk (shut_int Tryz.underlying3 w2) trodAll_mk0))))
    (fun _ _ => rfl) (by simp) (ok_one (by kernel_rfl) rfl (okWide_bool_mk Tryz.underlying4 _))⟩

theorem over : Rows.diagPlacesRow.holds Tryz.pinned (OpenSpec.ofChange Rows.diagPlacesSpec) :=
  OpenClaim.holds_of_wide 3 Tryz.f3 rfl rfl rfl rfl rfl rfl rfl ⟨rfl, rfl, rfl, rfl, rfl⟩ rfl rfl rfl rfl rfl (by kernel_rfl) Tryz.func3 (by kernel_rfl)
    (of_decide_eq_true (by kernel_rfl)) (by unfold Func.isWrapper; first | (rw [if_pos (by decide +kernel)]; kernel_rfl) | (rw [if_neg (by decide +kernel)]; exact ⟨rfl, rfl⟩))
    (fun os started H enc _ => lifted os started H enc)

theorem proved : Rows.DiagPlacesCardSaid :=
  Claim7.holds_tied_plain_at .later [] [.data, .data, .data] true (true, "11be18bfb27c75c8681e468caf54d8da902eb9c5c90b7a4325eef78e3475bd52") false
    over (fun _ h => by cases h) (by kernel_rfl) (fun _ h => by cases h) diagPlaces_row_tie rfl ⟨rfl, rfl⟩ (by kernel_rfl) rfl
    (fun f fn hf hfn => by
      obtain rfl : f = 3 := Option.some.inj ((show Tryz.prog.funcNamed Rows.diagPlacesRow.func = some 3 by kernel_rfl).symm.trans hf) |>.symm
      obtain rfl : fn = Tryz.f3 := (Option.some.inj (Tryz.func3.symm.trans hfn)).symm
      refine ⟨by kernel_rfl, fun j t ht => ?_⟩
      rw [Tryz.params3] at ht
      have hm : t ∈ [3, 3, 3] := by
        have := Array.mem_of_getElem? ht
        simpa using this
      simp only [List.mem_cons, List.not_mem_nil, or_false] at hm
      rcases hm with rfl | rfl | rfl
      · exact (show Tryz.prog.wantsStandIn 3 = false by kernel_rfl)
      · exact (show Tryz.prog.wantsStandIn 3 = false by kernel_rfl)
      · exact (show Tryz.prog.wantsStandIn 3 = false by kernel_rfl)
    )
    (by kernel_rfl)
end Go.Proofs.YtkjnlhppheooeaaGreatDoor.law
