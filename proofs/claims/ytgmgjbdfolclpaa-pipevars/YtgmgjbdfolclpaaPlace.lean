/- The last variable of a name: what the program's place does. No condition. -/
import Derived.Test.YtgmgjbdfolclpaaProg
import Derived.Test.YtgmgjbdfolclpaaEvc7
import Derived.RangeFuncBox
import Derived.RangeFuncNested
import Derived.RangeFuncCalls
import Derived.RangeFuncLeaves
import Derived.Shelf.Abstract
import Derived.WalkKit
import Derived.OwnWalkIn
import Derived.TacticsInMore
import Derived.LoopNIn
import Derived.LoopIn
namespace Go.Proofs.Ytgmgjbdfolclpaa
open Go Go.RowKit Go.Shelf Eva
set_option linter.unusedVariables false
attribute [local go_sem] Oper.semAt_some

/-- What has come when k rounds are over, from the last on. -/
def downto (zs : List (ByteArray × Int)) (k : Nat) : List (Nat × ByteArray × Int) := (List.range k).map fun i => (zs.length - 1 - i, zs.getD (zs.length - 1 - i) default)
theorem downto_succ (zs : List (ByteArray × Int)) (k : Nat) : downto zs (k + 1) = downto zs k ++ [(zs.length - 1 - k, zs.getD (zs.length - 1 - k) default)] := by simp [downto, List.range_succ]
theorem downto_length (zs : List (ByteArray × Int)) (k : Nat) : (downto zs k).length = k := by simp [downto]

set_option maxRecDepth 100000 in
set_option maxHeartbeats 2000000 in
theorem back1_in (F : Fence) (n : Nat) (h8 : F.fn 84) (hro : F.round = none) (hn : 1 ≤ n) (l Bs n₀ b off cap : Nat) (zs : List (ByteArray × Int)) (hreach : zs.length ≤ 100000) (hb : b < n₀) (J Jx : List (Nat × ByteArray × Int) → World → Prop)
    (hY : ∀ pre x W, J pre W → pre.length < zs.length → YieldAt F (n - 1) Try.prog l #[.int .i64 (x.1 : Int), .agg #[.string x.2.1, .int .i64 x.2.2]] W fun e W' =>
      (e = .returned (.bool true) ∧ J (pre ++ [x]) W' ∧ Below n₀ W W') ∨ (e = .returned (.bool false) ∧ Jx (pre ++ [x]) W'))
    (W : World) (hBs : W.cell? ⟨Bs, 0, none⟩ = some (.slice (some ⟨b, off, none⟩) zs.length cap)) (hBn : Bs < n₀) (hc : ∀ j (h : j < zs.length), W.cell? ⟨b, off + 2 * j, none⟩ = some (.string zs[j].1) ∧ W.cell? ⟨b, off + 2 * j + 1, none⟩ = some (.int .i64 zs[j].2)) (h0 : J [] W) :
    CallsIn F n Try.prog 84 #[.func (.yield l) #[] #[], .pointer (some ⟨Bs, 0, none⟩)] W fun e W' => (∃ v, e = .returned v) ∧
      ((∃ ys, ys = downto zs zs.length ∧ J ys W') ∨ (∃ pre, (∃ k, k ≤ zs.length ∧ pre = downto zs k) ∧ Jx pre W')) := by
  refine callsIn_of_wp Try.func84 rfl h8 ?_ hro
  simp only [Try.ntmps84, List.size_toArray, List.length_cons, List.length_nil, Nat.reduceAdd, Nat.reduceSub, Array.replicate_succ, Array.replicate_zero, List.push_toArray, List.append_toArray, List.nil_append, List.cons_append]
  gi_wp2
  gi_loopw [3] (fun i wr => ∃ k : Nat, k ≤ zs.length ∧ i = .int .i64 ((zs.length : Int) - 1 - k) ∧ J (downto zs k) wr ∧ Below n₀ W wr)
    (fun i _ => (intOf i + 1).toNat)
  case atStart =>
    exact ⟨0, Nat.zero_le _, by simp, h0, Below.refl _ _⟩
  case round =>
    obtain ⟨k, hk, rfl, hJs, hnx⟩ := hrel
    have hBs' : wr.cell? ⟨Bs, 0, none⟩ = some (.slice (some ⟨b, off, none⟩) zs.length cap) := (hnx.cell (p := ⟨Bs, 0, none⟩) hBn).trans hBs
    by_cases hlt : k < zs.length
    · obtain ⟨j, hj⟩ : ∃ j, j + k + 1 = zs.length := ⟨zs.length - 1 - k, by omega⟩
      have hjl : j < zs.length := by omega
      have hji : (zs.length : Int) - 1 - k = (j : Int) := by omega
      have hget : zs.getD j default = zs[j] := by rw [List.getD_eq_getElem?_getD, List.getElem?_eq_getElem hjl]; rfl
      have c1 : wr.cell? ⟨b, off + j * 2, none⟩ = some (.string zs[j].1) := by rw [Nat.mul_comm j 2]; exact (hnx.cell (p := ⟨b, off + 2 * j, none⟩) hb).trans (hc j hjl).1
      have c2 : wr.cell? ⟨b, off + j * 2 + 1, none⟩ = some (.int .i64 zs[j].2) := by rw [Nat.mul_comm j 2]; exact (hnx.cell (p := ⟨b, off + 2 * j + 1, none⟩) hb).trans (hc j hjl).2
      obtain ⟨fn, tmps, assign, body, hy, hR⟩ := hY _ (j, zs[j]) wr hJs (by rw [downto_length]; exact hlt)
      dsimp only at hy
      rw [hji]
      gi_wp2
      refine hR.mono ?_
      rintro e W3 (⟨rfl, hJ3, hk3⟩ | ⟨rfl, hJx3⟩)
      · gi_wp2
        go_roundw
        case rel => exact ⟨k + 1, by omega, by rw [show (zs.length : Int) - 1 - ((k + 1 : Nat) : Int) = (j : Int) - 1 by omega], by rw [downto_succ, show zs.length - 1 - k = j by omega, hget]; exact hJ3, hnx.trans hk3⟩
        case measure => first | (simp [intOf]; done) | (simp [intOf]; omega)
      · gi_wp2
        refine bodyPost_ret (results_none rfl _ _ _) rfl ?_
        exact ⟨⟨_, rfl⟩, .inr ⟨_, ⟨k + 1, by omega, by rw [downto_succ, show zs.length - 1 - k = j by omega, hget]⟩, hJx3⟩⟩
    · obtain rfl : k = zs.length := by omega
      gi_wp2
      go_end0
      exact ⟨⟨_, rfl⟩, .inl ⟨_, rfl, hJs⟩⟩

set_option maxRecDepth 100000 in
set_option maxHeartbeats 1000000 in
theorem back1_nil_in (F : Fence) (n : Nat) (h8 : F.fn 84) (hro : F.round = none) (l Bs : Nat) (a : Option Addr) (cap : Nat) (J : List (Nat × ByteArray × Int) → World → Prop) (W : World) (hBs : W.cell? ⟨Bs, 0, none⟩ = some (.slice a 0 cap)) (h0 : J [] W) :
    CallsIn F n Try.prog 84 #[.func (.yield l) #[] #[], .pointer (some ⟨Bs, 0, none⟩)] W fun e W' => (∃ v, e = .returned v) ∧ J [] W' := by
  refine callsIn_of_wp Try.func84 rfl h8 ?_ hro
  simp only [Try.ntmps84, List.size_toArray, List.length_cons, List.length_nil, Nat.reduceAdd, Nat.reduceSub, Array.replicate_succ, Array.replicate_zero, List.push_toArray, List.append_toArray, List.nil_append, List.cons_append]
  gi_wp2
  gi_loopw [3] (fun i wr => i = .int .i64 (-1) ∧ J [] wr) (fun _ _ => 0)
  case atStart => exact ⟨rfl, h0⟩
  case round =>
    obtain ⟨rfl, hJs⟩ := hrel
    gi_wp2
    go_end0
    exact ⟨⟨_, rfl⟩, hJs⟩

set_option maxHeartbeats 1000000 in
theorem back_in (F : Fence) (n : Nat) (h6 : F.fn 75) (hro : F.round = none) (a : Option Addr) (len cap : Nat) (w : World) :
    CallsIn F n Try.prog 75 #[.slice a len cap] w fun e w' => e = .returned (.func (.func 84) #[] #[.pointer (some ⟨w.heap.size, 0, none⟩)]) ∧ w' = w.alloc (.cells #[.slice a len cap] 25) := by
  refine callsIn_of_wp Try.func75 rfl h6 ?_ hro
  simp only [Try.ntmps75, List.size_toArray, List.length_cons, List.length_nil, Nat.reduceAdd, Nat.reduceSub, Array.replicate_succ, Array.replicate_zero, List.push_toArray, List.append_toArray, List.nil_append, List.cons_append]
  gi_wp2
  go_ret
  exact ⟨rfl, rfl⟩

theorem set_other (W : World) (x y : Nat) (v : Value) (h : x ≠ y) : (W.setCell ⟨x, 0, none⟩ v).cell? ⟨y, 0, none⟩ = W.cell? ⟨y, 0, none⟩ := World.cell?_setCell_other (h := fun e => h (by injection e)) .. 
/-- A slice of names and types lies below n₀. -/
def VarsB (n₀ : Nat) (w : World) (a : Option Addr) (zs : List (ByteArray × Int)) : Prop :=
  zs = [] ∨ ∃ b off, a = some ⟨b, off, none⟩ ∧ b < n₀ ∧ ∀ j (h : j < zs.length), w.cell? ⟨b, off + 2 * j, none⟩ = some (.string zs[j].1) ∧ w.cell? ⟨b, off + 2 * j + 1, none⟩ = some (.int .i64 zs[j].2)
theorem VarsB.below {n₀ : Nat} {A B : World} (h : Below n₀ A B) {a : Option Addr} {zs : List (ByteArray × Int)} : VarsB n₀ A a zs → VarsB n₀ B a zs
  | .inl e => .inl e
  | .inr ⟨b, off, e, hb, hc⟩ => .inr ⟨b, off, e, hb, fun j hj => ⟨(h.cell (p := ⟨b, off + 2 * j, none⟩) hb).trans (hc j hj).1, (h.cell (p := ⟨b, off + 2 * j + 1, none⟩) hb).trans (hc j hj).2⟩⟩

theorem back_stops (F : Fence) (n : Nat) (h8 : F.fn 84) (hro : F.round = none) (hn : 1 ≤ n) (Bs n₀ : Nat) (a : Option Addr) (cap : Nat) (zs : List (ByteArray × Int)) (hreach : zs.length ≤ 100000) (w : World) (hBs : Bs < n₀) (hn₀ : n₀ ≤ w.heap.size)
    (hc : w.cell? ⟨Bs, 0, none⟩ = some (.slice a zs.length cap)) (hI : VarsB n₀ w a zs) :
    SeqStopsK F n Try.prog 84 #[.pointer (some ⟨Bs, 0, none⟩)] (fun x : Nat × ByteArray × Int => #[Value.int .i64 (x.1 : Int), .agg #[.string x.2.1, .int .i64 x.2.2]]) (Below n₀) (fun ys => ys = downto zs zs.length)
      (fun pre => ∃ k, k ≤ zs.length ∧ pre = downto zs k) zs.length w := fun l J Jx W hW _ _ hY h0 => by
  have hc' := (hW.cell (p := ⟨Bs, 0, none⟩) (by show Bs < _; omega)).trans hc
  rcases hI.below (hW.mono hn₀) with rfl | ⟨b, off, rfl, hb, hcs⟩
  · exact (back1_nil_in F n h8 hro l Bs a cap J W hc' h0).mono fun e W' ⟨he, hj⟩ => ⟨he, .inl ⟨_, rfl, hj⟩⟩
  · exact back1_in F n h8 hro hn l Bs n₀ b off cap zs hreach hb J Jx hY W hc' hBs hcs h0

set_option maxRecDepth 100000 in
set_option maxHeartbeats 2000000 in
theorem place_in (F : Fence) (n : Nat) (h4 : F.fn 57) (h6 : F.fn 75) (h8 : F.fn 84) (hro : F.round = none) (hn : 3 ≤ n) (w : World) (d : Int) (a : Option Addr) (cap : Nat) (b : Option Addr) (m cap2 : Nat) (s : ByteArray) (zs : List (ByteArray × Int)) (hreach : zs.length ≤ 100000)
    (hI : s.size ≠ 0 → VarsAt w a zs) :
    CallsIn F n Try.prog 57 #[.agg #[.int .i64 d, .slice a zs.length cap, .slice b m cap2], .string s] w fun e w' => Below w.heap.size w w' ∧
    ((s.size = 0 ∧ e = .returned (.tuple #[.int .i64 (-1), .bool true])) ∨
     (s.size ≠ 0 ∧ ∃ k : Nat, ∃ h : k < zs.length, e = .returned (.tuple #[.int .i64 k, .bool true]) ∧ zs[k].1 = s ∧ ∀ j (hj : j < zs.length), k < j → zs[j].1 ≠ s) ∨
     (s.size ≠ 0 ∧ e = .returned (.tuple #[.int .i64 (-1), .bool false]) ∧ ∀ j (hj : j < zs.length), zs[j].1 ≠ s)) := by
  have h1 : 1 ≤ n := by omega
  refine callsIn_of_wp_marks Try.func57 rfl h4 ?_ hro
  simp only [Try.ntmps57, List.size_toArray, List.length_cons, List.length_nil, Nat.reduceAdd, Nat.reduceSub, Array.replicate_succ, Array.replicate_zero, List.push_toArray, List.append_toArray, List.nil_append, List.cons_append]
  have hsz : s.toList.isEmpty = true ↔ s.size = 0 := by
    rw [ByteArray.toList_eq, ← ByteArray.size_data, ← Array.length_toList, List.isEmpty_iff, List.length_eq_zero_iff]
  have heq : ∀ x : ByteArray, (x.toList == s.toList) = true ↔ x = s := fun x => by
    rw [ByteArray.toList_eq, ByteArray.toList_eq, beq_iff_eq]
    exact ⟨fun e => by cases x; cases s; simpa using e, fun e => by rw [e]⟩
  by_cases hs : s.toList.isEmpty = true
  · have hs0 := hsz.1 hs
    gi_wp2_with (gi_at_call 75; refine (back_in F (n - 1) h6 hro _ _ _ _).mono ?_; rintro e w' ⟨rfl, rfl⟩)
    have b2 := Boxed.new ((w.alloc (Obj.cells #[Value.int IntKind.i64 d, Value.slice a zs.length cap, Value.slice b m cap2] 28)).alloc (Obj.cells #[Value.string s] 9)) 3 (.int .i64 (-1))
    have b3 := Boxed.new (((w.alloc (Obj.cells #[Value.int IntKind.i64 d, Value.slice a zs.length cap, Value.slice b m cap2] 28)).alloc (Obj.cells #[Value.string s] 9)).alloc (Obj.cells #[Value.int IntKind.i64 (-1)] 3)) 4 (.bool true)
    rw [World.size_alloc, World.size_alloc] at b2
    rw [World.size_alloc, World.size_alloc, World.size_alloc] at b3
    have h2 := (b2.alloc (.cells #[Value.bool true] 4)).cell
    have h3 := b3.cell
    simp only [bodyPostM, LeavesInM, LeavesIn]
    refine ⟨.tuple #[.int .i64 (-1), .bool true], by simp [results, Try.f57, go_sem, h2, h3], ?_, .inl ⟨hs0, rfl⟩⟩
    exact ((((Below.refl _ w).alloc (Nat.le_refl _) _).alloc (by simp) _).alloc (by simp; omega) _).alloc (by simp; omega) _
  have hs0 : s.size ≠ 0 := fun e => hs (hsz.2 e)
  have hs : s.toList.isEmpty = false := by simpa using hs
  gi_wp2_with (gi_at_call 75; refine (back_in F (n - 1) h6 hro _ _ _ _).mono ?_; rintro e w' ⟨rfl, rfl⟩)
  obtain ⟨w0, hw0⟩ : ∃ w0, w0 = (((((w.alloc (Obj.cells #[Value.int IntKind.i64 d, Value.slice a zs.length cap, Value.slice b m cap2] 28)).alloc (Obj.cells #[Value.string s] 9)).alloc (Obj.cells #[Value.int IntKind.i64 0] 3)).alloc (Obj.cells #[Value.bool false] 4)).alloc (Obj.cells #[Value.slice a zs.length cap] 25)) := ⟨_, rfl⟩
  have hN : w0.heap.size = w.heap.size + 5 := by rw [hw0]; simp
  have b1 : Boxed w0 (w.heap.size + 1) 9 (.string s) := by
    have := Boxed.new (w.alloc (Obj.cells #[Value.int IntKind.i64 d, Value.slice a zs.length cap, Value.slice b m cap2] 28)) 9 (.string s)
    rw [World.size_alloc] at this
    rw [hw0]; exact ((this.alloc _).alloc _).alloc _
  have b2 : Boxed w0 (w.heap.size + 1 + 1) 3 (.int .i64 0) := by
    have := Boxed.new ((w.alloc (Obj.cells #[Value.int IntKind.i64 d, Value.slice a zs.length cap, Value.slice b m cap2] 28)).alloc (Obj.cells #[Value.string s] 9)) 3 (.int .i64 0)
    rw [World.size_alloc, World.size_alloc] at this
    rw [hw0]; exact (this.alloc _).alloc _
  have b3 : Boxed w0 (w.heap.size + 1 + 1 + 1) 4 (.bool false) := by
    have := Boxed.new (((w.alloc (Obj.cells #[Value.int IntKind.i64 d, Value.slice a zs.length cap, Value.slice b m cap2] 28)).alloc (Obj.cells #[Value.string s] 9)).alloc (Obj.cells #[Value.int IntKind.i64 0] 3)) 4 (.bool false)
    rw [World.size_alloc, World.size_alloc, World.size_alloc] at this
    rw [hw0]; exact this.alloc _
  have b4 : Boxed w0 (w.heap.size + 1 + 1 + 1 + 1) 25 (.slice a zs.length cap) := by
    have := Boxed.new ((((w.alloc (Obj.cells #[Value.int IntKind.i64 d, Value.slice a zs.length cap, Value.slice b m cap2] 28)).alloc (Obj.cells #[Value.string s] 9)).alloc (Obj.cells #[Value.int IntKind.i64 0] 3)).alloc (Obj.cells #[Value.bool false] 4)) 25 (.slice a zs.length cap)
    rw [World.size_alloc, World.size_alloc, World.size_alloc, World.size_alloc] at this
    rw [hw0]; exact this
  have hB0 : Below w.heap.size w w0 := by
    rw [hw0]; exact ((((((Below.refl _ w).alloc (Nat.le_refl _) _).alloc (by simp) _).alloc (by simp; omega) _).alloc (by simp; omega) _).alloc (by simp; omega) _)
  have hI0 : VarsB w0.heap.size w0 a zs := by
    rcases hI hs0 with e | ⟨bb, off, e, hb, hc⟩
    · exact .inl e
    · exact .inr ⟨bb, off, e, by omega, fun j hj => ⟨(hB0.cell (p := ⟨bb, off + 2 * j, none⟩) hb).trans (hc j hj).1, (hB0.cell (p := ⟨bb, off + 2 * j + 1, none⟩) hb).trans (hc j hj).2⟩⟩
  rw [← hw0]
  refine wpIn_rangeFunc_ownH hro h1 (gf := 84) (lb := #[.pointer (some ⟨w.heap.size + 1 + 1 + 1 + 1, 0, none⟩)]) rfl h8 (enters_of Try.func84 (by kernel_rfl) rfl)
    (back_stops F (n - 1) h8 hro (by omega) (w.heap.size + 1 + 1 + 1 + 1) w0.heap.size a cap zs hreach w0 (by omega) (Nat.le_refl _) b4.cell hI0) belowK_t (belowK_b (Nat.le_refl _)) (Below.refl _ _) (fun _ => rfl)
    (fun pre W => (∀ p ∈ pre, p.2.1 ≠ s) ∧ Below w0.heap.size w0 W)
    (fun c pre W => (c = .ret ∧ ∃ ini last, pre = ini ++ [last] ∧ (∀ p ∈ ini, p.2.1 ≠ s) ∧ last.2.1 = s ∧ W.cell? ⟨w.heap.size + 1 + 1, 0, none⟩ = some (.int .i64 (last.1 : Int)) ∧ W.cell? ⟨w.heap.size + 1 + 1 + 1, 0, none⟩ = some (.bool true)) ∧ Below w.heap.size w W)
    (OwnFrom.and (ownFrom_pure _ _) (ownFrom_below (Nat.le_refl _) (Nat.le_refl _)))
    (fun c => OwnFrom.and (Own.from (fun s A B row hs hg hr => by obtain ⟨hc, ini, last, e1, e2, e3, e4, e5⟩ := hs; exact ⟨hc, ini, last, e1, e2, e3, cell_kept e4 hg hr, cell_kept e5 hg hr⟩) _) (ownFrom_below (by omega) (by omega)))
    ⟨by simp, Below.refl _ _⟩
    (fun x a' W => ∃ B, w0.heap.size ≤ B ∧ W.cell? ⟨B, 0, none⟩ = some (.string x.2.1) ∧ W.cell? ⟨B, 1, none⟩ = some (.int .i64 x.2.2) ∧ a' =
      { tmps := #[Value.agg #[Value.int IntKind.i64 d, Value.slice a zs.length cap, Value.slice b m cap2], Value.string s,
          Value.pointer (some { block := w.heap.size, off := 0 }),
          Value.pointer (some { block := w.heap.size + 1, off := 0 }),
          Value.pointer (some { block := w.heap.size + 1 + 1, off := 0 }),
          Value.pointer (some { block := w.heap.size + 1 + 1 + 1, off := 0 }), Value.int IntKind.i64 (x.1 : Int), Value.pointer (some { block := B, off := 0 }), Value.string s,
          Value.bool false, Value.pointer (some { block := w.heap.size, off := 1 }), Value.slice a zs.length cap,
          Value.func (Fn.func 84) #[] #[Value.pointer (some { block := w.heap.size + 1 + 1 + 1 + 1, off := 0 })], Value.int IntKind.i64 (x.1 : Int),
          Value.agg #[Value.string x.2.1, Value.int IntKind.i64 x.2.2], undef, undef, undef, undef, undef], defers := [] })
    (fun x a' => Own.from (fun s A B row hs hg hr => by obtain ⟨B, e1, e2, e3, e4⟩ := hs; exact ⟨B, e1, cell_kept e2 hg hr, cell_kept e3 hg hr, e4⟩) _) ?assign ?body ?done ?stop
  case assign =>
    intro l pre x W K hIx hK
    gi_wp2
    have hsz0 := hIx.2.size
    have hb := (Below.refl w0.heap.size W).alloc hsz0 (Obj.cells #[Value.string x.2.1, Value.int IntKind.i64 x.2.2] 36)
    refine hK _ _ ((KeepsOthers.alloc _ _).from _) hb ⟨hIx.1, hIx.2.trans hb⟩ ⟨W.heap.size, hsz0, ?_, ?_, rfl⟩
    · have := World.alloc_heap_new W (Obj.cells #[Value.string x.2.1, Value.int IntKind.i64 x.2.2] 36)
      unfold World.cell?
      rw [this]
      rfl
    · have := World.alloc_heap_new W (Obj.cells #[Value.string x.2.1, Value.int IntKind.i64 x.2.2] 36)
      unfold World.cell?
      rw [this]
      rfl
  case body =>
    rintro l pre x a' W hl hr ⟨hp, hB⟩ ⟨B, e1, e2, e3, rfl⟩ hlt
    have d1 := (hB.cell (p := ⟨w.heap.size + 1, 0, none⟩) (by show w.heap.size + 1 < _; omega)).trans b1.cell
    have d2 := (hB.cell (p := ⟨w.heap.size + 1 + 1, 0, none⟩) (by show w.heap.size + 1 + 1 < _; omega)).trans b2.cell
    have d3 := (hB.cell (p := ⟨w.heap.size + 1 + 1 + 1, 0, none⟩) (by show w.heap.size + 1 + 1 + 1 < _; omega)).trans b3.cell
    have f2 := (hB.frozen (p := ⟨w.heap.size + 1 + 1, 0, none⟩) (by show w.heap.size + 1 + 1 < _; omega)).trans b2.frozen
    have f3 := (hB.frozen (p := ⟨w.heap.size + 1 + 1 + 1, 0, none⟩) (by show w.heap.size + 1 + 1 + 1 < _; omega)).trans b3.frozen
    gi_wp2
    · have hx : (x.2.1.toList == s.toList) = true := by assumption
      have g2 := World.cell?_setCell_same' W ⟨w.heap.size + 1 + 1, 0, none⟩ (.int .i64 (x.1 : Int)) (by rw [d2]; rfl)
      have g3 := World.cell?_setCell_same' (W.setCell ⟨w.heap.size + 1 + 1, 0, none⟩ (.int .i64 (x.1 : Int))) ⟨w.heap.size + 1 + 1 + 1, 0, none⟩ (.bool true) (by rw [set_other _ _ _ _ (by omega), d3]; rfl)
      exact ⟨((KeepsOthers.setCell _ _ _).trans (KeepsOthers.setCell _ _ _)).from _, ⟨rfl, pre, x, rfl, hp, (heq _).1 hx, by rw [set_other _ _ _ _ (by omega)]; exact g2, g3⟩,
        ((hB0.trans (hB.mono hB0.size)).setCell (p := ⟨w.heap.size + 1 + 1, 0, none⟩) (by show w.heap.size ≤ w.heap.size + 1 + 1; omega) _).setCell (p := ⟨w.heap.size + 1 + 1 + 1, 0, none⟩) (by show w.heap.size ≤ w.heap.size + 1 + 1 + 1; omega) _⟩
    · have hx : (x.2.1.toList == s.toList) = false := by assumption
      refine ⟨KeepsFrom.refl _ _, Below.refl _ _, fun p hp' => ?_, hB⟩
      rcases List.mem_append.1 hp' with q | q
      · exact hp p q
      · simp only [List.mem_singleton] at q
        subst q
        intro e
        rw [(heq _).2 e] at hx
        cases hx
  case done =>
    rintro D ys W hD rfl ⟨hp, hB⟩ hK
    have d2 := (hB.cell (p := ⟨w.heap.size + 1 + 1, 0, none⟩) (by show w.heap.size + 1 + 1 < _; omega)).trans b2.cell
    have d3 := (hB.cell (p := ⟨w.heap.size + 1 + 1 + 1, 0, none⟩) (by show w.heap.size + 1 + 1 + 1 < _; omega)).trans b3.cell
    have f2 := (hB.frozen (p := ⟨w.heap.size + 1 + 1, 0, none⟩) (by show w.heap.size + 1 + 1 < _; omega)).trans b2.frozen
    have f3 := (hB.frozen (p := ⟨w.heap.size + 1 + 1 + 1, 0, none⟩) (by show w.heap.size + 1 + 1 + 1 < _; omega)).trans b3.frozen
    gi_wp2
    have g2 := World.cell?_setCell_same' W ⟨w.heap.size + 1 + 1, 0, none⟩ (.int .i64 (-1)) (by rw [d2]; rfl)
    have g3 := World.cell?_setCell_same' (W.setCell ⟨w.heap.size + 1 + 1, 0, none⟩ (.int .i64 (-1))) ⟨w.heap.size + 1 + 1 + 1, 0, none⟩ (.bool false) (by rw [set_other _ _ _ _ (by omega), d3]; rfl)
    have g2' := (set_other (W.setCell ⟨w.heap.size + 1 + 1, 0, none⟩ (.int .i64 (-1))) (w.heap.size + 1 + 1 + 1) (w.heap.size + 1 + 1) (.bool false) (by omega)).trans g2
    have hK' := ((KeepsOthers.setCell W ⟨w.heap.size + 1 + 1, 0, none⟩ (.int .i64 (-1))).trans (KeepsOthers.setCell _ ⟨w.heap.size + 1 + 1 + 1, 0, none⟩ (.bool false))).same D _ hK rfl
    refine ⟨by simp, .inl ⟨_, _, rfl, run_takeDeferred hK', ?_⟩⟩
    have h2 := cell_kept g2' (grownBy_putObj' _ D (.deferred none)) (fun r e => by cases e; exact ⟨_, hK', rfl⟩)
    have h3 := cell_kept g3 (grownBy_putObj' _ D (.deferred none)) (fun r e => by cases e; exact ⟨_, hK', rfl⟩)
    refine ⟨.tuple #[.int .i64 (-1), .bool false], by simp [results, Try.f57, go_sem, h2, h3], ?_, .inr (.inr ⟨hs0, rfl, fun j hj => ?_⟩)⟩
    · have q1 := ((hB0.trans (hB.mono hB0.size)).setCell (p := ⟨w.heap.size + 1 + 1, 0, none⟩) (by show w.heap.size ≤ w.heap.size + 1 + 1; omega) (.int .i64 (-1))).setCell (p := ⟨w.heap.size + 1 + 1 + 1, 0, none⟩) (by show w.heap.size ≤ w.heap.size + 1 + 1 + 1; omega) (.bool false)
      exact q1.trans (belowK_b (w := w) (Nat.le_refl _) _ D _ _ (by omega) hK' rfl rfl)
    · refine hp (j, zs[j]) ?_
      simp only [downto, List.mem_map, List.mem_range]
      refine ⟨zs.length - 1 - j, by omega, ?_⟩
      rw [show zs.length - 1 - (zs.length - 1 - j) = j by omega, List.getD_eq_getElem?_getD, List.getElem?_eq_getElem hj]
      rfl
  case stop =>
    rintro D c pre W hD ⟨k, hk, e0⟩ ⟨⟨rfl, ini, last, e1, e2, e3, hc2, hc3⟩, hB⟩ hK
    gi_wp2
    refine ⟨by simp, .inl ⟨_, _, rfl, run_takeDeferred hK, ?_⟩⟩
    have h2 := cell_kept hc2 (grownBy_putObj' _ D (.deferred none)) (fun r e => by cases e; exact ⟨_, hK, rfl⟩)
    have h3 := cell_kept hc3 (grownBy_putObj' _ D (.deferred none)) (fun r e => by cases e; exact ⟨_, hK, rfl⟩)
    obtain ⟨k', rfl⟩ : ∃ k', k = k' + 1 := by
      cases k with
      | zero => rw [e0] at e1; simp [downto] at e1
      | succ k' => exact ⟨k', rfl⟩
    rw [e0, downto_succ] at e1
    obtain ⟨e4, e5⟩ := List.append_inj' e1 rfl
    obtain ⟨j, hj⟩ : ∃ j, j = zs.length - 1 - k' := ⟨_, rfl⟩
    have hjl : j < zs.length := by omega
    rw [← hj, List.getD_eq_getElem?_getD, List.getElem?_eq_getElem hjl] at e5
    have e5 : (j, zs[j]) = last := by simpa using e5
    subst e5
    refine ⟨.tuple #[.int .i64 j, .bool true], by simp [results, Try.f57, go_sem, h2, h3], hB.trans (belowK_b (w := w) (Nat.le_refl _) W D _ _ (by omega) hK rfl rfl), .inr (.inl ⟨hs0, j, hjl, rfl, e3, fun i hi hlt => ?_⟩)⟩
    refine e2 (i, zs[i]) ?_
    rw [← e4]
    simp only [downto, List.mem_map, List.mem_range]
    refine ⟨zs.length - 1 - i, by omega, ?_⟩
    rw [show zs.length - 1 - (zs.length - 1 - i) = i by omega, List.getD_eq_getElem?_getD, List.getElem?_eq_getElem hi]
    rfl
theorem place_does : PlaceDoes Try.prog 57 := fun w d a cap b m cap2 s zs hz hI => callsIn_wide.1 (place_in Fence.wide 3 trivial trivial trivial rfl (Nat.le_refl _) w d a cap b m cap2 s zs hz hI)
end Go.Proofs.Ytgmgjbdfolclpaa
