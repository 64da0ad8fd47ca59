/- 'SubUnions', plainly. -/
import Derived.Test.YtjblgoefcobkgaaEvdV
namespace Eva
open Go Go.RowKit
set_option linter.unusedVariables false
set_option maxRecDepth 100000
abbrev ndI : Nd := ⟨2, [], [], []⟩
abbrev ndO : Nd := ⟨6, [], [], [0]⟩
abbrev ndU (l : List Str) (k : Nat) : Nd := ⟨8, [], l, List.replicate l.length k⟩
abbrev tyI : Ty := .mk 2 [] [] []
abbrev tyO : Ty := .mk 6 [] [] [tyI]
abbrev tyU (l : List Str) (t : Ty) : Ty := .mk 8 [] l (List.replicate l.length t)
theorem addTs_rep {t : Ty} {tb : Tb} {i : Nat} {c : Int} (hc : 0 ≤ c) (h : ∀ left, c ≤ left → addT t left tb = (tb, i, 0, left - c)) : ∀ (m : Nat) (left : Int), m * c ≤ left → addTs (List.replicate m t) left tb = (tb, List.replicate m i, 0, left - m * c)
  | 0, left, _ => by rw [List.replicate_zero, addTs_nil]; simp
  | m + 1, left, hl => by
    have hm : ((m + 1 : Nat) : Int) * c = m * c + c := by push_cast; rw [Int.add_mul, Int.one_mul]
    have h0 : (0 : Int) ≤ m * c := Int.mul_nonneg (by omega) hc
    rw [hm] at hl ⊢
    rw [List.replicate_succ, addTs_cons, h left (by omega)]
    simp only [ne_eq, not_true_eq_false, if_false]
    rw [addTs_rep hc h m (left - c) (by omega)]
    simp only [List.replicate_succ]
    congr 3
    omega
theorem addTs_rep1 {t : Ty} {tb tb' : Tb} {i : Nat} {c : Int} (hc : 0 ≤ c) (h1 : ∀ left, c ≤ left → addT t left tb = (tb', i, 0, left - c)) (h : ∀ left, c ≤ left → addT t left tb' = (tb', i, 0, left - c)) (m : Nat) (left : Int) (hl : (m + 1 : Nat) * c ≤ left) : addTs (List.replicate (m + 1) t) left tb = (tb', List.replicate (m + 1) i, 0, left - (m + 1 : Nat) * c) := by
  have hm : ((m + 1 : Nat) : Int) * c = m * c + c := by push_cast; rw [Int.add_mul, Int.one_mul]
  have h0 : (0 : Int) ≤ m * c := Int.mul_nonneg (by omega) hc
  rw [hm] at hl ⊢
  rw [List.replicate_succ, addTs_cons, h1 left (by omega)]
  simp only [ne_eq, not_true_eq_false, if_false]
  rw [addTs_rep hc h m (left - c) (by omega)]
  simp only [List.replicate_succ]
  congr 3
  omega
theorem nI {tb : Tb} {r : List Nd} (hr : tb.nodes = ndI :: r) (left : Int) (hl : 1 ≤ left) : addT tyI left tb = (tb, 0, 0, left - 1) := by
  rw [addT_mk, if_neg (by simp; omega), addTs_nil]
  simp [layS, hr, idx]
theorem nI0 (left : Int) (hl : 1 ≤ left) : addT tyI left emptyTb = (⟨[ndI], [], 0, []⟩, 0, 0, left - 1) := by
  rw [addT_mk, if_neg (by simp; omega), addTs_nil]
  simp [layS, emptyTb, idx]
theorem nO {a : Nd} (ha : a.kind = 8) (left : Int) (hl : 2 ≤ left) : addT tyO left ⟨[ndI, a], [], 1, []⟩ = (⟨[ndI, a, ndO], [], 1, []⟩, 2, 0, left - 2) := by
  have hne : ¬ (ndO = a) := fun e => by rw [← e] at ha; cases ha
  rw [addT_mk, if_neg (by simp; omega), addTs_cons, nI rfl _ (by omega)]
  simp only [ne_eq, not_true_eq_false, if_false, addTs_nil]
  simp [layS, idx, hne]
  omega
theorem nO2 {a : Nd} (ha : a.kind = 8) (left : Int) (hl : 2 ≤ left) : addT tyO left ⟨[ndI, a, ndO], [], 1, []⟩ = (⟨[ndI, a, ndO], [], 1, []⟩, 2, 0, left - 2) := by
  have hne : ¬ (ndO = a) := fun e => by rw [← e] at ha; cases ha
  rw [addT_mk, if_neg (by simp; omega), addTs_cons, nI rfl _ (by omega)]
  simp only [ne_eq, not_true_eq_false, if_false, addTs_nil]
  simp [layS, idx, hne]
  omega
theorem nX {xs : List Str} (h0 : xs ≠ []) (h8 : xs.length ≤ 8) : addT (tyU xs tyI) 400 emptyTb = ((⟨[ndI, ndU xs 0], [], 0, []⟩ : Tb), 1, 0, 399 - (xs.length : Int)) := by
  obtain ⟨m, hm⟩ : ∃ m, xs.length = m + 1 := ⟨xs.length - 1, by have := List.length_pos_iff.2 h0; omega⟩
  rw [addT_mk, if_neg (by simp; omega), hm, addTs_rep1 (tb := emptyTb) (tb' := ⟨[ndI], [], 0, []⟩) (i := 0) (c := 1) (by omega) nI0 (nI (tb := ⟨[ndI], [], 0, []⟩) (r := []) rfl) m _ (by omega)]
  simp only [ne_eq, not_true_eq_false, if_false]
  simp [layS, idx, hm]
theorem nY {xs ys : List Str} (h0 : ys ≠ []) (h8 : ys.length ≤ 8) : addT (tyU ys tyI) 400 ⟨[ndI, ndU xs 0], [], 1, []⟩ = if ys = xs then (⟨[ndI, ndU xs 0], [], 1, []⟩, 1, 0, 399 - (ys.length : Int)) else (⟨[ndI, ndU xs 0, ndU ys 0], [], 1, []⟩, 2, 0, 399 - (ys.length : Int)) := by
  rw [addT_mk, if_neg (by simp; omega), addTs_rep (c := 1) (by omega) (nI (tb := ⟨[ndI, ndU xs 0], [], 1, []⟩) rfl) ys.length _ (by omega)]
  simp only [ne_eq, not_true_eq_false, if_false]
  have h1 : ¬ (ndU ys 0 = ndI) := fun e => by have := congrArg Nd.kind e; cases this
  by_cases h : ys = xs
  · subst h
    simp [layS, idx]
  · have h2 : ¬ (ndU ys 0 = ndU xs 0) := fun e => h (by have := congrArg Nd.names e; exact this)
    have h3 : idx (ndU ys 0) [ndI, ndU xs 0] 0 = none := by simp only [idx, if_neg h1, if_neg h2]
    simp only [layS, h3, if_neg h]
    simp
theorem nYO {xs ys : List Str} (h0 : ys ≠ []) (h8 : ys.length ≤ 8) : addT (tyU ys tyO) 400 ⟨[ndI, ndU xs 0], [], 1, []⟩ = (⟨[ndI, ndU xs 0, ndO, ndU ys 2], [], 1, []⟩, 3, 0, 399 - (ys.length : Int) * 2) := by
  obtain ⟨m, hm⟩ : ∃ m, ys.length = m + 1 := ⟨ys.length - 1, by have := List.length_pos_iff.2 h0; omega⟩
  have hx : (ndU xs 0).kind = 8 := rfl
  rw [addT_mk, if_neg (by simp; omega)]
  have hr : addTs (List.replicate ys.length tyO) (400 - 1) ⟨[ndI, ndU xs 0], [], 1, []⟩ = (⟨[ndI, ndU xs 0, ndO], [], 1, []⟩, List.replicate ys.length 2, 0, 400 - 1 - (ys.length : Int) * 2) := by
    rw [hm]; exact addTs_rep1 (c := 2) (by omega) (nO hx) (nO2 hx) m _ (by omega)
  rw [hr]
  simp only [ne_eq, not_true_eq_false, if_false]
  have h1 : ¬ (ndU ys 2 = ndI) := fun e => by have := congrArg Nd.kind e; cases this
  have h2 : ¬ (ndU ys 2 = ndU xs 0) := fun e => by
    have e1 := congrArg Nd.kids e
    simp only [hm] at e1
    cases hxl : xs.length with
    | zero => rw [hxl] at e1; cases e1
    | succ n => rw [hxl, List.replicate_succ, List.replicate_succ] at e1; injection e1 with e1; cases e1
  have h3 : ¬ (ndU ys 2 = ndO) := fun e => by have := congrArg Nd.kind e; cases this
  have h4 : idx (ndU ys 2) [ndI, ndU xs 0, ndO] 0 = none := by simp only [idx, if_neg h1, if_neg h2, if_neg h3]
  simp only [layS, h4]
  simp
theorem idxN_mem (n : Str) : ∀ (l : List Str) (i : Nat), (n ∈ l → ∃ j, idxN n l i = some (i + j) ∧ j < l.length) ∧ (n ∉ l → idxN n l i = none)
  | [], i => ⟨fun h => absurd h (by simp), fun _ => rfl⟩
  | a :: r, i => by
    by_cases h : n = a
    · exact ⟨fun _ => ⟨0, by rw [idxN, if_pos h]; rfl, by simp⟩, fun k => absurd (by rw [h]; exact List.mem_cons_self) k⟩
    · obtain ⟨k1, k2⟩ := idxN_mem n r (i + 1)
      refine ⟨fun k => ?_, fun k => ?_⟩
      · rcases List.mem_cons.1 k with k | k
        · exact absurd k h
        obtain ⟨j, e, hj⟩ := k1 k
        exact ⟨j + 1, by rw [idxN, if_neg h, e]; congr 1; omega, by simp; omega⟩
      · rw [idxN, if_neg h]; exact k2 fun e => k (List.mem_cons_of_mem _ e)
theorem byP_union {xs ys : List Str} {k : Nat} : ∀ (l : List Str) (i : Nat), i + l.length ≤ xs.length → byP (ndU ys k) (ndU xs 0) false l i = l.map fun n => if n ∈ ys then some (0, k) else none
  | [], _, _ => rfl
  | n :: r, i, h => by
    simp only [List.length_cons] at h
    rw [byP, byP_union r (i + 1) (by omega), List.map_cons]
    congr 1
    obtain ⟨k1, k2⟩ := idxN_mem n ys 0
    by_cases hn : n ∈ ys
    · obtain ⟨j, e, hj⟩ := k1 hn
      have e' : idxN n (ndU ys k).names 0 = some j := by rw [show (0 : Nat) + j = j from by omega] at e; exact e
      simp only [pairN, e', if_pos hn]
      have a1 : j < (List.replicate ys.length k).length := by simpa using hj
      have a2 : i < (List.replicate xs.length 0).length := by simp; omega
      rw [if_pos ⟨a1, a2⟩, if_neg (by decide)]
      simp only [List.getD_eq_getElem?_getD, List.getElem?_eq_getElem a1, List.getElem?_eq_getElem a2, List.getElem_replicate, Option.getD_some]
    · have e' : idxN n (ndU ys k).names 0 = none := k2 hn
      simp only [pairN, e', if_neg hn]
theorem asks_union {f : Was → Nat → Nat → Option (Bool × Was)} {ys : List Str} {k : Nat} (hf : ∀ was, ∃ was', f was 0 k = some (true, was')) : ∀ (l : List Str) (was : Was), ∃ was', asksS f (l.map fun n => if n ∈ ys then some (0, k) else none) was = some (decide (∀ n ∈ l, n ∈ ys), was')
  | [], was => ⟨was, by simp [asksS]⟩
  | n :: r, was => by
    rw [List.map_cons]
    by_cases hn : n ∈ ys
    · obtain ⟨w1, e1⟩ := hf was
      obtain ⟨w2, e2⟩ := asks_union (ys := ys) hf r w1
      refine ⟨w2, ?_⟩
      rw [if_pos hn]
      simp only [asksS, e1, e2]
      simp [hn]
    · refine ⟨was, ?_⟩
      rw [if_neg hn]
      simp [asksS, hn]
theorem fit_union {tb : Tb} {xs ys : List Str} {k id f : Nat} (hx : tb.nodes.getD 1 zeroNd = ndU xs 0) (hy : tb.nodes.getD id zeroNd = ndU ys k) (h1 : 1 < tb.nodes.length) (hid : id < tb.nodes.length) (hne : 1 ≠ id) (hf : ∀ was, ∃ was', fitsS tb f was 0 k = some (true, was')) : ∃ was', fitsS tb (f + 1) [] 1 id = some (decide (∀ n ∈ xs, n ∈ ys), was') := by
  have g1 : tb.nodes[1] = ndU xs 0 := by rw [← hx]; simp [List.getD_eq_getElem?_getD, h1]
  have g2 : tb.nodes[id] = ndU ys k := by rw [← hy]; simp [List.getD_eq_getElem?_getD, hid]
  have o1 : openS tb (tb.nodes.length + 1) 1 = (1, true) := openS_self h1 (by rw [g1]; simp)
  have o2 : openS tb (tb.nodes.length + 1) id = (id, true) := openS_self hid (by rw [g2]; simp)
  have hp : plan tb 1 id = some (xs.map fun n => if n ∈ ys then some (0, k) else none) := by
    unfold plan
    rw [o1, o2]
    simp only [and_self, if_true, hx, hy]
    unfold plan2
    simp [ndU]
    exact byP_union xs 0 (by omega)
  rw [fitsS, if_neg (by simp; exact hne), hp]
  exact asks_union hf xs _
theorem fit_same (tb : Tb) (f : Nat) (was : Was) (a : Nat) : fitsS tb (f + 1) was a a = some (true, was) := by rw [fitsS, if_pos (.inl rfl)]
theorem fit_opt {tb : Tb} {f : Nat} {r : List Nd} {a : Nd} (h : tb.nodes = ndI :: a :: ndO :: r) (was : Was) : ∃ was', fitsS tb (f + 2) was 0 2 = some (true, was') := by
  by_cases hw : (0, 2) ∈ was
  · exact ⟨was, by rw [fitsS, if_pos (.inr hw)]⟩
  refine ⟨was ++ [(0, 2)], ?_⟩
  have h0 : 0 < tb.nodes.length := by rw [h]; simp
  have h2 : 2 < tb.nodes.length := by rw [h]; simp
  have g1 : tb.nodes[0] = ndI := by simp [h]
  have g2 : tb.nodes[2] = ndO := by simp [h]
  have o1 : openS tb (tb.nodes.length + 1) 0 = (0, true) := openS_self h0 (by rw [g1]; decide)
  have o2 : openS tb (tb.nodes.length + 1) 2 = (2, true) := openS_self h2 (by rw [g2]; decide)
  have hp : plan tb 0 2 = some [some (0, 0)] := by
    unfold plan
    rw [o1, o2]
    simp only [and_self, if_true]
    have e0 : tb.nodes.getD 0 zeroNd = ndI := by rw [h]; rfl
    have e2 : tb.nodes.getD 2 zeroNd = ndO := by rw [h]; rfl
    rw [e0, e2]
    simp [plan2]
  rw [fitsS, if_neg (by simp; exact hw), hp]
  simp only [asksS, fit_same]
def schU (xs : List Str) : Sch := ⟨tyU xs tyI, [], []⟩
def okU (l : List Bool) : Bool := let xs := xsOf l [0, 1, 2, 3, 4, 5, 6, 7]; xs.isEmpty || decide (checkS (schU xs) = 0)
theorem okU_all : ∀ a b c d e f g h : Bool, okU [a, b, c, d, e, f, g, h] = true := by decide +kernel
theorem newX (zs : List Int) (h0 : xsW zs 8 ≠ []) : newS (schU (xsW zs 8)) = (some ⟨[ndI, ndU (xsW zs 8) 0], [], 1, []⟩, 0) := by
  have h := okU_all (hasW zs 0) (hasW zs 1) (hasW zs 2) (hasW zs 3) (hasW zs 4) (hasW zs 5) (hasW zs 6) (hasW zs 7)
  unfold okU at h
  rw [← xs_eq] at h
  have h1 : checkS (schU (xsW zs 8)) = 0 := by
    simp only [Bool.or_eq_true, List.isEmpty_iff, decide_eq_true_eq] at h
    exact h.resolve_left h0
  rw [newS0 rfl rfl, if_neg (by rw [h1]; simp)]
  have h2 := nX h0 (xsW_len zs 8)
  show (if (addT (tyU (xsW zs 8) tyI) 400 emptyTb).2.2.1 ≠ 0 then _ else _) = _
  rw [h2]
  simp only [ne_eq, not_true_eq_false, if_false]
  show (some ({ (addT (tyU (xsW zs 8) tyI) 400 emptyTb).1 with main := (addT (tyU (xsW zs 8) tyI) 400 emptyTb).2.1 } : Tb), (0 : Int)) = _
  rw [h2]
theorem mem_xsW {zs : List Int} {c : Str} : ∀ m, c ∈ xsW zs m ↔ ∃ k, k < m ∧ hasW zs k = true ∧ c = [UInt8.ofNat (97 + k)]
  | 0 => by simp [xsW]
  | m + 1 => by
    have ih := @mem_xsW zs c m
    rw [xsW]
    by_cases h : hasW zs m = true
    · rw [if_pos h, List.mem_append, ih, List.mem_singleton]
      constructor
      · rintro (⟨k, a, b⟩ | e)
        · exact ⟨k, by omega, b⟩
        · exact ⟨m, by omega, h, e⟩
      · rintro ⟨k, a, b, e⟩
        by_cases hk : k = m
        · subst hk; exact .inr e
        · exact .inl ⟨k, by omega, b, e⟩
    · rw [if_neg h, ih]
      constructor
      · rintro ⟨k, a, b⟩
        exact ⟨k, by omega, b⟩
      · rintro ⟨k, a, b, e⟩
        by_cases hk : k = m
        · subst hk; exact absurd b h
        · exact ⟨k, by omega, b, e⟩
def allW (xs ys : List Int) : Nat → Bool
  | 0 => true
  | k + 1 => allW xs ys k && (!hasW xs k || hasW ys k)
theorem allW_iff (xs ys : List Int) : ∀ m, allW xs ys m = true ↔ ∀ k, k < m → hasW xs k = true → hasW ys k = true
  | 0 => by simp [allW]
  | m + 1 => by
    have ih := allW_iff xs ys m
    simp only [allW, Bool.and_eq_true, ih, Bool.or_eq_true, Bool.not_eq_true']
    constructor
    · rintro ⟨a, b⟩ k hk h
      by_cases e : k = m
      · subst e; rcases b with b | b
        · rw [h] at b; cases b
        · exact b
      · exact a k (by omega) h
    · intro a
      refine ⟨fun k hk h => a k (by omega) h, ?_⟩
      cases h : hasW xs m with
      | false => exact .inl rfl
      | true => exact .inr (a m (by omega) h)
theorem letters : ∀ i j : Fin 8, ([UInt8.ofNat (97 + i.1)] : Str) = [UInt8.ofNat (97 + j.1)] → i = j := by decide +kernel
theorem sub_iff (xs ys : List Int) : decide (∀ n ∈ xsW xs 8, n ∈ xsW ys 8) = allW xs ys 8 := by
  rw [Bool.eq_iff_iff, decide_eq_true_eq, allW_iff]
  constructor
  · intro h k hk hx
    obtain ⟨j, hj, hy, e⟩ := (mem_xsW 8).1 (h _ ((mem_xsW 8).2 ⟨k, hk, hx, rfl⟩))
    have := letters ⟨k, hk⟩ ⟨j, hj⟩ e
    injection this with this
    rw [this]; exact hy
  · intro h n hn
    obtain ⟨k, hk, hx, e⟩ := (mem_xsW 8).1 hn
    exact (mem_xsW 8).2 ⟨k, hk, h k hk hx, e⟩
theorem unions (xs ys : List Int) (wd : Bool) (h0 : xsW xs 8 ≠ []) (h1 : xsW ys 8 ≠ []) : ∃ tb id lf w, addT (tyU (xsW ys 8) (if wd = true then tyO else tyI)) 400 ⟨[ndI, ndU (xsW xs 8) 0], [], 1, []⟩ = (tb, id, 0, lf) ∧ tb.main = 1 ∧ 1 < tb.nodes.length ∧ id < tb.nodes.length ∧ fitsS tb 60 [] 1 id = some (allW xs ys 8, w) := by
  have l1 := xsW_len ys 8
  cases wd with
  | true =>
    rw [if_pos rfl, nYO h1 l1]
    obtain ⟨w, h⟩ := fit_union (tb := ⟨[ndI, ndU (xsW xs 8) 0, ndO, ndU (xsW ys 8) 2], [], 1, []⟩) (xs := xsW xs 8) (ys := xsW ys 8) (k := 2) (id := 3) (f := 59) rfl rfl (by simp) (by simp) (by decide) (fit_opt rfl)
    rw [sub_iff] at h
    exact ⟨_, _, _, w, rfl, rfl, by simp, by simp, h⟩
  | false =>
    rw [if_neg (by decide), nY h1 l1]
    by_cases e : xsW ys 8 = xsW xs 8
    · rw [if_pos e]
      refine ⟨_, _, _, [], rfl, rfl, by simp, by simp, ?_⟩
      rw [fit_same, ← sub_iff]
      congr 2
      exact (decide_eq_true fun n hn => by rw [e]; exact hn).symm
    · rw [if_neg e]
      obtain ⟨w, h⟩ := fit_union (tb := ⟨[ndI, ndU (xsW xs 8) 0, ndU (xsW ys 8) 0], [], 1, []⟩) (xs := xsW xs 8) (ys := xsW ys 8) (k := 0) (id := 2) (f := 59) rfl rfl (by simp) (by simp) (by decide) fun was => ⟨was, fit_same _ 58 was 0⟩
      rw [sub_iff] at h
      exact ⟨_, _, _, w, rfl, rfl, by simp, by simp, h⟩
end Eva
