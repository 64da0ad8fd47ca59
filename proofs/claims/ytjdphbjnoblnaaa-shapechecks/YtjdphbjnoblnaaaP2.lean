/- Arguments that are types, schemas: opened. A schema turned: one of its elements set. No condition. -/
import Derived.Test.YtjdphbjnoblnaaaP1
import Derived.ChangeArms
set_option linter.unusedVariables false
set_option linter.unusedSimpArgs false
set_option maxRecDepth 100000
namespace Eva
open Go Go.RowKit
section
variable {H : Type} {enc : TypeId × Value → H} {P : Program} {W : World} {ρ : Nat → Value}
structure TyTy (P : Program) (t ti tr tn tk : TypeId) : Prop where
 ty : ∃ f0 f1 f2 f3 : Field, P.underlying t = some (.struct #[f0, f1, f2, f3]) ∧ (f0.type = ti ∧ f0.offset = 0) ∧ (f1.type = tr ∧ f1.offset = 1) ∧ (f2.type = tn ∧ f2.offset = 2) ∧ (f3.type = tk ∧ f3.offset = 3)
 int : P.underlying ti = some (.int .i64)
 str : P.underlying tr = some .string
 names : P.underlying tn = some (.slice tr)
 kids : P.underlying tk = some (.slice t)
 ct : P.cellsOf t = 4
 ci : P.cellsOf ti = 1
 cr : P.cellsOf tr = 1
 cn : P.cellsOf tn = 1
 ck : P.cellsOf tk = 1
theorem opn_str {tr : TypeId} (hs : P.underlying tr = some .string) {fuel : Nat} {cs : List Value} {x : DataW H × List MemPlace} (h : DataW.trod enc P W 0 (fun _ => true) true fuel tr cs = some x) :
  ∃ s : ByteArray, cs = [.string s] ∧ OpnC ρ W cs fun _ e => e = [ofL s.data.toList] := by
 obtain ⟨s, e1, _, _⟩ := DataW.trod_string hs h
 exact ⟨s, e1, by rw [e1]; exact OpnC.const fun γ => ⟨_, _, rfl, ⟨s, rfl, rfl, rfl⟩, rfl⟩⟩
theorem strs_of {st : St} {u : V} {es : List (List V)} {ns : List Str} (h : SlAt (fun _ => True) st u 1 es) (hl : es.length = ns.length) (hk : ∀ i (h : i < es.length) (h' : i < ns.length), es[i] = [ofL ns[i]]) : SlAt (fun _ => True) st u 1 (strs ns) := by
 have : es = strs ns := by
  refine List.ext_getElem (by unfold strs; simp [hl]) fun i h1 h2 => ?_
  rw [hk i h1 (by omega)]
  unfold strs
  simp
 rw [← this]; exact h
theorem opn_ty {t ti tr tn tk : TypeId} (hT : TyTy P t ti tr tn tk) (h0 : 0 < W.heap.size) : ∀ (fuel : Nat),
  (∀ {cs : List Value} {x : DataW H × List MemPlace}, DataW.trod enc P W 0 (fun _ => true) true fuel t cs = some x → cs.length = 4 ∧ ∃ r : Ty, OpnC ρ W cs fun st e => TyC (fun _ => True) st e r) ∧
  (∀ {cs : List Value} {x : DataW H × List MemPlace}, DataW.trod enc P W 0 (fun _ => true) true fuel tk cs = some x → ∃ (v : Value) (rs : List Ty), cs = [v] ∧ OpnV ρ W v fun st u => TysAt (fun _ => True) st u rs) := by
 intro fuel
 induction fuel with
 | zero => exact ⟨fun h => by simp [DataW.trod] at h, fun h => by simp [DataW.trod] at h⟩
 | succ fuel ih =>
   refine ⟨fun {cs x} h => ?_, fun {cs x} h => ?_⟩
   ·obtain ⟨g0, g1, g2, g3, hraw, ⟨t0, o0⟩, ⟨t1, o1⟩, ⟨t2, o2⟩, ⟨t3, o3'⟩⟩ := hT.ty
    obtain ⟨xs, n, hn, _, hl, hxl, hf⟩ := DataW.trod_struct hraw h
    injection hn with hn
    subst hn
    rw [hT.ct] at hl
    refine ⟨hl, ?_⟩
    match cs, hl with
    | [c0, c1, c2, c3], _ =>
      have hx4 : xs.length = 4 := hxl
      match xs, hx4 with
      | [x0, x1, x2, x3], _ =>
        have f0 := hf 0 g0 rfl
        have f1 := hf 1 g1 rfl
        have f2 := hf 2 g2 rfl
        have f3 := hf 3 g3 rfl
        rw [t0, o0, hT.ci] at f0
        rw [t1, o1, hT.cr] at f1
        rw [t2, o2, hT.cn] at f2
        rw [t3, o3', hT.ck] at f3
        obtain ⟨k, e0, _, w0⟩ := DataW.trod_int hT.int f0
        obtain ⟨s, e1, os⟩ := opn_str (ρ := ρ) hT.str f1
        obtain ⟨v3, rs, e3, o3⟩ := ih.2 f3
        cases fuel with
        | zero => simp [DataW.trod] at f2
        | succ fuel =>
        obtain ⟨v2, ns, e2, o2⟩ := opn_sl (ρ := ρ) (z := 1) (by decide) hT.names hT.cr h0 (K := fun e _ (r : Str) => e = [ofL r]) (fun {cs x} k => by
         obtain ⟨s, e1, o⟩ := opn_str (ρ := ρ) hT.str k
         exact ⟨by rw [e1]; rfl, _, o.mono fun st e h => ⟨by rw [h]; rfl, h⟩⟩) f2
        injection e0 with e0
        injection e1 with e1
        injection e2 with e2
        injection e3 with e3
        subst e0; subst e1; subst e2; subst e3
        refine ⟨.mk k s.data.toList ns rs, ?_⟩
        have oc : OpnC ρ W [.int .i64 k, .string s] fun _ e => e = [.int .i64 k, ofL s.data.toList] := OpnC.const fun γ => ⟨_, _, rfl, rfl, _, _, rfl, ⟨s, rfl, rfl, rfl⟩, rfl⟩
        refine ((oc.append o2.cell).append o3.cell).mono fun st e ⟨a, b, h1, ⟨a1, a2, h2, h3, u2, h4, es2, h5, h6, _, h7⟩, u3, h8, es, k1, k2, k3⟩ => ?_
        rw [h1, h2, h3, h4, h8]
        exact .mk (strs_of h5 h6 h7) k1 k2 k3
   ·obtain ⟨v, rs, h1, h2⟩ := opn_sl (ρ := ρ) (z := 4) (by decide) hT.kids hT.ct h0 (K := fun e st (r : Ty) => TyC (fun _ => True) st e r) (fun {cs x} k => by
     obtain ⟨k3, r, k4⟩ := ih.1 k
     exact ⟨k3, r, k4.mono fun st e h => ⟨h.four, h⟩⟩) h
    exact ⟨v, rs, h1, h2.mono fun st u ⟨es, k1, k2, k3, k4⟩ => ⟨es, k1, k2, k4⟩⟩
structure SchTy (P : Program) (ts tts tgs tnm tsg : TypeId) (t ti tr tn tk : TypeId) : Prop where
 ty : TyTy P t ti tr tn tk
 sch : ∃ f0 f1 f2 : Field, P.underlying ts = some (.struct #[f0, f1, f2]) ∧ (f0.type = t ∧ f0.offset = 0) ∧ (f1.type = tts ∧ f1.offset = 4) ∧ (f2.type = tgs ∧ f2.offset = 5)
 nm : ∃ f0 f1 : Field, P.underlying tnm = some (.struct #[f0, f1]) ∧ (f0.type = tr ∧ f0.offset = 0) ∧ (f1.type = t ∧ f1.offset = 1)
 sg : ∃ f0 f1 f2 : Field, P.underlying tsg = some (.struct #[f0, f1, f2]) ∧ (f0.type = tr ∧ f0.offset = 0) ∧ (f1.type = tk ∧ f1.offset = 1) ∧ (f2.type = t ∧ f2.offset = 2)
 types : P.underlying tts = some (.slice tnm)
 sigs : P.underlying tgs = some (.slice tsg)
 c6 : P.cellsOf ts = 6
 cts : P.cellsOf tts = 1
 cgs : P.cellsOf tgs = 1
 c5 : P.cellsOf tnm = 5
 cs6 : P.cellsOf tsg = 6
theorem opn_nm {ts tts tgs tnm tsg t ti tr tn tk : TypeId} (hT : SchTy P ts tts tgs tnm tsg t ti tr tn tk) (h0 : 0 < W.heap.size) {fuel : Nat} {cs : List Value} {x : DataW H × List MemPlace} (h : DataW.trod enc P W 0 (fun _ => true) true fuel tnm cs = some x) :
  cs.length = 5 ∧ ∃ r : Str × Ty, OpnC ρ W cs fun st e => e.length = 5 ∧ NmC (fun _ => True) st e r := by
 obtain ⟨g0, g1, hraw, ⟨t0, o0⟩, ⟨t1, o1⟩⟩ := hT.nm
 obtain ⟨xs, n, hn, _, hl, hxl, hf⟩ := DataW.trod_struct hraw h
 rw [hT.c5] at hl
 refine ⟨hl, ?_⟩
 match cs, hl with
 | c0 :: cr, hl =>
   have hx2 : xs.length = 2 := hxl
   match xs, hx2 with
   | [x0, x1], _ =>
     have f0 := hf 0 g0 rfl
     have f1 := hf 1 g1 rfl
     rw [t0, o0, hT.ty.cr] at f0
     rw [t1, o1, hT.ty.ct] at f1
     obtain ⟨s, e0, os⟩ := opn_str (ρ := ρ) hT.ty.str f0
     obtain ⟨_, r, o2⟩ := (opn_ty (ρ := ρ) hT.ty h0 n).1 f1
     have hcr : (List.drop 1 (c0 :: cr)).take 4 = cr := by
      rw [List.drop_succ_cons, List.drop_zero, List.take_of_length_le (by simp at hl; omega)]
     rw [hcr] at o2
     have h0c : (List.drop 0 (c0 :: cr)).take 1 = [c0] := rfl
     rw [h0c] at os
     refine ⟨(s.data.toList, r), (os.append o2).mono fun st e ⟨a, b, h1, h2, h3⟩ => ?_⟩
     rw [h1, h2]
     exact ⟨by simp [h3.four], b, rfl, h3⟩
theorem opn_sg {ts tts tgs tnm tsg t ti tr tn tk : TypeId} (hT : SchTy P ts tts tgs tnm tsg t ti tr tn tk) (h0 : 0 < W.heap.size) {fuel : Nat} {cs : List Value} {x : DataW H × List MemPlace} (h : DataW.trod enc P W 0 (fun _ => true) true fuel tsg cs = some x) :
  cs.length = 6 ∧ ∃ r : Sg, OpnC ρ W cs fun st e => e.length = 6 ∧ SgC (fun _ => True) st e r := by
 obtain ⟨g0, g1, g2, hraw, ⟨t0, o0⟩, ⟨t1, o1⟩, ⟨t2, o2'⟩⟩ := hT.sg
 obtain ⟨xs, n, hn, _, hl, hxl, hf⟩ := DataW.trod_struct hraw h
 rw [hT.cs6] at hl
 refine ⟨hl, ?_⟩
 match cs, hl with
 | c0 :: c1 :: cr, hl =>
   have hx3 : xs.length = 3 := hxl
   match xs, hx3 with
   | [x0, x1, x2], _ =>
     have f0 := hf 0 g0 rfl
     have f1 := hf 1 g1 rfl
     have f2 := hf 2 g2 rfl
     rw [t0, o0, hT.ty.cr] at f0
     rw [t1, o1, hT.ty.ck] at f1
     rw [t2, o2', hT.ty.ct] at f2
     obtain ⟨s, e0, os⟩ := opn_str (ρ := ρ) hT.ty.str f0
     obtain ⟨v1, ps, e1, op⟩ := (opn_ty (ρ := ρ) hT.ty h0 n).2 f1
     obtain ⟨_, r, o2⟩ := (opn_ty (ρ := ρ) hT.ty h0 n).1 f2
     have hcr : (List.drop 2 (c0 :: c1 :: cr)).take 4 = cr := by
      rw [List.drop_succ_cons, List.drop_succ_cons, List.drop_zero, List.take_of_length_le (by simp at hl; omega)]
     rw [hcr] at o2
     have h0c : (List.drop 0 (c0 :: c1 :: cr)).take 1 = [c0] := rfl
     have h1c : (List.drop 1 (c0 :: c1 :: cr)).take 1 = [c1] := rfl
     rw [h0c] at os
     rw [h1c] at e1
     injection e1 with e1
     subst e1
     refine ⟨⟨s.data.toList, ps, r⟩, ((os.append op.cell).append o2).mono fun st e ⟨a, b, h1, ⟨a1, a2, h2, h3, u, h4, h5⟩, h6⟩ => ?_⟩
     rw [h1, h2, h3, h4]
     exact ⟨by simp [h6.four], u, b, rfl, h5, h6⟩
theorem ty_of {t ti tr tn tk : TypeId} (hT : TyTy P t ti tr tn tk) (h0 : 0 < W.heap.size) {r : Reach} {b0 : Nat} {v : Value} {d : DataW H} {p : List MemPlace} (hval : Value.okWide P W r b0 t v) (h : DataW.Trod enc P W 0 (fun _ => true) true t v d p) :
  ∃ q : Ty, OpnV ρ W v fun st u => ∃ e, u = .agg e ∧ TyC (fun _ => True) st e q := by
 obtain ⟨_, _, _, _, hraw, _⟩ := hT.ty
 obtain ⟨arr, rfl, _⟩ := WideShapes.okWide_struct hraw hval
 obtain ⟨fuel, hf⟩ := h
 obtain ⟨_, q, h1⟩ := (opn_ty (ρ := ρ) hT h0 fuel).1 hf
 refine ⟨q, ?_⟩
 have := h1.agg
 simpa [Value.cells] using this
theorem sch_of {ts tts tgs tnm tsg t ti tr tn tk : TypeId} (hT : SchTy P ts tts tgs tnm tsg t ti tr tn tk) (h0 : 0 < W.heap.size) {r : Reach} {b0 : Nat} {v : Value} {d : DataW H} {p : List MemPlace} (hval : Value.okWide P W r b0 ts v) (h : DataW.Trod enc P W 0 (fun _ => true) true ts v d p) :
  ∃ q : Sch, OpnV ρ W v fun st u => ∃ e, u = .agg e ∧ SchC (fun _ => True) st e q := by
 obtain ⟨g0, g1, g2, hraw, ⟨t0, o0⟩, ⟨t1, o1⟩, ⟨t2, o2'⟩⟩ := hT.sch
 obtain ⟨arr, rfl, _⟩ := WideShapes.okWide_struct hraw hval
 obtain ⟨fuel, hf0⟩ := h
 obtain ⟨xs, n, hn, _, hl, hxl, hf⟩ := DataW.trod_struct hraw hf0
 rw [hT.c6] at hl
 generalize hcs : (Value.agg arr).cells.toList = cs at hl hf
 match cs, hl with
 | [c0, c1, c2, c3, c4, c5], _ =>
   have hx3 : xs.length = 3 := hxl
   match xs, hx3 with
   | [x0, x1, x2], _ =>
     have f0 := hf 0 g0 rfl
     have f1 := hf 1 g1 rfl
     have f2 := hf 2 g2 rfl
     rw [t0, o0, hT.ty.ct] at f0
     rw [t1, o1, hT.cts] at f1
     rw [t2, o2', hT.cgs] at f2
     obtain ⟨_, q, om⟩ := (opn_ty (ρ := ρ) hT.ty h0 n).1 f0
     cases n with
     | zero => simp [DataW.trod] at f1
     | succ n =>
     obtain ⟨v1, l, e1, ot⟩ := opn_sl (ρ := ρ) (z := 5) (by decide) hT.types hT.c5 h0 (K := fun e st (r : Str × Ty) => NmC (fun _ => True) st e r) (fun {cs x} k => opn_nm hT h0 k) f1
     obtain ⟨v2, fs, e2, og⟩ := opn_sl (ρ := ρ) (z := 6) (by decide) hT.sigs hT.cs6 h0 (K := fun e st (r : Sg) => SgC (fun _ => True) st e r) (fun {cs x} k => opn_sg hT h0 k) f2
     injection e1 with e1
     injection e2 with e2
     subst e1; subst e2
     refine ⟨⟨q, l, fs⟩, ?_⟩
     have hall : OpnC ρ W [c0, c1, c2, c3, c4, c5] fun st e => SchC (fun _ => True) st e ⟨q, l, fs⟩ := by
      refine ((show OpnC ρ W [c0, c1, c2, c3] _ from om).append (ot.cell.append og.cell)).mono fun st e ⟨a, b, h1, h2, b1, b2, h3, ⟨u, h4, es, k1, k2, _, k3⟩, u', h5, es', l1, l2, _, l3⟩ => ?_
      rw [h1, h3, h4, h5]
      exact ⟨a, u, u', rfl, h2, ⟨es, k1, k2, k3⟩, ⟨es', l1, l2, l3⟩⟩
     rw [← hcs] at hall
     have := hall.agg
     simpa [Value.cells] using this
end
end Eva
namespace Eva
open Go Go.RowKit
theorem splice_left {e R vs : List V} {off : Nat} (h : off + vs.length ≤ e.length) : splice (e ++ R) off vs = splice e off vs ++ R := by
 rw [splice_def, splice_def, List.take_append_of_le_length (by omega), List.drop_append_of_le_length h]; simp only [List.append_assoc]
theorem splice_right {e R vs : List V} {m : Nat} : splice (e ++ R) (e.length + m) vs = e ++ splice R m vs := by
 rw [splice_def, splice_def, List.take_append, List.drop_append, List.take_of_length_le (by omega), List.drop_eq_nil_of_le (by omega)]
 rw [show e.length + m - e.length = m by omega, show e.length + m + vs.length - e.length = m + vs.length by omega]
 simp
theorem set_flat {z : Nat} : ∀ {es : List (List V)}, (∀ e ∈ es, e.length = z) → ∀ {k : Nat} (hk : k < es.length) {off : Nat} {vs : List V}, off + vs.length ≤ z → splice es.flatten (k * z + off) vs = (es.set k (splice es[k] off vs)).flatten
 | [], _, k, hk, _, _, _ => absurd hk (by simp)
 | e :: r, hz, k, hk, off, vs, ho => by
   have he := hz e (by simp)
   rw [List.flatten_cons]
   cases k with
   | zero =>
     rw [Nat.zero_mul, Nat.zero_add, splice_left (by omega)]
     rfl
   | succ k =>
     have ih := set_flat (es := r) (fun x hx => hz x (List.mem_cons_of_mem _ hx)) (k := k) (by simpa using hk) ho
     rw [show (k + 1) * z + off = e.length + (k * z + off) by rw [Nat.succ_mul, he]; omega, splice_right, ih]
     rfl
theorem slF_set {S0 S : St} {v : V} {z : Nat} {es : List (List V)} (h : SlF S0 S v z es) {k : Nat} (hk : k < es.length) :
  ∃ r t, rowOf v = some r ∧ S0.row r = .none ∧ S.row r = .cells t es.flatten ∧ iaddrSV z v (.int .i64 (k : Int)) = some (.ptr r (k * z), .no) ∧ es[k].length = z ∧
   ∀ (S' : St) (t' off : Nat) (vs : List V), off + vs.length ≤ z → S'.row r = .cells t' (splice es.flatten (k * z + off) vs) → SlF S0 S' v z (es.set k (splice es[k] off vs)) := by
 have hz := h.1
 rcases h.2 with ⟨_, rfl⟩ | ⟨r, t, h1, h2, h3⟩
 ·exact absurd hk (by simp)
 refine ⟨r, t, ?_, h1, h2, ?_, hz _ (List.getElem_mem hk), fun S' t' off vs ho hr => ⟨fun e he => ?_, .inr ⟨r, t', h1, ?_, ?_⟩⟩⟩
 ·rcases h3 with rfl | rfl <;> rfl
 ·rcases h3 with rfl | rfl
  ·rw [iaddrS_sl, if_pos (by omega)]; simp
  ·rw [iaddrS_slx, if_pos (by omega)]; simp
 ·rcases List.mem_or_eq_of_mem_set he with he | rfl
  ·exact hz e he
  ·rw [splice_def]
   have := hz _ (List.getElem_mem hk)
   simp
   omega
 ·rw [hr, set_flat hz hk ho]
 ·rw [List.length_set]; exact h3
section
variable {st S S' : St} {c : List V} {tv sv : V} {s : Sch}
theorem SchF.wrT (h : SchF st S c tv sv s) {r : Pt} (hr : rowOf tv = some r) (hS : ∀ q, q ≠ r → S.row q ≠ .none → S'.row q = S.row q) {es' : List (List V)} {l' : List (Str × Ty)} (hsl : SlF st S' tv 5 es') (hl : es'.length = l'.length)
  (hel : ∀ i (h : i < es'.length) (h' : i < l'.length), NmC (fun _ => True) S' es'[i] l'[i]) : SchC (fun _ => True) S' (c ++ [tv, sv]) ⟨s.main, l', s.sigs⟩ := by
 obtain ⟨m, _, ⟨gs, g1, g2, g3⟩, ap⟩ := h
 have k : ∀ q, Own st tv sv q → S.row q ≠ .none → True ∧ S'.row q = S.row q := fun q p e => ⟨trivial, hS q (fun e => p.2.1 (by rw [e]; exact hr)) e⟩
 refine ⟨c, tv, sv, rfl, m.imp k, ⟨es', hsl.at.imp fun _ _ _ => ⟨trivial, rfl⟩, hl, hel⟩, ⟨gs, (g1.keep (st' := S') fun q e => hS q (fun e2 => ap r hr (by rw [← e2]; exact e)) (g1.some e)).at.imp fun _ _ _ => ⟨trivial, rfl⟩, g2, fun i a b => (g3 i a b).imp k⟩⟩
theorem SchF.wrS (h : SchF st S c tv sv s) {r : Pt} (hr : rowOf sv = some r) (hS : ∀ q, q ≠ r → S.row q ≠ .none → S'.row q = S.row q) {es' : List (List V)} {l' : List Sg} (hsl : SlF st S' sv 6 es') (hl : es'.length = l'.length)
  (hel : ∀ i (h : i < es'.length) (h' : i < l'.length), SgC (fun _ => True) S' es'[i] l'[i]) : SchC (fun _ => True) S' (c ++ [tv, sv]) ⟨s.main, s.types, l'⟩ := by
 obtain ⟨m, ⟨es, t1, t2, t3⟩, _, ap⟩ := h
 have k : ∀ q, Own st tv sv q → S.row q ≠ .none → True ∧ S'.row q = S.row q := fun q p e => ⟨trivial, hS q (fun e => p.2.2 (by rw [e]; exact hr)) e⟩
 refine ⟨c, tv, sv, rfl, m.imp k, ⟨es, (t1.keep (st' := S') fun q e => hS q (fun e2 => ap q e (by rw [e2]; exact hr)) (t1.some e)).at.imp fun _ _ _ => ⟨trivial, rfl⟩, t2, fun i a b => (t3 i a b).imp k⟩, ⟨es', hsl.at.imp fun _ _ _ => ⟨trivial, rfl⟩, hl, hel⟩⟩
theorem SchF.wrM (h : SchF st S c tv sv s) {T : Ty} {c' : List V} (hS : ∀ q, st.row q = .none → S.row q ≠ .none → S'.row q = S.row q) (hT : TyC (fun _ => True) S' c' T) : SchC (fun _ => True) S' (c' ++ [tv, sv]) ⟨T, s.types, s.sigs⟩ := by
 obtain ⟨_, ⟨es, t1, t2, t3⟩, ⟨gs, g1, g2, g3⟩, _⟩ := h
 have k : ∀ q, Own st tv sv q → S.row q ≠ .none → True ∧ S'.row q = S.row q := fun q p e => ⟨trivial, hS q p.1 e⟩
 exact ⟨c', tv, sv, rfl, hT, ⟨es, (t1.keep (st' := S') fun q e => hS q (t1.row e).1 (t1.some e)).at.imp fun _ _ _ => ⟨trivial, rfl⟩, t2, fun i a b => (t3 i a b).imp k⟩, ⟨gs, (g1.keep (st' := S') fun q e => hS q (g1.row e).1 (g1.some e)).at.imp fun _ _ _ => ⟨trivial, rfl⟩, g2, fun i a b => (g3 i a b).imp k⟩⟩
theorem SchF.add (h : SchF st S c tv sv s) {v' : V} {es' : List (List V)} {l' : List (Str × Ty)} (hS : ∀ q, S.row q ≠ .none → rowOf tv ≠ some q → S'.row q = S.row q) (hsl : SlF st S' v' 5 es') (hl : es'.length = l'.length)
  (hel : ∀ i (h : i < es'.length) (h' : i < l'.length), NmC (fun _ => True) S' es'[i] l'[i]) : SchC (fun _ => True) S' (c ++ [v', sv]) ⟨s.main, l', s.sigs⟩ := by
 obtain ⟨m, _, ⟨gs, g1, g2, g3⟩, ap⟩ := h
 have k : ∀ q, Own st tv sv q → S.row q ≠ .none → True ∧ S'.row q = S.row q := fun q p e => ⟨trivial, hS q e p.2.1⟩
 exact ⟨c, v', sv, rfl, m.imp k, ⟨es', hsl.at.imp fun _ _ _ => ⟨trivial, rfl⟩, hl, hel⟩, ⟨gs, (g1.keep (st' := S') fun q e => hS q (g1.some e) fun e2 => ap q e2 e).at.imp fun _ _ _ => ⟨trivial, rfl⟩, g2, fun i a b => (g3 i a b).imp k⟩⟩
theorem SchF.gr (h : SchF st S c tv sv s) (g : Gr S S') : SchF st S' c tv sv s := by
 obtain ⟨m, ⟨es, t1, t2, t3⟩, ⟨gs, g1, g2, g3⟩, ap⟩ := h
 have k : ∀ q, Own st tv sv q → S.row q ≠ .none → Own st tv sv q ∧ S'.row q = S.row q := fun q p e => ⟨p, g.same q e⟩
 exact ⟨m.imp k, ⟨es, t1.gr g, t2, fun i a b => (t3 i a b).imp k⟩, ⟨gs, g1.gr g, g2, fun i a b => (g3 i a b).imp k⟩, ap⟩
end
theorem apartAll_cons (fr : Fr) (p : List Nat × List Nat) (r : List (List Nat × List Nat)) : apartAll fr (p :: r) = (apartAll fr [p] && apartAll fr r) := by simp only [apartAll, List.all_cons, List.all_nil, Bool.and_true]
theorem apart_four {fr : Fr} {a b c d : List Nat × List Nat} (h1 : apartAll fr [a] = true) (h2 : apartAll fr [b] = true) (h3 : apartAll fr [c] = true) (h4 : apartAll fr [d] = true) : apartAll fr [a, b, c, d] = true := by
 rw [apartAll_cons fr a [b, c, d], apartAll_cons fr b [c, d], apartAll_cons fr c [d], h1, h2, h3, h4]
 rfl
end Eva
