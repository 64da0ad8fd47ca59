/- What get, has, orelse answer. What functions answer: builtin ones. 'known' of chapter 8 is true, by its contracts. 'KindsOpts': what it answers. No condition. -/
import Derived.Test.YtlfnhkdeocbimaaQ3
set_option linter.unusedVariables false
set_option linter.unusedSimpArgs false
set_option maxRecDepth 100000
namespace Go.Proofs.Ytlfnhkdeocbimaa
open Eva Go.RowKit
set_option maxHeartbeats 2000000 in
theorem hasB {W : Pt → Prop} {st : St} {rt : Pt} {tb : Tb} {e : List V} {A : Nd} {args : List Nat} (hT : TabX st W rt tb) (h : AskC (fun r => ¬ W r) st rt e [A] args) :
  Does (tabT tabD) n_kinds_asker_builtin [.agg e, ofL [104, 97, 115]] st (Ans W st rt (baseR tb 1 (areS [6] [A]))) := by
 refine does_fn at_kinds_asker_builtin rfl ?_
 obtain ⟨n0, hn0⟩ : ∃ n, st.nx = up 0 n := ⟨_, up0 _⟩
 have hask := h
 obtain ⟨lv, av, es, rfl, h1, h2, h3, h4⟩ := h
 have c1 := h1.cells
 have c2 := h1.sc
 have c3 := h4.cells
 have c4 := h4.sc
 have hw := hT.1
 obtain ⟨p2, hp2⟩ : ∃ b, b = up 0 n0 := ⟨_, rfl⟩
 obtain ⟨S0, hS0⟩ : ∃ S0, S0 = (st.new fun t => .cells t [.ptr rt 0, lv, av]) := ⟨_, rfl⟩
 have G0 : Gr st S0 := by rw [hS0]; exact Gr.new hw (good_cells _)
 obtain ⟨t2, r2⟩ : ∃ t, S0.row p2 = .cells t [.ptr rt 0, lv, av] := ⟨_, by rw [hS0, hp2]; simp only [XZ, simprocAttr, hn0]; rfl⟩
 have h30 : ∀ i (h : i < es.length) (h' : i < ([A]).length), NdC (fun r => ¬ W r) S0 es[i] ([A])[i] := fun i a b => (h3 i a b).imp fun r p e => ⟨p, G0.same r e⟩
 obtain ⟨r, q, kv', a1, a2, a3, a4, a5, a6⟩ := nds_at (h1.gr G0) h2 h30 (i := 0) (by simp)
 have a1 : iaddrSV 4 lv (.int .i64 0) = some (.ptr r q, .no) := a1
 simp only [List.getElem_cons_zero] at a4 a6
 simp only [cf_kinds_asker_builtin, XY, simprocAttr]
 rw [wC_seq]; simp only [XY, simprocAttr, hn0, c1, c2, c3, c4]
 rw [← hS0, ← hp2]
 clear hS0
 rw [wC_seq]; simp only [XY, simprocAttr, r2, a1, a4]
 have w0 := G0.wf
 obtain ⟨n1, hn1⟩ : ∃ n, S0.nx = up 0 n := ⟨_, up0 _⟩
 have o2 := fun k => nes (ne_up w0 hn1 (ne_cells r2) k)
 simp only [XZ, simprocAttr, r2, hn1, o2, List.cons.injEq, and_false, false_and, and_true, true_and, List.cons_ne_nil, reduceCtorEq]
 obtain ⟨x0, hx0⟩ : ∃ b, b = up 0 n1 := ⟨_, rfl⟩
 obtain ⟨S1, hS1⟩ : ∃ S, S = (S0.new fun t => Row.cells t [V.int IntKind.i64 6]) := ⟨_, rfl⟩
 have G1 : Gr S0 S1 := by rw [hS1]; exact Gr.new w0 (good_cells _)
 obtain ⟨t3, r3⟩ : ∃ t, S1.row x0 = .cells t [.int .i64 6] := ⟨_, by rw [hS1, hx0]; simp only [XZ, simprocAttr, hn1]; rfl⟩
 rw [← hS1, ← hx0]
 clear hS1
 have hk : SlAt (fun _ => True) S1 (.slx x0 0 1 1 1) 1 (ints [6]) := SlAt.freshx (es := ints [6]) (t := t3) (by rw [r3]; rfl) trivial (ints_one _)
 have G01 := G0.trans G1
 have r2 := G1.cells r2
 refine wCall_marked (areC (wf_low G1.wf _) ((hask.gr G01).low _) (hk.low _) (by simp) (by simp)) ?_
 rintro _ S2 G2 rfl
 have G02 := G01.trans G2
 have r2 := G2.cells r2
 simp only [XZ, simprocAttr]
 refine wCall_markedC (W := W) G2.wf ((baseA 1 (areS [6] [A]) (TabX_lo (hT.gr G02) (wf_low G2.wf _)) ((hask.gr G02).low _)).mono fun v S h => ⟨h.1, h.2⟩) ?_
 rintro _ S3 lo C3 ⟨W3, T3, K3, rfl⟩
 simp only [XZ, simprocAttr]
 exact Ans.gr G02 ⟨C3, W3, TabX_lo T3 C3.wf, K3, rfl⟩
set_option maxHeartbeats 2000000 in
theorem addB {W : Pt → Prop} {st : St} {rt : Pt} {tb : Tb} {e : List V} {A B : Nd} {args : List Nat} (hT : TabX st W rt tb) (h : AskC (fun r => ¬ W r) st rt e [A, B] args) :
  Does (tabT tabD) n_kinds_asker_builtin [.agg e, ofL [97, 100, 100]] st (Ans W st rt (baseR tb 2 (areS [2, 2] [A, B]))) := by
 refine does_fn at_kinds_asker_builtin rfl ?_
 obtain ⟨n0, hn0⟩ : ∃ n, st.nx = up 0 n := ⟨_, up0 _⟩
 have hask := h
 obtain ⟨lv, av, es, rfl, h1, h2, h3, h4⟩ := h
 have c1 := h1.cells
 have c2 := h1.sc
 have c3 := h4.cells
 have c4 := h4.sc
 have hw := hT.1
 obtain ⟨p2, hp2⟩ : ∃ b, b = up 0 n0 := ⟨_, rfl⟩
 obtain ⟨S0, hS0⟩ : ∃ S0, S0 = (st.new fun t => .cells t [.ptr rt 0, lv, av]) := ⟨_, rfl⟩
 have G0 : Gr st S0 := by rw [hS0]; exact Gr.new hw (good_cells _)
 obtain ⟨t2, r2⟩ : ∃ t, S0.row p2 = .cells t [.ptr rt 0, lv, av] := ⟨_, by rw [hS0, hp2]; simp only [XZ, simprocAttr, hn0]; rfl⟩
 have h30 : ∀ i (h : i < es.length) (h' : i < ([A, B]).length), NdC (fun r => ¬ W r) S0 es[i] ([A, B])[i] := fun i a b => (h3 i a b).imp fun r p e => ⟨p, G0.same r e⟩
 obtain ⟨r, q, kv', a1, a2, a3, a4, a5, a6⟩ := nds_at (h1.gr G0) h2 h30 (i := 0) (by simp)
 have a1 : iaddrSV 4 lv (.int .i64 0) = some (.ptr r q, .no) := a1
 simp only [List.getElem_cons_zero] at a4 a6
 simp only [cf_kinds_asker_builtin, XY, simprocAttr]
 rw [wC_seq]; simp only [XY, simprocAttr, hn0, c1, c2, c3, c4]
 rw [← hS0, ← hp2]
 clear hS0
 rw [wC_seq]; simp only [XY, simprocAttr, r2, a1, a4]
 have w0 := G0.wf
 obtain ⟨n1, hn1⟩ : ∃ n, S0.nx = up 0 n := ⟨_, up0 _⟩
 have o2 := fun k => nes (ne_up w0 hn1 (ne_cells r2) k)
 simp only [XZ, simprocAttr, r2, hn1, o2, List.cons.injEq, and_false, false_and, and_true, true_and, List.cons_ne_nil, reduceCtorEq]
 obtain ⟨x0, hx0⟩ : ∃ b, b = up 0 n1 := ⟨_, rfl⟩
 obtain ⟨S1, hS1⟩ : ∃ S, S = (S0.new fun t => Row.cells t [V.int IntKind.i64 2, V.int IntKind.i64 2]) := ⟨_, rfl⟩
 have G1 : Gr S0 S1 := by rw [hS1]; exact Gr.new w0 (good_cells _)
 obtain ⟨t3, r3⟩ : ∃ t, S1.row x0 = .cells t [.int .i64 2, .int .i64 2] := ⟨_, by rw [hS1, hx0]; simp only [XZ, simprocAttr, hn1]; rfl⟩
 rw [← hS1, ← hx0]
 clear hS1
 have hk : SlAt (fun _ => True) S1 (.slx x0 0 2 1 2) 1 (ints [2, 2]) := SlAt.freshx (es := ints [2, 2]) (t := t3) (by rw [r3]; rfl) trivial (ints_one _)
 have G01 := G0.trans G1
 have r2 := G1.cells r2
 refine wCall_marked (areC (wf_low G1.wf _) ((hask.gr G01).low _) (hk.low _) (by simp) (by simp)) ?_
 rintro _ S2 G2 rfl
 have G02 := G01.trans G2
 have r2 := G2.cells r2
 simp only [XZ, simprocAttr]
 refine wCall_markedC (W := W) G2.wf ((baseA 2 (areS [2, 2] [A, B]) (TabX_lo (hT.gr G02) (wf_low G2.wf _)) ((hask.gr G02).low _)).mono fun v S h => ⟨h.1, h.2⟩) ?_
 rintro _ S3 lo C3 ⟨W3, T3, K3, rfl⟩
 simp only [XZ, simprocAttr]
 exact Ans.gr G02 ⟨C3, W3, TabX_lo T3 C3.wf, K3, rfl⟩
set_option maxHeartbeats 2000000 in
theorem lenB {W : Pt → Prop} {st : St} {rt : Pt} {tb : Tb} {e : List V} {A : Nd} {args : List Nat} (hT : TabX st W rt tb) (h : AskC (fun r => ¬ W r) st rt e [A] args) (hA : A.kind = 2) :
  Does (tabT tabD) n_kinds_asker_builtin [.agg e, ofL [108, 101, 110]] st (Ans W st rt (tb, 0, 17)) := by
 refine does_fn at_kinds_asker_builtin rfl ?_
 obtain ⟨n0, hn0⟩ : ∃ n, st.nx = up 0 n := ⟨_, up0 _⟩
 have hask := h
 obtain ⟨lv, av, es, rfl, h1, h2, h3, h4⟩ := h
 have c1 := h1.cells
 have c2 := h1.sc
 have c3 := h4.cells
 have c4 := h4.sc
 have hw := hT.1
 obtain ⟨p2, hp2⟩ : ∃ b, b = up 0 n0 := ⟨_, rfl⟩
 obtain ⟨S0, hS0⟩ : ∃ S0, S0 = (st.new fun t => .cells t [.ptr rt 0, lv, av]) := ⟨_, rfl⟩
 have G0 : Gr st S0 := by rw [hS0]; exact Gr.new hw (good_cells _)
 obtain ⟨t2, r2⟩ : ∃ t, S0.row p2 = .cells t [.ptr rt 0, lv, av] := ⟨_, by rw [hS0, hp2]; simp only [XZ, simprocAttr, hn0]; rfl⟩
 have h30 : ∀ i (h : i < es.length) (h' : i < ([A]).length), NdC (fun r => ¬ W r) S0 es[i] ([A])[i] := fun i a b => (h3 i a b).imp fun r p e => ⟨p, G0.same r e⟩
 obtain ⟨r, q, kv', a1, a2, a3, a4, a5, a6⟩ := nds_at (h1.gr G0) h2 h30 (i := 0) (by simp)
 have a1 : iaddrSV 4 lv (.int .i64 0) = some (.ptr r q, .no) := a1
 simp only [List.getElem_cons_zero, hA] at a4 a6
 simp only [cf_kinds_asker_builtin, XY, simprocAttr]
 rw [wC_seq]; simp only [XY, simprocAttr, hn0, c1, c2, c3, c4]
 rw [← hS0, ← hp2]
 clear hS0
 rw [wC_seq]; simp only [XY, simprocAttr, r2, a1, a4]
 have w0 := G0.wf
 obtain ⟨n1, hn1⟩ : ∃ n, S0.nx = up 0 n := ⟨_, up0 _⟩
 have o2 := fun k => nes (ne_up w0 hn1 (ne_cells r2) k)
 simp only [XZ, simprocAttr, r2, hn1, o2, List.cons.injEq, and_false, false_and, and_true, true_and, List.cons_ne_nil, reduceCtorEq]
 refine wCall_plain (baseA 2 false (hT.gr G0) (hask.gr G0)) ?_
 rintro _ S3 ⟨C3, W3, T3, K3, rfl⟩
 simp only [XZ, simprocAttr]
 exact Ans.gr G0 ⟨C3, W3, T3, K3, rfl⟩
set_option maxHeartbeats 2000000 in
theorem orB {W : Pt → Prop} {st : St} {rt : Pt} {tb : Tb} {e : List V} {A B : Nd} {a0 a1 kid : Nat} (hT : TabX st W rt tb) (h : AskC (fun r => ¬ W r) st rt e [A, B] [a0, a1]) (hA : A.kind = 6) (hk' : A.kids = [kid]) :
  Does (tabT tabD) n_kinds_asker_builtin [.agg e, ofL [111, 114, 101, 108, 115, 101]] st (Ans W st rt (if a1 = kid then (tb, kid, 0) else (tb, 0, 17))) := by
 refine does_fn at_kinds_asker_builtin rfl ?_
 obtain ⟨n0, hn0⟩ : ∃ n, st.nx = up 0 n := ⟨_, up0 _⟩
 have hask := h
 obtain ⟨lv, av, es, rfl, h1, h2, h3, h4⟩ := h
 have c1 := h1.cells
 have c2 := h1.sc
 have c3 := h4.cells
 have c4 := h4.sc
 have hw := hT.1
 obtain ⟨p2, hp2⟩ : ∃ b, b = up 0 n0 := ⟨_, rfl⟩
 obtain ⟨S0, hS0⟩ : ∃ S0, S0 = (st.new fun t => .cells t [.ptr rt 0, lv, av]) := ⟨_, rfl⟩
 have G0 : Gr st S0 := by rw [hS0]; exact Gr.new hw (good_cells _)
 obtain ⟨t2, r2⟩ : ∃ t, S0.row p2 = .cells t [.ptr rt 0, lv, av] := ⟨_, by rw [hS0, hp2]; simp only [XZ, simprocAttr, hn0]; rfl⟩
 have h30 : ∀ i (h : i < es.length) (h' : i < ([A, B]).length), NdC (fun r => ¬ W r) S0 es[i] ([A, B])[i] := fun i a b => (h3 i a b).imp fun r p e => ⟨p, G0.same r e⟩
 obtain ⟨r, q, kv', a1', a2, a3, a4, a5, a6⟩ := nds_at (h1.gr G0) h2 h30 (i := 0) (by simp)
 have a1' : iaddrSV 4 lv (.int .i64 0) = some (.ptr r q, .no) := a1'
 simp only [List.getElem_cons_zero] at a4 a6
 simp only [cf_kinds_asker_builtin, XY, simprocAttr]
 rw [wC_seq]; simp only [XY, simprocAttr, hn0, c1, c2, c3, c4]
 rw [← hS0, ← hp2]
 clear hS0
 rw [wC_seq]; simp only [XY, simprocAttr, r2, a1', a4]
 have w0 := G0.wf
 obtain ⟨n1, hn1⟩ : ∃ n, S0.nx = up 0 n := ⟨_, up0 _⟩
 have o2 := fun k => nes (ne_up w0 hn1 (ne_cells r2) k)
 simp only [XZ, simprocAttr, r2, hn1, o2, List.cons.injEq, and_false, false_and, and_true, true_and, List.cons_ne_nil, reduceCtorEq]
 obtain ⟨x0, hx0⟩ : ∃ b, b = up 0 n1 := ⟨_, rfl⟩
 obtain ⟨S1, hS1⟩ : ∃ S, S = (S0.new fun t => Row.cells t [V.int IntKind.i64 6]) := ⟨_, rfl⟩
 have G1 : Gr S0 S1 := by rw [hS1]; exact Gr.new w0 (good_cells _)
 obtain ⟨t3, r3⟩ : ∃ t, S1.row x0 = .cells t [.int .i64 6] := ⟨_, by rw [hS1, hx0]; simp only [XZ, simprocAttr, hn1]; rfl⟩
 rw [← hS1, ← hx0]
 clear hS1
 have hk : SlAt (fun _ => True) S1 (.slx x0 0 1 1 1) 1 (ints [6]) := SlAt.freshx (es := ints [6]) (t := t3) (by rw [r3]; rfl) trivial (ints_one _)
 have G01 := G0.trans G1
 have r2 := G1.cells r2
 refine wCall_marked (areC (wf_low G1.wf _) ((hask.gr G01).low _) (hk.low _) (by simp) (by simp)) ?_
 rintro _ S2 G2 rfl
 have G02 := G01.trans G2
 have r2 := G2.cells r2
 have hare : areS [6] [A, B] = true := by unfold areS; simp [hA]
 rw [hare]
 have a6 := a6.gr (G1.trans G2)
 rw [hk'] at a6
 have klen := a6.len
 have klen : lenLV kv' = some (.int .i64 1, .no) := klen
 obtain ⟨r4, q4, b1, b2, b3, b4⟩ := SlAt.one (xs := [V.int .i64 (kid : Int)]) (i := 0) a6 (by simp)
 have b1 : iaddrSV 1 kv' (.int .i64 0) = some (.ptr r4 q4, .no) := b1
 simp only [List.getElem_cons_zero] at b4
 obtain ⟨r5, q5, d1, d2, d3, d4⟩ := SlAt.one (xs := [V.int .i64 (a0 : Int), V.int .i64 (a1 : Int)]) (i := 1) (h4.gr G02) (by simp)
 have d1 : iaddrSV 1 av (.int .i64 1) = some (.ptr r5 q5, .no) := d1
 simp only [List.getElem_cons_zero, List.getElem_cons_succ] at d4
 have a5 : ld1 (S2.row r) (q + 3) = some (kv', .no) := by rw [(G1.trans G2).same r a3]; exact a5
 by_cases hq : a1 = kid
 ·have hq' : ((a1 : Int) = (kid : Int)) = True := eq_true (by omega)
  simp only [XZ, simprocAttr, r2, a1', a5, klen, b1, b4, d1, d4, hq']
  refine wCall_marked (kidA true (wf_low G2.wf _) ((hask.gr G02).low _) (by simp)) ?_
  rintro _ S3 G3 rfl
  have hks : kidS8 [A, B] true = (kid, 0) := by unfold kidS8; rw [List.headD_cons, hk']
  rw [hks]
  simp only [XZ, simprocAttr, hq]
  exact Ans.same hT (G02.trans G3)
 ·have hq' : ((a1 : Int) = (kid : Int)) = False := eq_false (by omega)
  simp only [XZ, simprocAttr, r2, a1', a5, klen, b1, b4, d1, d4, hq']
  refine wCall_marked (kidA false (wf_low G2.wf _) ((hask.gr G02).low _) (by simp)) ?_
  rintro _ S3 G3 rfl
  have hks : kidS8 [A, B] false = (0, 17) := rfl
  rw [hks]
  simp only [XZ, simprocAttr, hq]
  exact Ans.same hT (G02.trans G3)
theorem optA {W : Pt → Prop} {st : St} {rt : Pt} {tb : Tb} (id : Nat) (hT : TabX st W rt tb) :
  Does (tabT tabD) n_cons_Table_Opt [.ptr rt 0, .int .i64 id] st (Ans W st rt (layS tb ⟨6, [], [], [id]⟩)) := by
 obtain ⟨hw, F, hT⟩ := hT
 refine (optC id hw hT).mono ?_
 rintro v S ⟨c, ⟨W', F', b1, b2, b3, T'⟩, rfl⟩
 exact ⟨c, W', ⟨c.wf, F', T'⟩, b2, rfl⟩
theorem openA {W : Pt → Prop} {st : St} {rt : Pt} {tb : Tb} {id o : Nat} (hT : TabX st W rt tb) (ho : openS tb (tb.nodes.length + 1) id = (o, true)) :
  Does (tabT tabD) n_cons_Table_Open [.ptr rt 0, .int .i64 id] st fun v S => v = .tup [.int .i64 (o : Nat), .bool true] ∧ st = S := by
 obtain ⟨hw, F, hT⟩ := hT
 have := openC (id := id) hw hT
 rw [ho] at this
 exact this
def getR (tb : Tb) (kid o : Nat) : Tb × Nat × Int := if (tb.nodes.getD o ⟨0, [], [], []⟩).kind = 6 then (tb, 0, 17) else layS tb ⟨6, [], [], [kid]⟩
set_option maxHeartbeats 2000000 in
theorem getA {W : Pt → Prop} {st : St} {rt : Pt} {tb : Tb} {e : List V} {A B : Nd} {args : List Nat} {kid o : Nat} (hT : TabX st W rt tb) (h : AskC (fun r => ¬ W r) st rt e [A, B] args) (hA : A.kind = 5) (hB : B.kind = 3) (hk' : A.kids = [kid]) (ho : openS tb (tb.nodes.length + 1) kid = (o, true)) (hol : o < tb.nodes.length) :
  Does (tabT tabD) n_kinds_asker_get [.agg e] st (Ans W st rt (getR tb kid o)) := by
 refine does_fn at_kinds_asker_get rfl ?_
 obtain ⟨n0, hn0⟩ : ∃ n, st.nx = up 0 n := ⟨_, up0 _⟩
 have hask := h
 obtain ⟨lv, av, es, rfl, h1, h2, h3, h4⟩ := h
 have c1 := h1.cells
 have c2 := h1.sc
 have c3 := h4.cells
 have c4 := h4.sc
 have hw := hT.1
 obtain ⟨p1, hp1⟩ : ∃ b, b = up 0 n0 := ⟨_, rfl⟩
 simp only [cf_kinds_asker_get, XY, simprocAttr]
 rw [wC_seq]; simp only [XY, simprocAttr, hn0, c1, c2, c3, c4]
 obtain ⟨S0, hS0⟩ : ∃ S0, S0 = (st.new fun t => .cells t [.ptr rt 0, lv, av]) := ⟨_, rfl⟩
 have G0 : Gr st S0 := by rw [hS0]; exact Gr.new hw (good_cells _)
 obtain ⟨t2, r2⟩ : ∃ t, S0.row p1 = .cells t [.ptr rt 0, lv, av] := ⟨_, by rw [hS0, hp1]; simp only [XZ, simprocAttr, hn0]; rfl⟩
 rw [← hS0, ← hp1]
 clear hS0
 have w0 := G0.wf
 obtain ⟨n1, hn1⟩ : ∃ n, S0.nx = up 0 n := ⟨_, up0 _⟩
 have o2 := fun k => nes (ne_up w0 hn1 (ne_cells r2) k)
 rw [wC_seq]; simp only [XY, simprocAttr, r2, hn1, o2]
 obtain ⟨x0, hx0⟩ : ∃ b, b = up 0 n1 := ⟨_, rfl⟩
 obtain ⟨S1, hS1⟩ : ∃ S, S = (S0.new fun t => Row.cells t [V.int IntKind.i64 5, V.int IntKind.i64 3]) := ⟨_, rfl⟩
 have G1 : Gr S0 S1 := by rw [hS1]; exact Gr.new w0 (good_cells _)
 obtain ⟨t3, r3⟩ : ∃ t, S1.row x0 = .cells t [.int .i64 5, .int .i64 3] := ⟨_, by rw [hS1, hx0]; simp only [XZ, simprocAttr, hn1]; rfl⟩
 rw [← hS1, ← hx0]
 clear hS1
 have hk : SlAt (fun _ => True) S1 (.slx x0 0 2 1 2) 1 (ints [5, 3]) := SlAt.freshx (es := ints [5, 3]) (t := t3) (by rw [r3]; rfl) trivial (ints_one _)
 have G01 := G0.trans G1
 have r2 := G1.cells r2
 refine wCall_marked (areC (wf_low G1.wf _) ((hask.gr G01).low _) (hk.low _) (by simp) (by simp)) ?_
 rintro _ S2 G2 rfl
 have G02 := G01.trans G2
 have r2 := G2.cells r2
 have hare : areS [5, 3] [A, B] = true := by unfold areS; simp [hA, hB]
 rw [hare]
 simp only [XY, simprocAttr]
 refine wCall_marked (kidA true (wf_low G2.wf _) ((hask.gr G02).low _) (by simp)) ?_
 rintro _ S3 G3 rfl
 have hks : kidS8 [A, B] true = (kid, 0) := by unfold kidS8; rw [List.headD_cons, hk']
 rw [hks]
 have G03 := G02.trans G3
 have r2 := G3.cells r2
 have T3 := hT.gr G03
 simp only [XY, simprocAttr]
 rw [wC_seqj, wC_seq]; simp only [XY, simprocAttr]
 rw [wC_seq]; simp only [XY, simprocAttr, r2]
 refine wCall_plain (openA T3 ho) ?_
 rintro _ _ ⟨rfl, rfl⟩
 simp only [XY, simprocAttr]
 rw [wC_seqj, wC_seq]; simp only [XY, simprocAttr, r2]
 refine wCall_plain (nodeX T3 hol) ?_
 rintro _ S4 ⟨T4, g4, e', rfl, nvc, kvc, rfl, hc1, hc2⟩
 have q1 := hc1.cells
 have q2 := hc1.sc
 have q3 := hc2.cells
 have q4 := hc2.sc
 have r2 := g4.cells r2
 obtain ⟨N, hN⟩ : ∃ N, N = tb.nodes[o] := ⟨_, rfl⟩
 rw [← hN]
 obtain ⟨n4, hn4⟩ : ∃ n, S4.nx = up 0 n := ⟨_, up0 _⟩
 have o4 := fun k => nes (ne_up T4.1 hn4 (ne_cells r2) k)
 obtain ⟨S5, hS5⟩ : ∃ Sb, Sb = ((S4.new fun t => .cells t [.int .i64 0, ofL [], .snil, .snil]).wr (up 0 n4) S4.t fun u => .cells u [.int .i64 N.kind, ofL N.name, nvc, kvc]) := ⟨_, rfl⟩
 have g5 : Gr S4 S5 := by rw [hS5]; exact (Gr.refl T4.1).nw hn4 (good_cells _) (good_cells _)
 obtain ⟨t5, r5⟩ : ∃ t, S5.row (up 0 n4) = .cells t [.int .i64 N.kind, ofL N.name, nvc, kvc] := ⟨_, by rw [hS5]; simp only [XZ, simprocAttr, hn4]; rfl⟩
 have r2 := g5.cells r2
 have G05 := (G03.trans g4).trans g5
 simp only [XY, simprocAttr, hn4, q1, q2, q3, q4]
 rw [← hS5]
 have hget : getR tb kid o = if N.kind = 6 then (tb, 0, 17) else layS tb ⟨6, [], [], [kid]⟩ := by unfold getR; rw [List.getD_eq_getElem?_getD, List.getElem?_eq_getElem hol, hN]; rfl
 rw [hget]
 by_cases h6 : N.kind = 6
 ·rw [if_pos h6]
  simp only [XZ, simprocAttr, r5, h6]
  exact Ans.same hT G05
 ·rw [if_neg h6]
  rw [wC_seq]; simp only [XY, simprocAttr, r5, h6]
  rw [wC_seq]; simp only [XY, simprocAttr, r2]
  refine wCall_plain (optA kid (hT.gr G05)) ?_
  rintro _ S6 ⟨C6, W6, T6, K6, rfl⟩
  simp only [XZ, simprocAttr]
  exact Ans.gr G05 ⟨C6, W6, T6, K6, rfl⟩
set_option maxHeartbeats 2000000 in
theorem getB {W : Pt → Prop} {st : St} {rt : Pt} {tb : Tb} {e : List V} {A B : Nd} {args : List Nat} {kid o : Nat} (hT : TabX st W rt tb) (h : AskC (fun r => ¬ W r) st rt e [A, B] args) (hA : A.kind = 5) (hB : B.kind = 3) (hk' : A.kids = [kid]) (ho : openS tb (tb.nodes.length + 1) kid = (o, true)) (hol : o < tb.nodes.length) :
  Does (tabT tabD) n_kinds_asker_builtin [.agg e, ofL [103, 101, 116]] st (Ans W st rt (getR tb kid o)) := by
 refine does_fn at_kinds_asker_builtin rfl ?_
 obtain ⟨n0, hn0⟩ : ∃ n, st.nx = up 0 n := ⟨_, up0 _⟩
 have hask := h
 obtain ⟨lv, av, es, rfl, h1, h2, h3, h4⟩ := h
 have c1 := h1.cells
 have c2 := h1.sc
 have c3 := h4.cells
 have c4 := h4.sc
 have hw := hT.1
 obtain ⟨p2, hp2⟩ : ∃ b, b = up 0 n0 := ⟨_, rfl⟩
 obtain ⟨S0, hS0⟩ : ∃ S0, S0 = (st.new fun t => .cells t [.ptr rt 0, lv, av]) := ⟨_, rfl⟩
 have G0 : Gr st S0 := by rw [hS0]; exact Gr.new hw (good_cells _)
 obtain ⟨t2, r2⟩ : ∃ t, S0.row p2 = .cells t [.ptr rt 0, lv, av] := ⟨_, by rw [hS0, hp2]; simp only [XZ, simprocAttr, hn0]; rfl⟩
 have h30 : ∀ i (h : i < es.length) (h' : i < ([A, B]).length), NdC (fun r => ¬ W r) S0 es[i] ([A, B])[i] := fun i a b => (h3 i a b).imp fun r p e => ⟨p, G0.same r e⟩
 obtain ⟨r, q, kv', a1, a2, a3, a4, a5, a6⟩ := nds_at (h1.gr G0) h2 h30 (i := 0) (by simp)
 have a1 : iaddrSV 4 lv (.int .i64 0) = some (.ptr r q, .no) := a1
 simp only [List.getElem_cons_zero] at a4 a6
 simp only [cf_kinds_asker_builtin, XY, simprocAttr]
 rw [wC_seq]; simp only [XY, simprocAttr, hn0, c1, c2, c3, c4]
 rw [← hS0, ← hp2]
 clear hS0
 rw [wC_seq]; simp only [XY, simprocAttr, r2, a1, a4]
 simp only [XZ, simprocAttr, r2, List.cons.injEq, and_false, false_and, and_true, true_and, List.cons_ne_nil, reduceCtorEq]
 refine wCall_plain (getA (hT.gr G0) (hask.gr G0) hA hB hk' ho hol) ?_
 rintro _ S1 ⟨C1, W1, T1, K1, rfl⟩
 simp only [XZ, simprocAttr]
 exact Ans.gr G0 ⟨C1, W1, T1, K1, rfl⟩
def Opened (tb : Tb) (args : List Nat) (nds : List Nd) : Prop := args.length = nds.length ∧ ∀ i (h : i < args.length) (h' : i < nds.length), ∃ o, openS tb (tb.nodes.length + 1) args[i] = (o, true) ∧ tb.nodes[o]? = some nds[i]
theorem Opened.nil (tb : Tb) : Opened tb [] [] := ⟨rfl, fun i h => absurd h (by simp)⟩
theorem Opened.cons {tb : Tb} {a o : Nat} {n : Nd} {args : List Nat} {nds : List Nd} (h : Opened tb args nds) (ho : openS tb (tb.nodes.length + 1) a = (o, true)) (hn : tb.nodes[o]? = some n) : Opened tb (a :: args) (n :: nds) := by
 obtain ⟨h1, h2⟩ := h
 refine ⟨by simp [h1], fun i hi hi' => ?_⟩
 cases i with
 | zero => exact ⟨o, ho, hn⟩
 | succ i => exact h2 i (by simpa using hi) (by simpa using hi')
set_option maxHeartbeats 4000000 in
theorem ofB {W : Pt → Prop} {st : St} {rt : Pt} {tb : Tb} {nm : Str} {av : V} {args : List Nat} {nds : List Nd} {x : Tb × Nat × Int} (hT : TabX st W rt tb) (hs : sigI tb nm = none) (hb : (identB nm && Lib.contains builtins (32 :: (nm ++ [32]))) = true)
  (hmany : ∀ S, Does (tabT tabD) n_kinds_many [ofL nm] S fun v S' => v = .int .i64 (args.length : Nat) ∧ S = S') (hlen : args.length ≤ 8) (hav : SlAt (fun r => ¬ W r) st av 1 (ints args)) (hop : Opened tb args nds)
  (hB : ∀ (S : St) (e : List V), Gr st S → AskC (fun r => ¬ W r) S rt e nds args → Does (tabT tabD) n_kinds_asker_builtin [.agg e, ofL nm] S (Ans W S rt x)) :
  Does (tabT tabD) n_kinds_Of [.ptr rt 0, ofL nm, av] st (Ans W st rt x) := by
 refine does_fn at_kinds_Of rfl ?_
 obtain ⟨hnl, hopn⟩ := hop
 have len := hav.len
 rw [ints_len] at len
 have hl0 : lenLV .snil = some (.int .i64 0, .no) := rfl
 simp only [cf_kinds_Of, XY, simprocAttr]
 rw [wC_seq]; simp only [XY, simprocAttr]
 rw [wC_seq]; simp only [XY, simprocAttr]
 refine wCall_plain (sigN nm hT hs) ?_
 rintro _ _ ⟨rfl, rfl⟩
 simp only [XY, simprocAttr]
 rw [wC_seq]; simp only [XY, simprocAttr, hl0]
 rw [wC_seqj]; simp only [XY, simprocAttr]
 rw [wC_seq]; simp only [XY, simprocAttr]
 refine wCall_plain (builtinC nm st hT.1) ?_
 rintro _ S1 ⟨G1, rfl⟩
 rw [hb]
 simp only [XY, simprocAttr]
 refine wCall_plain (hmany S1) ?_
 rintro _ _ ⟨rfl, rfl⟩
 simp only [XY, simprocAttr]
 rw [wC_seqj, wC_seq]; simp only [XY, simprocAttr, len]
 rw [wC_seqj, wC_seq]; simp only [XY, simprocAttr]
 refine wCall_plain (builtinC nm S1 G1.wf) ?_
 rintro _ S2 ⟨G2, rfl⟩
 rw [hb]
 have G02 := G1.trans G2
 have hav2 := hav.gr G02
 have s1 := hav.sc
 have s2 := hav.cells
 obtain ⟨n2, hn2⟩ : ∃ n, S2.nx = up 0 n := ⟨_, up0 _⟩
 simp only [XY, simprocAttr]
 rw [wC_seq]; simp only [XY, simprocAttr, hn2, s1, s2]
 obtain ⟨b7, hb7⟩ : ∃ b, b = up 0 n2 := ⟨_, rfl⟩
 obtain ⟨S3, hS3⟩ : ∃ S, S = ((S2.new fun t => .cells t [.pnil, .snil, .snil]).wr (up 0 n2) S2.t fun u => .cells u [.ptr rt 0, .snil, av]) := ⟨_, rfl⟩
 have g3 : Gr S2 S3 := by rw [hS3]; exact (Gr.refl G02.wf).nw hn2 (good_cells _) (good_cells _)
 obtain ⟨t7, r7⟩ : ∃ t, S3.row b7 = .cells t [.ptr rt 0, .snil, av] := ⟨_, by rw [hS3, hb7]; simp only [XZ, simprocAttr, hn2]; rfl⟩
 have e72 : S2.row b7 = .none := by rw [hb7]; exact nx0 G02.wf hn2 0
 rw [← hS3, ← hb7]
 clear hS3
 have gs3 := G02.trans g3
 have e7 : st.row b7 = .none := Ch.fresh (Ch.of (fun _ => False) G02) e72
 obtain ⟨B, hB'⟩ : ∃ B : Pt → Prop, ∀ r, B r ↔ (st.row r ≠ .none ∨ r = b7) := ⟨_, fun _ => Iff.rfl⟩
 have B7 : B b7 := (hB' _).2 (.inr rfl)
 have B3 : ∀ r, B r → S3.row r ≠ .none := fun r h => by
  rcases (hB' _).1 h with h | h
  ·rw [gs3.same r h]; exact h
  ·rw [h]; exact ne_cells r7
 refine wC_cut (fun fr S => ∃ kv' t, fr 1 = ofL nm ∧ fr 16 = .ptr b7 0 ∧ LsF NdC st S3 B 4 S kv' nds ∧ S.row b7 = .cells t [.ptr rt 0, kv', av]) ?_ ?_
 ·rw [wC_seq]; simp only [XY, simprocAttr, len]
  obtain ⟨L, hL⟩ : ∃ L : Nat → Fr → St → Prop, ∀ j fr S, L j fr S ↔ ∃ (i : Nat) (kv' : V) (t : Nat), j + i = args.length ∧ fr 0 = .ptr rt 0 ∧ fr 1 = ofL nm ∧ fr 16 = .ptr b7 0 ∧ fr 73 = av ∧ fr 74 = .int .i64 args.length ∧ fr 75 = .int .i64 i ∧ LsF NdC st S3 B 4 S kv' (nds.take i) ∧ S.row b7 = .cells t [.ptr rt 0, kv', av] := ⟨_, fun _ _ _ => Iff.rfl⟩
  refine wC_loop L args.length (by omega) ((hL _ _ _).2 ⟨0, .snil, t7, by omega, by simp only [XZ, simprocAttr], by simp only [XZ, simprocAttr], by simp only [XZ, simprocAttr], by simp only [XZ, simprocAttr], by simp only [XZ, simprocAttr], by simp only [XZ, simprocAttr] <;> rfl, LsF.nil gs3, r7⟩) ?_
  intro j fr S hLj
  obtain ⟨i, kv', t, hj, f0, f1, f16, f73, f74, f75, hF, r7⟩ := (hL _ _ _).1 hLj
  by_cases hi : i < args.length
  rotate_left
  ·have hi' : ¬ (i : Int) < args.length := by omega
   simp only [XZ, simprocAttr, f74, f75, hi']
   rw [List.take_of_length_le (by omega)] at hF
   exact ⟨kv', t, f1, f16, hF, r7⟩
  have hi' : (i : Int) < args.length := by omega
  have hin : i < nds.length := by omega
  have hadd1 : IntKind.i64.wrap ((i : Int) + 1) = ((i + 1 : Nat) : Int) := by rw [i64_in (by omega) (by omega)]; rfl
  obtain ⟨o, ho, hnd⟩ := hopn i hi hin
  obtain ⟨hol, hne⟩ := List.getElem?_eq_some_iff.1 hnd
  obtain ⟨ra, oa, o1, o2, o3, o4⟩ := SlAt.one (xs := args.map fun n : Nat => V.int .i64 (n : Int)) (i := i) (hav.gr hF.g) (by simpa using hi)
  simp only [List.getElem_map] at o4
  have TS := hT.gr hF.g
  rw [wC_seq]; simp only [XY, simprocAttr, f74, f75, hi']
  rw [wC_seqj]; simp only [XY, simprocAttr]
  rw [wC_seqj]; simp only [XY, simprocAttr]
  rw [wC_seq]; simp only [XY, simprocAttr, f73, f75, o1, o4]
  rw [wC_seq]; simp only [XY, simprocAttr, f0]
  refine wCall_plain (openA TS ho) ?_
  rintro _ _ ⟨rfl, rfl⟩
  simp only [XY, simprocAttr]
  rw [wC_seq]; simp only [XY, simprocAttr, f0]
  obtain ⟨_, FT, TT⟩ := TS
  refine wCall_plain (nodeC (Q := fun r => S.row r = .none) hF.g.wf TT hol fun _ h => h) ?_
  rintro _ Sa ⟨ga, e, rfl, nv, kv, rfl, x1, x2⟩
  rw [hne] at x1 x2 ⊢
  obtain ⟨N, hN⟩ : ∃ N, N = nds[i] := ⟨_, rfl⟩
  rw [← hN] at x1 x2 ⊢
  have hNd : NdC (fun r => S.row r = .none) Sa [.int .i64 N.kind, ofL N.name, nv, kv] N := ⟨nv, kv, rfl, x1, x2⟩
  have q1 := x1.cells
  have q2 := x1.sc
  have q3 := x2.cells
  have q4 := x2.sc
  obtain ⟨nA, hnA⟩ : ∃ n, Sa.nx = up 0 n := ⟨_, up0 _⟩
  simp only [XY, simprocAttr, hnA, q1, q2, q3, q4]
  obtain ⟨pa, hpa⟩ : ∃ b, b = up 0 nA := ⟨_, rfl⟩
  obtain ⟨Sb, hSb⟩ : ∃ Sb, Sb = ((Sa.new fun t => .cells t [.int .i64 0, ofL [], .snil, .snil]).wr (up 0 nA) Sa.t fun u => .cells u [.int .i64 N.kind, ofL N.name, nv, kv]) := ⟨_, rfl⟩
  have gb : Gr Sa Sb := by rw [hSb]; exact (Gr.refl ga.wf).nw hnA (good_cells _) (good_cells _)
  obtain ⟨tb1, rb⟩ : ∃ t, Sb.row pa = .cells t [.int .i64 N.kind, ofL N.name, nv, kv] := ⟨_, by rw [hSb, hpa]; simp only [XZ, simprocAttr, hnA]; rfl⟩
  rw [← hSb, ← hpa]
  clear hSb
  have gab := ga.trans gb
  have TB : TabX Sb W rt tb := TabX.gr ⟨hF.g.wf, FT, TT⟩ gab
  rw [wC_seqj, wC_seq]; simp only [XY, simprocAttr, f0]
  refine wCall_plain (openA TB ho) ?_
  rintro _ _ ⟨rfl, rfl⟩
  simp only [XY, simprocAttr]
  rw [wC_seq]; simp only [XY, simprocAttr]
  have r7b := gab.cells r7
  have wb := gb.wf
  obtain ⟨nB, hnB⟩ : ∃ n, Sb.nx = up 0 n := ⟨_, up0 _⟩
  have ob := fun k => nes (ne_up wb hnB (ne_cells r7b) k)
  simp only [XY, simprocAttr, f16, r7b, rb, hnB, ob, q1, q2, q3, q4]
  have Fb := hF.gr (C := NdC) NdC.imp gab
  have gn : Gr Sb (Sb.new fun t => .cells t [.int .i64 N.kind, ofL N.name, nv, kv]) := Gr.new wb (good_cells _)
  have Fg := Fb.gr (C := NdC) NdC.imp gn
  have hone := one_at (st := Sb) (z := 4) (e := [.int .i64 N.kind, ofL N.name, nv, kv]) rfl
  rw [hnB] at hone
  refine wW_appL (C := NdC) NdC.imp Fg hone (by simp only [allSc, List.all_cons, List.all_nil, q2, q4]; rfl) (hNd.imp fun r p e => ⟨⟨fun b => hF.live r (B3 r b) p, fun e => hF.alive e p⟩, (gb.trans gn).same r e⟩) B3 (by rw [List.length_take]; omega) fun Sf vf Ff kp => ?_
  rw [hN, ← List.take_succ_eq_append_getElem hin] at Ff
  have d5 := Ff.sc
  have rg := gn.cells r7b
  have rf := (kp b7 (ne_cells rg) fun e => B3 b7 B7 (hF.own _ e)).trans rg
  simp only [XZ, simprocAttr, f16, f75, rf, hadd1, apartAll_nil, d5.1, d5.2]
  exact ⟨j - 1, by omega, (hL _ _ _).2 ⟨i + 1, vf, _, by omega, by simp only [XZ, simprocAttr, f0], by simp only [XZ, simprocAttr, f1], by simp only [XZ, simprocAttr, f16], by simp only [XZ, simprocAttr, f73], by simp only [XZ, simprocAttr, f74], by simp only [XZ, simprocAttr], Ff.wr (C := NdC) NdC.imp B7 e7 (B3 _ B7) rf, row_wr_same _ _ _ _⟩⟩
 rintro fr S4 ⟨kv', t, f1, f16, hF, r7⟩
 obtain ⟨es, x1, x2, x3⟩ := hF.lst (C := NdC) NdC.imp B3
 have hst : ∀ r, ¬ B r → st.row r = .none := fun r n => Classical.byContradiction fun e => n ((hB' _).2 (.inl e))
 rw [wC_seq]; simp only [XY, simprocAttr, f1, f16, r7]
 refine wCall_plain (hB S4 _ hF.g ⟨kv', av, es, rfl, x1.imp fun r p e => ⟨hT.own (hst r p), rfl⟩, x2, fun i a b => (x3 i a b).imp fun r p e => ⟨hT.own (hst r p), rfl⟩, hav.gr hF.g⟩) ?_
 rintro _ S5 ⟨C5, W5, T5, K5, rfl⟩
 simp only [XZ, simprocAttr]
 exact Ans.gr hF.g ⟨C5, W5, T5, K5, rfl⟩
theorem many1 (nm : Str) (h : nm = [108, 101, 110] ∨ nm = [104, 97, 115]) (S : St) : Does (tabT tabD) n_kinds_many [ofL nm] S fun v S' => v = .int .i64 ((1 : Nat) : Int) ∧ S = S' := by
 refine does_fn at_kinds_many rfl ?_
 rcases h with rfl | rfl
 all_goals simp only [cf_kinds_many, XZ, simprocAttr, List.cons.injEq, and_false, false_and, and_true, true_and, List.cons_ne_nil, reduceCtorEq] <;> rfl
theorem many2 (nm : Str) (h : nm = [97, 100, 100] ∨ nm = [103, 101, 116] ∨ nm = [111, 114, 101, 108, 115, 101]) (S : St) : Does (tabT tabD) n_kinds_many [ofL nm] S fun v S' => v = .int .i64 ((2 : Nat) : Int) ∧ S = S' := by
 refine does_fn at_kinds_many rfl ?_
 rcases h with rfl | rfl | rfl
 all_goals simp only [cf_kinds_many, XZ, simprocAttr, List.cons.injEq, and_false, false_and, and_true, true_and, List.cons_ne_nil, reduceCtorEq] <;> rfl
def knY : Tb := ⟨[⟨2, [], [], []⟩], [], 0, []⟩
theorem kn_new8 : newS ⟨.mk 2 [] [] [], [], []⟩ = (some knY, 0) := by kernel_rfl
theorem known8 (st : St) (hw : WF st) : Does (tabT tabD) n_spruelaw8_known [] st fun v S => Gr st S ∧ v = .bool true := by
 refine does_fnG tabM at_spruelaw8_known rfl hw fun K fin => ?_
 simp only [cf_spruelaw8_known, XY, simprocAttr]
 rw [wC_seq]; simp only [XY, simprocAttr]
 rw [wC_seq]; simp only [XY, simprocAttr]
 refine wCall_plain (newX1 hw (base_at (fun _ => True) st 2)) ?_
 rintro v S1 ⟨G1, hp⟩
 rw [kn_new8] at hp
 obtain ⟨rt, W, rfl, T1, K1⟩ := hp
 simp only [XY, simprocAttr]
 rw [wC_seqj, wC_seq]; simp only [XY, simprocAttr, eqV_pn]
 obtain ⟨n1, hn1⟩ : ∃ n, S1.nx = up 0 n := ⟨_, up0 _⟩
 rw [wC_seq]; simp only [XY, simprocAttr, hn1]
 obtain ⟨S2, hS2⟩ : ∃ S, S = (S1.new fun t => Row.cells t [V.int IntKind.i64 0]) := ⟨_, rfl⟩
 have G2 : Gr S1 S2 := by rw [hS2]; exact Gr.new G1.wf (good_cells _)
 obtain ⟨t2, r2⟩ : ∃ t, S2.row (up 0 n1) = .cells t [.int .i64 0] := ⟨_, by rw [hS2]; simp only [XZ, simprocAttr, hn1]; rfl⟩
 have x1 : S1.row (up 0 n1) = .none := nx0 G1.wf hn1 0
 rw [← hS2]
 clear hS2
 have op1 : Opened knY [0] [⟨2, [], [], []⟩] := (Opened.nil knY).cons (o := 0) rfl rfl
 have op2 : Opened knY [0, 0] [⟨2, [], [], []⟩, ⟨2, [], [], []⟩] := op1.cons (o := 0) rfl rfl
 have sl2 : SlAt (fun r => ¬ W r) S2 (.slx (up 0 n1) 0 1 1 1) 1 (ints [0]) := SlAt.freshx (es := ints [0]) (t := t2) (by rw [r2]; rfl) (T1.own x1) (ints_one _)
 refine wCall_plain (ofB (nm := [108, 101, 110]) (args := [0]) (x := (knY, 0, 17)) (T1.gr G2) rfl (by decide +kernel) (many1 _ (.inl rfl)) (by decide) sl2 op1 fun S e g h => lenB (T1.gr (G2.trans g)) h rfl) ?_
 rintro _ S3 a3
 obtain ⟨W3, T3, K3, rfl⟩ := a3.kept
 have C3 := a3.1
 simp only [XY, simprocAttr]
 obtain ⟨n3, hn3⟩ : ∃ n, S3.nx = up 0 n := ⟨_, up0 _⟩
 rw [wC_seq]; simp only [XY, simprocAttr, hn3]
 obtain ⟨S4, hS4⟩ : ∃ S, S = (S3.new fun t => Row.cells t [V.int IntKind.i64 0, V.int IntKind.i64 0]) := ⟨_, rfl⟩
 have G4 : Gr S3 S4 := by rw [hS4]; exact Gr.new T3.1 (good_cells _)
 obtain ⟨t4, r4⟩ : ∃ t, S4.row (up 0 n3) = .cells t [.int .i64 0, .int .i64 0] := ⟨_, by rw [hS4]; simp only [XZ, simprocAttr, hn3]; rfl⟩
 have x3 : S3.row (up 0 n3) = .none := nx0 T3.1 hn3 0
 rw [← hS4]
 clear hS4
 have sl4 : SlAt (fun r => ¬ W3 r) S4 (.slx (up 0 n3) 0 2 1 2) 1 (ints [0, 0]) := SlAt.freshx (es := ints [0, 0]) (t := t4) (by rw [r4]; rfl) (T3.own x3) (ints_one _)
 have hadd : baseR knY 2 (areS [2, 2] [⟨2, [], [], []⟩, ⟨2, [], [], []⟩]) = (knY, 0, 0) := rfl
 refine wCall_plain (ofB (nm := [97, 100, 100]) (args := [0, 0]) (x := (knY, 0, 0)) (T3.gr G4) rfl (by decide +kernel) (many2 _ (.inl rfl)) (by decide) sl4 op2 fun S e g h => by rw [← hadd]; exact addB (T3.gr (G4.trans g)) h) ?_
 rintro _ S5 a5
 obtain ⟨W5, T5, K5, rfl⟩ := a5.kept
 simp only [XZ, simprocAttr]
 have hold : ∀ r, st.row r ≠ .none → S5.row r = st.row r := fun r e => by
  obtain ⟨k1, k2⟩ := K1 r e fun h => h
  have e2 : S2.row r ≠ .none := by rw [G2.same r (by rw [k1]; exact e), k1]; exact e
  obtain ⟨k3, k4⟩ := K3 r e2 k2
  have e4 : S4.row r = S2.row r := by rw [G4.same r (by rw [k3]; exact e2), k3]
  obtain ⟨k5, _⟩ := K5 r (by rw [e4]; exact e2) k4
  rw [k5, e4, G2.same r (by rw [k1]; exact e), k1]
 exact fin _ _ hold fun _ => by simp
theorem layS_bad8 {tb : Tb} {n : Nd} (h : (layS tb n).2.2 = 20) : layS tb n = (tb, 0, 20) := by
 unfold layS at h ⊢
 split at h
 ·cases h
 split at h
 ·rename_i c; rw [if_pos c]
 ·cases h
theorem noName_kind {t : Ty} (h : noName t = true) : t.kind ≠ 9 := by
 obtain ⟨k, n, ns, ks⟩ := t
 rw [noName, Bool.and_eq_true] at h
 exact of_decide_eq_true h.1
theorem open_self {tb : Tb} {i : Nat} {n : Nd} (h : tb.nodes[i]? = some n) (k : n.kind ≠ 9) : openS tb (tb.nodes.length + 1) i = (i, true) := by
 obtain ⟨h1, h2⟩ := List.getElem?_eq_some_iff.1 h
 exact openS_self h1 (by rw [h2]; exact k)
theorem ofS {W : Pt → Prop} {S : St} {rt : Pt} {tb : Tb} {nm : Str} {n : Pt} {nds : List Nd} {x : Tb × Nat × Int} (args : List Nat) (hT : TabX S W rt tb) (hn : S.nx = up 0 n) (hs : sigI tb nm = none) (hb : (identB nm && Lib.contains builtins (32 :: (nm ++ [32]))) = true)
  (hmany : ∀ S, Does (tabT tabD) n_kinds_many [ofL nm] S fun v S' => v = .int .i64 (args.length : Nat) ∧ S = S') (hlen : args.length ≤ 8) (hop : Opened tb args nds)
  (hB : ∀ (S' : St) (e : List V), TabX S' W rt tb → AskC (fun r => ¬ W r) S' rt e nds args → Does (tabT tabD) n_kinds_asker_builtin [.agg e, ofL nm] S' (Ans W S' rt x)) :
  Does (tabT tabD) n_kinds_Of [.ptr rt 0, ofL nm, .slx (up 0 n) 0 args.length 1 args.length] (S.new fun t => .cells t (args.map fun i : Nat => V.int .i64 (i : Int))) fun v S' => ∃ W', TabX S' W' rt x.1 ∧ Kept S W S' W' ∧ v = .tup [.int .i64 (x.2.1 : Nat), .int .i64 x.2.2] := by
 have hw := hT.1
 have G : Gr S (S.new fun t => .cells t (args.map fun i : Nat => V.int .i64 (i : Int))) := Gr.new hw (good_cells _)
 have hr : ∃ t, (S.new fun t => .cells t (args.map fun i : Nat => V.int .i64 (i : Int))).row (up 0 n) = .cells t (ints args).flatten := by
  refine ⟨S.t, ?_⟩
  have h1 := row_new_nx S fun t => .cells t (args.map fun i : Nat => V.int .i64 (i : Int))
  rw [hn] at h1
  rw [h1]
  have : (ints args).flatten = args.map fun i : Nat => V.int .i64 (i : Int) := by
   unfold ints
   generalize args.map (fun i : Nat => V.int .i64 (i : Int)) = l
   induction l with
   | nil => rfl
   | cons a r ih => simp only [List.map_cons, List.flatten_cons, ih, List.cons_append, List.nil_append]
  rw [this]
 obtain ⟨t, hr⟩ := hr
 have hl := ints_len args
 have sl : SlAt (fun r => ¬ W r) (S.new fun t => .cells t (args.map fun i : Nat => V.int .i64 (i : Int))) (.slx (up 0 n) 0 args.length 1 args.length) 1 (ints args) := by
  rw [← hl]
  exact SlAt.freshx (es := ints args) (t := t) hr (hT.own (nx0 hw hn 0)) (ints_one _)
 refine (ofB (hT.gr G) hs hb hmany hlen sl hop fun S' e g h => hB S' e (hT.gr (G.trans g)) h).mono fun v S' h => ?_
 obtain ⟨W', T', K', e⟩ := h.kept
 exact ⟨W', T', (Kept.gr G W).trans K', e⟩
set_option maxHeartbeats 8000000 in
theorem optsL (st : St) (hw : WF st) (e1 : List V) (q1 : Rw) (h1 : RwC (fun _ => True) st e1 q1) (e2 : List V) (q2 : Rw) (h2 : RwC (fun _ => True) st e2 q2) :
  Does (tabT tabD) n_spruelaw8_KindsOpts [.agg e1, .agg e2] st fun v' _ => v' = .bool true := by
 refine does_fn at_spruelaw8_KindsOpts rfl ?_
 obtain ⟨n0, hn0⟩ : ∃ n, st.nx = up 0 n := ⟨_, up0 _⟩
 have g1 := h1
 have g2 := h2
 obtain ⟨nv1, kv1, es1, rfl, _, _, _, a1, a2, _, _, _⟩ := h1.inv
 have c1 := a1.cells
 have s1 := a1.sc
 have c2 := a2.cells
 have s2 := a2.sc
 obtain ⟨nv2, kv2, es2, rfl, _, _, _, a3, a4, _, _, _⟩ := h2.inv
 have c3 := a3.cells
 have s3 := a3.sc
 have c4 := a4.cells
 have s4 := a4.sc
 obtain ⟨p2, hp2⟩ : ∃ b, b = up 0 n0 := ⟨_, rfl⟩
 obtain ⟨p3, hp3⟩ : ∃ b, b = up 1 n0 := ⟨_, rfl⟩
 simp only [cf_spruelaw8_KindsOpts, XY, simprocAttr]
 rw [wC_seq]; simp only [XY, simprocAttr, hn0, c1, s1, c2, s2, c3, s3, c4, s4]
 rw [← hp2, ← hp3]
 obtain ⟨S0, hS0⟩ : ∃ S0, S0 = ((st.new fun t => .cells t [.int .i64 q1.kind, .int .i64 q1.n, nv1, kv1]).new fun t => .cells t [.int .i64 q2.kind, .int .i64 q2.n, nv2, kv2]) := ⟨_, rfl⟩
 have G0 : Gr st S0 := by rw [hS0]; exact (Gr.new hw (good_cells _)).nn (good_cells _)
 obtain ⟨t2, r2⟩ : ∃ t, S0.row p2 = .cells t [.int .i64 q1.kind, .int .i64 q1.n, nv1, kv1] := ⟨_, by rw [hS0, hp2]; simp only [XZ, simprocAttr, hn0]; rfl⟩
 obtain ⟨t3, r3⟩ : ∃ t, S0.row p3 = .cells t [.int .i64 q2.kind, .int .i64 q2.n, nv2, kv2] := ⟨_, by rw [hS0, hp3]; simp only [XZ, simprocAttr, hn0]; rfl⟩
 rw [← hS0]
 clear hS0
 rw [wC_seqj, wC_seq]; simp only [XY, simprocAttr]
 refine wCall_plain (known8 S0 G0.wf) ?_
 rintro _ S1 ⟨gk, rfl⟩
 have r2 := gk.cells r2
 have r3 := gk.cells r3
 have G1 := G0.trans gk
 simp only [XY, simprocAttr]
 rw [wC_seqj, wC_seq]; simp only [XY, simprocAttr, r2]
 refine wCall_plain (fewC g1 _ G1 30 (by decide) (by decide)) ?_
 rintro _ S2 ⟨gf, m1, rfl, _, _⟩
 by_cases hm1 : m1 = 0
 ·simp only [XZ, simprocAttr, hm1]
 have r2 := gf.cells r2
 have r3 := gf.cells r3
 have G2 := G1.trans gf
 simp only [XY, simprocAttr, hm1, r3]
 refine wCall_plain (fewC g2 _ G2 30 (by decide) (by decide)) ?_
 rintro _ S3 ⟨gf2, m2, rfl, _, _⟩
 by_cases hm2 : m2 = 0
 ·simp only [XZ, simprocAttr, hm2]
 have r2 := gf2.cells r2
 have r3 := gf2.cells r3
 have G3 := G2.trans gf2
 simp only [XY, simprocAttr, hm2]
 rw [wC_seq]; simp only [XY, simprocAttr, r2]
 have T4 : TreeAt [] 4 := treeC [] (by decide) 3 (by decide)
 refine wCall_plain (T4 G3.wf (g1.gr G3) (SlAt.nil (fun _ => False) _ _)) ?_
 rintro _ S4 ⟨G4, x, rfl, hx⟩
 obtain ⟨X, hX⟩ : ∃ X, X = treeS [] 4 q1 := ⟨_, rfl⟩
 rw [← hX] at hx
 obtain ⟨xn, xk, xe, rfl, u1, u2, u3, u4⟩ := hx.inv
 have d1 := u1.cells
 have d2 := u1.sc
 have d3 := u2.cells
 have d4 := u2.sc
 have r3 := G4.cells r3
 have w4 := G4.wf
 obtain ⟨n4, hn4⟩ : ∃ n, S4.nx = up 0 n := ⟨_, up0 _⟩
 simp only [XY, simprocAttr, hn4, d1, d2, d3, d4]
 obtain ⟨S5, hS5⟩ : ∃ S, S = ((S4.new fun t => .cells t [.int .i64 0, ofL [], .snil, .snil]).wr (up 0 n4) S4.t fun u => .cells u [.int .i64 X.kind, ofL X.name, xn, xk]) := ⟨_, rfl⟩
 have G5 : Gr S4 S5 := by rw [hS5]; exact (Gr.refl w4).nw hn4 (good_cells _) (good_cells _)
 obtain ⟨px, hpx⟩ : ∃ b, b = up 0 n4 := ⟨_, rfl⟩
 obtain ⟨tx, rx⟩ : ∃ t, S5.row px = .cells t [.int .i64 X.kind, ofL X.name, xn, xk] := ⟨_, by rw [hS5, hpx]; simp only [XZ, simprocAttr, hn4]; rfl⟩
 rw [← hS5, ← hpx]
 clear hS5
 have hx5 : TyC (fun _ => True) S5 [.int .i64 X.kind, ofL X.name, xn, xk] X := hx.imp fun r _ e => ⟨trivial, G5.same r e⟩
 have r3 := G5.cells r3
 have w5 := G5.wf
 obtain ⟨n5, hn5⟩ : ∃ n, S5.nx = up 0 n := ⟨_, up0 _⟩
 rw [wC_seq]; simp only [XY, simprocAttr, hn5]
 obtain ⟨S6, hS6⟩ : ∃ S, S = ((S5.new fun t => .cells t [.int .i64 0, ofL [], .snil, .snil]).wr (up 0 n5) S5.t fun u => .cells u [.int .i64 3, ofL [], .snil, .snil]) := ⟨_, rfl⟩
 have G6 : Gr S5 S6 := by rw [hS6]; exact (Gr.refl w5).nw hn5 (good_cells _) (good_cells _)
 obtain ⟨p6, hp6⟩ : ∃ b, b = up 0 n5 := ⟨_, rfl⟩
 obtain ⟨t6, r6⟩ : ∃ t, S6.row p6 = .cells t [.int .i64 3, ofL [], .snil, .snil] := ⟨_, by rw [hS6, hp6]; simp only [XZ, simprocAttr, hn5]; rfl⟩
 rw [← hS6, ← hp6]
 clear hS6
 have rx := G6.cells rx
 have r3 := G6.cells r3
 have w6 := G6.wf
 obtain ⟨n6, hn6⟩ : ∃ n, S6.nx = up 0 n := ⟨_, up0 _⟩
 have ox := fun k => nes (ne_up w6 hn6 (ne_cells rx) k)
 have o6 := fun k => nes (ne_up w6 hn6 (ne_cells r6) k)
 have o3 := fun k => nes (ne_up w6 hn6 (ne_cells r3) k)
 rw [wC_seq]; simp only [XY, simprocAttr, rx, r6, r3, hn6, ox, o6, o3, d1, d2, d3, d4]
 obtain ⟨S7, hS7⟩ : ∃ S, S = ((S6.new fun t => Row.cells t [V.int IntKind.i64 X.kind, ofL X.name, xn, xk]).new fun t => Row.cells t [V.int IntKind.i64 3, ofL [], V.snil, V.snil]) := ⟨_, rfl⟩
 have G7 : Gr S6 S7 := by rw [hS7]; exact (Gr.new w6 (good_cells _)).nn (good_cells _)
 obtain ⟨x0, hx0⟩ : ∃ b, b = up 0 n6 := ⟨_, rfl⟩
 obtain ⟨x1, hx1⟩ : ∃ b, b = up 1 n6 := ⟨_, rfl⟩
 have y0 : ∃ t, S7.row x0 = .cells t [.int .i64 X.kind, ofL X.name, xn, xk] := ⟨_, by rw [hS7, hx0]; simp only [XZ, simprocAttr, hn6]; rfl⟩
 have y1 : ∃ t, S7.row x1 = .cells t [.int .i64 3, ofL [], .snil, .snil] := ⟨_, by rw [hS7, hx1]; simp only [XZ, simprocAttr, hn6]; rfl⟩
 rw [← hS7, ← hx0, ← hx1]
 clear hS7
 obtain ⟨u0', y0⟩ := y0
 obtain ⟨u1', y1⟩ := y1
 have G37 : Gr S3 S7 := (G4.trans G5).trans (G6.trans G7)
 refine wCall_marked (T4 (wf_low G7.wf _) ((g2.gr (G3.trans G37)).imp fun r _ _ => ⟨trivial, rfl⟩) (SlAt.nil (fun _ => False) _ _)) ?_
 rintro _ S8 G8 ⟨z, rfl, hz⟩
 obtain ⟨Z, hZ⟩ : ∃ Z, Z = treeS [] 4 q2 := ⟨_, rfl⟩
 rw [← hZ] at hz
 have hz8 : TyC (fun _ => True) S8 z Z := hz.imp fun r _ _ => ⟨trivial, rfl⟩
 obtain ⟨zn, zk, ze, rfl, z1, z2, z3, z4⟩ := hz8.inv
 have f1 := z1.cells
 have f2 := z1.sc
 have f3 := z2.cells
 have f4 := z2.sc
 have y0 := G8.cells y0
 have y1 := G8.cells y1
 have rx := (G7.trans G8).cells rx
 have hx8 := hx5.gr ((G6.trans G7).trans G8)
 have w8 := G8.wf
 obtain ⟨n8, hn8⟩ : ∃ n, S8.nx = up 0 n := ⟨_, up0 _⟩
 simp only [XY, simprocAttr, hn8, f1, f2, f3, f4]
 obtain ⟨x2, hx2⟩ : ∃ b, b = up 0 n8 := ⟨_, rfl⟩
 obtain ⟨p7, hp7⟩ : ∃ b, b = up 1 n8 := ⟨_, rfl⟩
 obtain ⟨S9, hS9⟩ : ∃ S, S = (((S8.new fun t => Row.cells t [ofL [102], V.slx x1 0 1 4 1, V.int IntKind.i64 Z.kind, ofL Z.name, zn, zk]).new fun t => Row.cells t [V.int IntKind.i64 0, ofL [], V.snil, V.snil, V.snil, V.snil]).wr (up 1 n8) (S8.new fun t => Row.cells t [ofL [102], V.slx x1 0 1 4 1, V.int IntKind.i64 Z.kind, ofL Z.name, zn, zk]).t fun u => Row.cells u [V.int IntKind.i64 5, ofL [], V.snil, V.slx x0 0 1 4 1, V.snil, V.slx (up 0 n8) 0 1 6 1]) := ⟨_, rfl⟩
 have G9 : Gr S8 S9 := by rw [hS9]; exact (Gr.new w8 (good_cells _)).nw (by simp only [nx_new, hn8, up_suc, Nat.zero_add]) (good_cells _) (good_cells _)
 have y2 : ∃ t, S9.row x2 = .cells t [ofL [102], .slx x1 0 1 4 1, .int .i64 Z.kind, ofL Z.name, zn, zk] := ⟨_, by rw [hS9, hx2]; simp only [XZ, simprocAttr, hn8]; rfl⟩
 have y7 : ∃ t, S9.row p7 = .cells t [.int .i64 5, ofL [], .snil, .slx x0 0 1 4 1, .snil, .slx x2 0 1 6 1] := ⟨_, by rw [hS9, hp7, hx2]; simp only [XZ, simprocAttr, hn8]; rfl⟩
 rw [← hS9, ← hx2, ← hp7]
 clear hS9
 obtain ⟨u2', y2⟩ := y2
 obtain ⟨u7', y7⟩ := y7
 have y0 := G9.cells y0
 have y1 := G9.cells y1
 have rx := G9.cells rx
 have hx9 := hx8.gr G9
 have hz9 := hz8.gr G9
 obtain ⟨sc, hsc⟩ : ∃ s : Sch, s = ⟨.mk 5 [] [] [X], [], [⟨[102], [.mk 3 [] [] []], Z⟩]⟩ := ⟨_, rfl⟩
 have hs9 : SchC (fun _ => True) S9 [.int .i64 5, ofL [], .snil, .slx x0 0 1 4 1, .snil, .slx x2 0 1 6 1] sc := by
  rw [hsc]
  refine ⟨[.int .i64 5, ofL [], .snil, .slx x0 0 1 4 1], .snil, .slx x2 0 1 6 1, rfl, ?_, ⟨[], SlAt.nil _ _ _, rfl, fun i h => absurd h (by simp)⟩, ?_⟩
  ·refine .mk (es := [[.int .i64 X.kind, ofL X.name, xn, xk]]) (SlAt.nil _ _ _) (SlAt.freshx (es := [[.int .i64 X.kind, ofL X.name, xn, xk]]) (t := u0') (by rw [y0]; rfl) trivial (by simp)) rfl fun i h h' => ?_
   have : i = 0 := by simpa using h
   subst this
   exact hx9
  ·refine ⟨[[ofL [102], .slx x1 0 1 4 1, .int .i64 Z.kind, ofL Z.name, zn, zk]], SlAt.freshx (es := [[ofL [102], .slx x1 0 1 4 1, .int .i64 Z.kind, ofL Z.name, zn, zk]]) (t := u2') (by rw [y2]; rfl) trivial (by simp), rfl, fun i h h' => ?_⟩
   have : i = 0 := by simpa using h
   subst this
   refine ⟨.slx x1 0 1 4 1, [.int .i64 Z.kind, ofL Z.name, zn, zk], rfl, ⟨[[.int .i64 3, ofL [], .snil, .snil]], SlAt.freshx (es := [[.int .i64 3, ofL [], .snil, .snil]]) (t := u1') (by rw [y1]; rfl) trivial (by simp), rfl, fun i h h' => ?_⟩, hz9⟩
   have : i = 0 := by simpa using h
   subst this
   exact .mk (es := []) (SlAt.nil _ _ _) (SlAt.nil _ _ _) rfl fun i h => absurd h (by simp)
 rw [wC_seq]; simp only [XY, simprocAttr, y7]
 refine wCall_plain (newC G9.wf hs9) ?_
 rintro v S10 ⟨G10, hp⟩
 cases hnw : newS sc with
 | mk o er =>
 rw [hnw] at hp
 cases o with
 | none =>
   have hp : v = .tup [.pnil, .int .i64 er] := hp
   have he := new_none' hnw
   rw [hp]
   simp only [XZ, simprocAttr, he]
 | some tb =>
 obtain ⟨rfl, hO⟩ := new_of hnw
 obtain ⟨rt, W, rfl, T10, K10⟩ := hp
 obtain ⟨ids5, hM1, hM2⟩ := look_node hO.main
 rw [hsc] at hM1 hM2
 obtain ⟨kid, r5, rfl, hkid, hnil⟩ := looks_cons (show looksT tb.nodes [X] = some ids5 from hM2)
 have : r5 = [] := by rw [looksT] at hnil; injection hnil with hnil; exact hnil.symm
 subst this
 have hM1 : tb.nodes[tb.main]? = some ⟨5, [], [], [kid]⟩ := hM1
 obtain ⟨ids, hsi, hsl⟩ := hO.sigs ⟨[102], [.mk 3 [] [] []], Z⟩ (by rw [hsc]; exact List.mem_singleton.2 rfl)
 obtain ⟨i3, r6', rfl, hi3, hr6⟩ := looks_cons (show looksT tb.nodes [.mk 3 [] [] [], Z] = some ids from hsl)
 obtain ⟨iz, r7', rfl, hiz, hr7⟩ := looks_cons hr6
 have : r7' = [] := by rw [looksT] at hr7; injection hr7 with hr7; exact hr7.symm
 subst this
 have hsi : sigI tb [102] = some [i3, iz] := hsi
 obtain ⟨_, n3', n3''⟩ := look_node hi3
 rename_i ids3
 have : ids3 = [] := by
  have n3'' : looksT tb.nodes [] = some ids3 := n3''
  rw [looksT] at n3''; injection n3'' with n3''; exact n3''.symm
 subst this
 have n3' : tb.nodes[i3]? = some ⟨3, [], [], []⟩ := n3'
 obtain ⟨idx, nx', _⟩ := look_node hkid
 obtain ⟨idz, nz', _⟩ := look_node hiz
 have kX9 : X.kind ≠ 9 := by rw [hX]; exact noName_kind (noName_tree 4 q1)
 have kZ9 : Z.kind ≠ 9 := by rw [hZ]; exact noName_kind (noName_tree 4 q2)
 have hnos : ∀ n : Str, n ≠ [102] → sigI tb n = none := fun n hn => hO.nosig n (by rw [hsc]; exact fun h => hn (List.mem_singleton.1 h))
 have rx10 := K10.row rx fun h => h
 simp only [XY, simprocAttr]
 rw [wC_seqj, wC_seq]; simp only [XY, simprocAttr]
 rw [wC_seq]; simp only [XY, simprocAttr]
 refine wCall_plain (sigX [102] T10 hsi (m := 1) rfl (by decide)) ?_
 rintro _ S11 ⟨G11, pp, rfl, hpp⟩
 have hpp : SlAt (fun r => S10.row r = .none) S11 pp 1 (ints [i3]) := hpp
 simp only [XY, simprocAttr, List.getElem_cons_succ, List.getElem_cons_zero]
 rw [wC_seq]; simp only [XY, simprocAttr]
 refine wCall_marked ((mainX (TabX_lo (T10.gr G11) (wf_low G11.wf S11.t))).mono fun v S h => ⟨by rw [← h.2]; exact Gr.refl (wf_low G11.wf _), h.1⟩) ?_
 rintro _ S12 G12 rfl
 obtain ⟨rp, qp, o1, o2, o3', o4⟩ := SlAt.one (xs := [V.int .i64 (i3 : Int)]) (i := 0) (hpp.gr G12) (by simp)
 have o1 : iaddrSV 1 pp (.int .i64 0) = some (.ptr rp qp, .no) := o1
 simp only [List.getElem_cons_zero] at o4
 have w12 := G12.wf
 obtain ⟨n12, hn12⟩ : ∃ n, S12.nx = up 0 n := ⟨_, up0 _⟩
 simp only [XY, simprocAttr, o1, o4, hn12]
 obtain ⟨S13, hS13⟩ : ∃ S, S = (S12.new fun t => Row.cells t [V.int IntKind.i64 tb.main, V.int IntKind.i64 i3]) := ⟨_, rfl⟩
 have G13 : Gr S12 S13 := by rw [hS13]; exact Gr.new w12 (good_cells _)
 obtain ⟨x3, hx3⟩ : ∃ b, b = up 0 n12 := ⟨_, rfl⟩
 obtain ⟨u3', y3⟩ : ∃ t, S13.row x3 = .cells t [.int .i64 tb.main, .int .i64 i3] := ⟨_, by rw [hS13, hx3]; simp only [XZ, simprocAttr, hn12]; rfl⟩
 have y3n : S12.row x3 = .none := by rw [hx3]; exact nx0 w12 hn12 0
 rw [← hS13, ← hx3]
 clear hS13
 have G113 := (G11.trans G12).trans G13
 have T13 := T10.gr G113
 have rx13 := G113.cells rx10
 have hav : SlAt (fun r => ¬ W r) S13 (.slx x3 0 2 1 2) 1 (ints [tb.main, i3]) := SlAt.freshx (es := ints [tb.main, i3]) (t := u3') (by rw [y3]; rfl) ((T10.gr (G11.trans G12)).own y3n) (ints_one _)
 have op5 : Opened tb [tb.main, i3] [⟨5, [], [], [kid]⟩, ⟨3, [], [], []⟩] := ((Opened.nil tb).cons (open_self n3' (by decide)) n3').cons (open_self hM1 (show (5 : Int) ≠ 9 by decide)) hM1
 have hkl := (List.getElem?_eq_some_iff.1 nx').1
 have hke := (List.getElem?_eq_some_iff.1 nx').2
 refine wCall_markedC (W := W) G13.wf ((ofB (nm := [103, 101, 116]) (args := [tb.main, i3]) (x := getR tb kid kid) (TabX_lo T13 (wf_low G13.wf S13.t)) (hnos _ (by decide)) (by decide +kernel) (many2 _ (.inr (.inl rfl))) (by simp) (hav.low _) op5 fun S e g h => getB (TabX.gr (TabX_lo T13 (wf_low G13.wf S13.t)) g) h rfl rfl rfl (open_self nx' kX9) hkl).mono fun v S h => ⟨h.1, h.2⟩) ?_
 rintro _ S14' lo C14 ⟨W14, T14', K14, rfl⟩
 have T14 := TabX_lo T14' C14.wf
 have KK14 : Kept S13 W { S14' with low := lo } W14 := Kept.ch C14 K14
 obtain ⟨S14, hS14⟩ : ∃ S, S = { S14' with low := lo } := ⟨_, rfl⟩
 rw [← hS14] at T14 KK14 ⊢
 clear hS14 T14' K14 C14
 have px13 : ¬ W px := (K10 px (ne_cells rx) fun h => h).2
 have rx14 := KK14.row rx13 px13
 have px14 := KK14.out (ne_cells rx13) px13
 have hget : getR tb kid kid = if X.kind = 6 then (tb, 0, 17) else layS tb ⟨6, [], [], [kid]⟩ := by unfold getR; rw [List.getD_eq_getElem?_getD, nx']; rfl
 simp only [XY, simprocAttr]
 by_cases x6 : X.kind = 6
 ·rw [hget, if_pos x6]
  simp only [XZ, simprocAttr, rx14, x6]
 rw [wC_seqj, wC_seq]; simp only [XY, simprocAttr, rx14, x6]
 rw [hget, if_neg x6] at T14 ⊢
 rcases layS_err tb ⟨6, [], [], [kid]⟩ with he | he
 rotate_left
 ·simp only [XZ, simprocAttr, he]
 obtain ⟨rr, p1, p2', _⟩ := layS_ok he
 obtain ⟨D, hD⟩ : ∃ D, D = layS tb ⟨6, [], [], [kid]⟩ := ⟨_, rfl⟩
 rw [← hD] at he T14 p1 p2' ⊢
 rw [wC_seqj, wC_seq]; simp only [XY, simprocAttr, he]
 have hlkX : lookT D.1.nodes X = some kid := by rw [p1]; exact look_app X hkid
 obtain ⟨_, hn6⟩ := idx_get p2'
 rw [Nat.sub_zero] at hn6
 have hnx1 : D.1.nodes[kid]? = some ⟨X.kind, X.name, X.names, idx⟩ := by rw [p1]; show (tb.nodes ++ rr)[kid]? = _; rw [List.getElem?_append_left hkl]; exact nx'
 have hnz1 : D.1.nodes[iz]? = some ⟨Z.kind, Z.name, Z.names, idz⟩ := by rw [p1]; show (tb.nodes ++ rr)[iz]? = _; rw [List.getElem?_append_left (List.getElem?_eq_some_iff.1 nz').1]; exact nz'
 have hnos1 : ∀ n : Str, n ≠ [102] → sigI D.1 n = none := fun n hn => by rw [p1]; exact hnos n hn
 have keep14 : ∀ r, S9.row r ≠ .none → ¬ W14 r ∧ S14.row r = S9.row r := fun r e => by
  obtain ⟨k1, k2⟩ := K10 r e fun h => h
  have e13 : S13.row r = S9.row r := by rw [G113.same r (by rw [k1]; exact e), k1]
  obtain ⟨k3, k4⟩ := KK14 r (by rw [e13]; exact e) k2
  exact ⟨k4, by rw [k3, e13]⟩
 have hx14 : TyC (fun r => ¬ W14 r) S14 [.int .i64 X.kind, ofL X.name, xn, xk] X := hx9.imp fun r _ e => keep14 r e
 obtain ⟨oo, hoo⟩ : ∃ o, o = D.2.1 := ⟨_, rfl⟩
 rw [← hoo] at hn6 ⊢
 rw [wC_seq]; simp only [XY, simprocAttr, rx14]
 refine wCall_plain (addX T14 hx14) ?_
 rintro _ S15 ⟨W15, T15, K15, rfl⟩
 rw [able_there (hO.able_of hkid) hlkX] at T15 ⊢
 simp only [XY, simprocAttr]
 rw [wC_seq]; simp only [XY, simprocAttr]
 have hol := (List.getElem?_eq_some_iff.1 hn6).1
 have hoe := (List.getElem?_eq_some_iff.1 hn6).2
 have T15' := T15
 obtain ⟨w15, F15, TT15⟩ := T15'
 refine wCall_plain (nodeC (Q := fun r => S15.row r = .none) w15 TT15 hol fun _ h => h) ?_
 rintro _ S16 ⟨G16, e, rfl, nv6, kv6, rfl, b1, b2⟩
 rw [hoe] at b1 b2 ⊢
 have b2 : SlAt (fun r => S15.row r = .none) S16 kv6 1 (ints [kid]) := b2
 have j1 := b1.cells
 have j2 := b1.sc
 have j3 := b2.cells
 have j4 := b2.sc
 obtain ⟨n16, hn16⟩ : ∃ n, S16.nx = up 0 n := ⟨_, up0 _⟩
 simp only [XY, simprocAttr, hn16, j1, j2, j3, j4]
 obtain ⟨S17, hS17⟩ : ∃ Sb, Sb = ((S16.new fun t => .cells t [.int .i64 0, ofL [], .snil, .snil]).wr (up 0 n16) S16.t fun u => .cells u [.int .i64 6, ofL [], nv6, kv6]) := ⟨_, rfl⟩
 have G17 : Gr S16 S17 := by rw [hS17]; exact (Gr.refl G16.wf).nw hn16 (good_cells _) (good_cells _)
 obtain ⟨p17, hp17⟩ : ∃ b, b = up 0 n16 := ⟨_, rfl⟩
 obtain ⟨t17, r17⟩ : ∃ t, S17.row p17 = .cells t [.int .i64 6, ofL [], nv6, kv6] := ⟨_, by rw [hS17, hp17]; simp only [XZ, simprocAttr, hn16]; rfl⟩
 have r17n : S16.row p17 = .none := by rw [hp17]; exact nx0 G16.wf hn16 0
 rw [← hS17, ← hp17]
 clear hS17
 have G1517 := G16.trans G17
 have T17 := T15.gr G1517
 have w17n : ¬ W15 p17 := (T15.gr G16).own r17n
 have kvs : SlAt (fun r => ¬ W15 r) S17 kv6 1 (ints [kid]) := b2.imp fun r p e => ⟨T15.own p, G17.same r e⟩
 obtain ⟨n17, hn17⟩ : ∃ n, S17.nx = up 0 n := ⟨_, up0 _⟩
 have opA : Opened D.1 [oo, kid] [⟨6, [], [], [kid]⟩, ⟨X.kind, X.name, X.names, idx⟩] := ((Opened.nil _).cons (open_self hnx1 kX9) hnx1).cons (open_self hn6 (show (6 : Int) ≠ 9 by decide)) hn6
 rw [wC_seq]; simp only [XY, simprocAttr, hn17]
 refine wCall_plain (ofS (nm := [111, 114, 101, 108, 115, 101]) (x := (D.1, kid, 0)) [oo, kid] T17 hn17 (hnos1 _ (by decide)) (by decide +kernel) (many2 _ (.inr (.inr rfl))) (by simp) opA fun S' e T h => by have := orB T h rfl rfl; rw [if_pos rfl] at this; exact this) ?_
 rintro _ S18 ⟨W18, T18, K18, rfl⟩
 simp only [XY, simprocAttr]
 have r18 := K18.row r17 w17n
 have w18n := K18.out (ne_cells r17) w17n
 have kvs := K18.sl kvs
 obtain ⟨n18, hn18⟩ : ∃ n, S18.nx = up 0 n := ⟨_, up0 _⟩
 have opB : Opened D.1 [oo] [⟨6, [], [], [kid]⟩] := (Opened.nil _).cons (open_self hn6 (show (6 : Int) ≠ 9 by decide)) hn6
 obtain ⟨E, hE⟩ : ∃ E, E = layS D.1 ⟨1, [], [], []⟩ := ⟨_, rfl⟩
 rw [wC_seq]; simp only [XY, simprocAttr, hn18]
 refine wCall_plain (ofS (nm := [104, 97, 115]) (x := E) [oo] T18 hn18 (hnos1 _ (by decide)) (by decide +kernel) (many1 _ (.inr rfl)) (by simp) opB fun S' e T h => by rw [hE]; exact hasB T h) ?_
 rintro _ S19 ⟨W19, T19, K19, rfl⟩
 simp only [XY, simprocAttr]
 have r19 := K19.row r18 w18n
 have w19n := K19.out (ne_cells r18) w18n
 have kvs := K19.sl kvs
 obtain ⟨r2', hEg⟩ : ∃ r, E.1.nodes = D.1.nodes ++ r := by
  obtain ⟨r, e⟩ := layS_grow D.1 ⟨1, [], [], []⟩
  exact ⟨r, by rw [hE, e]⟩
 have hEs : E.1.sigs = D.1.sigs := by
  obtain ⟨r, e⟩ := layS_grow D.1 ⟨1, [], [], []⟩
  rw [hE, e]
 have hEr : E.2.2 = 0 ∨ E.2.2 = 20 := by rw [hE]; exact layS_err _ _
 have hEb : ∃ nb, E.1.nodes[E.2.1]? = some nb ∧ (E.2.2 = 0 → nb.kind = 1) := by
  rcases hEr with h | h
  ·rw [hE] at h
   obtain ⟨_, _, k2, _⟩ := layS_ok h
   obtain ⟨_, k3⟩ := idx_get k2
   rw [Nat.sub_zero, ← hE] at k3
   exact ⟨_, k3, fun _ => rfl⟩
  ·have hb := h
   rw [hE] at hb
   have hb := layS_bad8 hb
   rw [← hE] at hb
   have h0 : 0 < D.1.nodes.length := by omega
   rw [hb]
   exact ⟨_, List.getElem?_eq_getElem h0, fun e => by cases e⟩
 obtain ⟨nb, hnb, hnbk⟩ := hEb
 have hbl := (List.getElem?_eq_some_iff.1 hnb).1
 have hbe := (List.getElem?_eq_some_iff.1 hnb).2
 have hnosE : ∀ n : Str, n ≠ [102] → sigI E.1 n = none := fun n hn => by unfold sigI; rw [hEs]; exact hnos1 n hn
 have upE : ∀ {i : Nat} {n : Nd}, D.1.nodes[i]? = some n → E.1.nodes[i]? = some n := fun {i n} h => by rw [hEg, List.getElem?_append_left (List.getElem?_eq_some_iff.1 h).1]; exact h
 rw [wC_seq]; simp only [XY, simprocAttr]
 refine wCall_plain (nodeX T19 hbl) ?_
 rintro _ S20 ⟨T20, G20, e, rfl, nvb, kvb, rfl, b3, b4⟩
 rw [hbe] at b3 b4 ⊢
 have j1 := b3.cells
 have j2 := b3.sc
 have j3 := b4.cells
 have j4 := b4.sc
 obtain ⟨n20, hn20⟩ : ∃ n, S20.nx = up 0 n := ⟨_, up0 _⟩
 simp only [XY, simprocAttr, hn20, j1, j2, j3, j4]
 obtain ⟨S21, hS21⟩ : ∃ Sb, Sb = ((S20.new fun t => .cells t [.int .i64 0, ofL [], .snil, .snil]).wr (up 0 n20) S20.t fun u => .cells u [.int .i64 nb.kind, ofL nb.name, nvb, kvb]) := ⟨_, rfl⟩
 have G21 : Gr S20 S21 := by rw [hS21]; exact (Gr.refl T20.1).nw hn20 (good_cells _) (good_cells _)
 obtain ⟨p23, hp23⟩ : ∃ b, b = up 0 n20 := ⟨_, rfl⟩
 obtain ⟨t23, r23⟩ : ∃ t, S21.row p23 = .cells t [.int .i64 nb.kind, ofL nb.name, nvb, kvb] := ⟨_, by rw [hS21, hp23]; simp only [XZ, simprocAttr, hn20]; rfl⟩
 have r23n : S20.row p23 = .none := by rw [hp23]; exact nx0 T20.1 hn20 0
 rw [← hS21, ← hp23]
 clear hS21
 have G1921 := G20.trans G21
 have T21 := T19.gr G1921
 have r21 := G1921.cells r19
 have kvs := kvs.gr G1921
 have w23n : ¬ W19 p23 := (T19.gr G20).own r23n
 obtain ⟨n21, hn21⟩ : ∃ n, S21.nx = up 0 n := ⟨_, up0 _⟩
 have opC : Opened E.1 [oo, iz] [⟨6, [], [], [kid]⟩, ⟨Z.kind, Z.name, Z.names, idz⟩] := ((Opened.nil _).cons (open_self (upE hnz1) kZ9) (upE hnz1)).cons (open_self (upE hn6) (show (6 : Int) ≠ 9 by decide)) (upE hn6)
 rw [wC_seq]; simp only [XY, simprocAttr, hn21]
 refine wCall_plain (ofS (nm := [111, 114, 101, 108, 115, 101]) (x := (E.1, if iz = kid then kid else 0, if iz = kid then 0 else 17)) [oo, iz] T21 hn21 (hnosE _ (by decide)) (by decide +kernel) (many2 _ (.inr (.inr rfl))) (by simp) opC fun S' e T h => by
  have := orB T h rfl rfl
  by_cases c : iz = kid
  ·rw [if_pos c] at this; rw [if_pos c, if_pos c]; exact this
  ·rw [if_neg c] at this; rw [if_neg c, if_neg c]; exact this) ?_
 rintro _ S22 ⟨W22, T22, K22, rfl⟩
 simp only [XY, simprocAttr]
 have r22 := K22.row r21 w19n
 have w22n := K22.out (ne_cells r21) w19n
 have r232 := K22.row r23 w23n
 have w232 := K22.out (ne_cells r23) w23n
 have kvs := K22.sl kvs
 obtain ⟨n22, hn22⟩ : ∃ n, S22.nx = up 0 n := ⟨_, up0 _⟩
 have opD : Opened E.1 [kid] [⟨X.kind, X.name, X.names, idx⟩] := (Opened.nil _).cons (open_self (upE hnx1) kX9) (upE hnx1)
 have hareX : areS [6] [⟨X.kind, X.name, X.names, idx⟩] = false := by unfold areS; simp [x6]
 rw [wC_seq]; simp only [XY, simprocAttr, hn22]
 refine wCall_plain (ofS (nm := [104, 97, 115]) (x := (E.1, 0, 17)) [kid] T22 hn22 (hnosE _ (by decide)) (by decide +kernel) (many1 _ (.inr rfl)) (by simp) opD fun S' e T h => by have := hasB T h; rw [hareX] at this; exact this) ?_
 rintro _ S23 ⟨W23, T23, K23, rfl⟩
 have r24 := K23.row r22 w22n
 have r234 := K23.row r232 w232
 have kvs := K23.sl kvs
 obtain ⟨rk, qk, l1, l2, l3, l4⟩ := SlAt.one (xs := [V.int .i64 (kid : Int)]) (i := 0) kvs (by simp)
 have l1 : iaddrSV 1 kv6 (.int .i64 0) = some (.ptr rk qk, .no) := l1
 simp only [List.getElem_cons_zero] at l4
 rcases hEr with h0 | h0
 ·have hk1 := hnbk h0
  by_cases hq : iz = kid
  ·simp only [XZ, simprocAttr, r24, r234, l1, l4, h0, hk1, hq]
  ·have hq' : ((iz : Int) = (kid : Int)) = False := eq_false (by omega)
   simp only [XZ, simprocAttr, r24, r234, l1, l4, h0, hk1, hq, hq']
 ·by_cases hq : iz = kid
  ·simp only [XZ, simprocAttr, r24, r234, l1, l4, h0, hq]
  ·have hq' : ((iz : Int) = (kid : Int)) = False := eq_false (by omega)
   simp only [XZ, simprocAttr, r24, r234, l1, l4, h0, hq, hq']
end Go.Proofs.Ytlfnhkdeocbimaa
