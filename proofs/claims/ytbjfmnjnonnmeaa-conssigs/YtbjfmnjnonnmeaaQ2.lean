/- The table of a schema of one type. A type added to a table: what is beside it stays. A table used: what is beside it stays. 'known' of chapter 5 is true, by its contracts. Raw trees: few, a kid, a name. A name and a type put into a type. The type that a raw tree is made into. Slices copied: a row of one's own. What is wrong with the names of named types. What named types' names stand for. What is wrong with functions. No condition. -/
import Derived.Test.YtbjfmnjnonnmeaaQ1
set_option linter.unusedVariables false
set_option linter.unusedSimpArgs false
set_option maxRecDepth 100000
namespace Go.Proofs.Ytbjfmnjnonnmeaa
open Eva Go.RowKit
def NewPost (st : St) (v : V) (st' : St) (r : Option Tb × Int) : Prop := match r.1 with
 | none => v = .tup [.pnil, .int .i64 r.2]
 | some tb => ∃ rt W F, v = .tup [.ptr rt 0, .int .i64 0] ∧ Tab W F st' rt tb ∧ ∀ r, W r ∨ F r → st.row r = .none
set_option maxHeartbeats 4000000 in
theorem new0 {P : Pt → Prop} {st : St} {e : List V} {s : Sch} (hw : WF st) (h : SchC P st e s) (h0 : s.types = []) (h00 : s.sigs = []) : Does (tabT tabD) n_cons_New [.agg e] st fun v' st' => Gr st st' ∧ NewPost st v' st' (newS s) := by
 refine does_fnG tabM at_cons_New rfl hw fun K fin => ?_
 obtain ⟨n, hn0⟩ : ∃ n, st.nx = up 0 n := ⟨_, up0 _⟩
 have hnew := newS0 h0 h00
 have hsch := h
 obtain ⟨c, tv, sv, rfl, h1, h2, h3⟩ := h
 obtain ⟨M, hM⟩ : ∃ M, M = s.main := ⟨_, rfl⟩
 rw [← hM] at h1 hnew
 obtain ⟨k, nm, ns, ks⟩ := M
 have h1' := h1
 obtain ⟨nv, kv, es, rfl, x1, x2, x3, x4⟩ := h1.inv'
 rw [h0] at h2
 rw [h00] at h3
 have g0 : Gr st (st.new fun t => .cells t [.int .i64 k, ofL nm, nv, kv, tv, sv]) := Gr.new hw (good_cells _)
 have r0 : (st.new fun t => .cells t [.int .i64 k, ofL nm, nv, kv, tv, sv]).row (up 0 n) = .cells st.t [.int .i64 k, ofL nm, nv, kv, tv, sv] := by simp only [XZ, simprocAttr, hn0]
 simp only [cf_cons_New, XZ, simprocAttr, hn0, x1.sc, x2.sc, h2.sc.1, h3.sc.1, h2.nil_len, h3.nil_len]
 refine wCall_plain (check0 g0.wf (hsch.imp fun r p e => ⟨p, g0.same r e⟩) h0 h00) ?_
 rintro _ S1 ⟨g1, rfl⟩
 have G1 := g0.trans g1
 have b1 := g1.cells r0
 have w1 := g1.wf
 obtain ⟨n1, hn1⟩ : ∃ n, S1.nx = up 0 n := ⟨_, up0 _⟩
 have o10 := fun k => nes (ne_up w1 hn1 (ne_cells b1) k)
 by_cases hc : checkS s = 0
 ·have hc' : (checkS s = 0) = True := eq_true hc
  rw [if_neg (fun h => h hc)] at hnew
  simp only [XZ, simprocAttr, hc', hn1, sc_mnil, cells_mnil, o10, b1, h2.nil_len]
  refine wC_loop1 (by decide) ?_
  simp only [XZ, simprocAttr, hn1, o10, b1]
  obtain ⟨S2, hS2⟩ : ∃ S2, S2 = ((((S1.new fun t => .mob t []).new fun t => .mob t []).new fun t => .mob t []).new fun t => .cells t [.snil, .map (up 0 n1), .map (up 1 n1), .int .i64 0, .map (up 2 n1)]) := ⟨_, rfl⟩
  have g2 : Gr S1 S2 := by rw [hS2]; exact (((Gr.new w1 (good_mob _)).nn (good_mob _)).nn (good_mob _)).nn (good_cells _)
  have hT : Tab (fun r => r = up 0 n1 ∨ r = up 1 n1 ∨ r = up 2 n1 ∨ r = up 3 n1) (fun _ => False) S2 (up 3 n1) emptyTb := by
   refine ⟨.snil, up 0 n1, up 1 n1, up 2 n1, [], [], ⟨⟨_, by rw [hS2]; simp only [XZ, simprocAttr, hn1]; rfl⟩, ⟨.inr (.inr (.inr rfl)), .inl rfl, .inr (.inl rfl), .inr (.inr (.inl rfl))⟩, ?_, fun r f => f.elim, ⟨?_, ?_, ?_⟩, ⟨rfl, .inl ⟨rfl, rfl⟩⟩, fun e h => absurd h (by simp), rfl, fun i h => absurd h (by simp), fun n h => absurd h (by simp [emptyTb]), by decide, ⟨_, by rw [hS2]; simp only [XZ, simprocAttr, hn1]; rfl⟩, ⟨_, by rw [hS2]; simp only [XZ, simprocAttr, hn1]; rfl⟩, ⟨_, by rw [hS2]; simp only [XZ, simprocAttr, hn1]; rfl⟩, rfl, fun i h => absurd h (by simp)⟩⟩
   ·intro r hr
    rcases hr with e | e | e | e
    all_goals rw [hS2, e]; simp only [XZ, simprocAttr, hn1]
    all_goals exact fun e => by cases e
   ·rw [up_ne]; decide
   ·rw [up_ne]; decide
   ·rw [up_ne]; decide
  rw [← hS2]
  have hx : TyC (fun r => P r ∧ st.row r ≠ .none) S2 [.int .i64 k, ofL nm, nv, kv] (.mk k nm ns ks) := h1'.imp fun r p e => ⟨⟨p, e⟩, (G1.trans g2).same r e⟩
  have fresh : ∀ k, st.row (up k n1) = .none := fun k => Ch.fresh (Ch.of (fun _ => False) G1) (nx0 w1 hn1 k)
  refine wCall_plain (addTop g2.wf hT hx (fun r p w => ?_)) ?_
  ·rcases w with w | w | w | w <;> exact p.2 (by rw [w]; exact fresh _)
  rintro _ S3 ⟨c3, ⟨W3, F3, a1, a2, a3, T3⟩, rfl⟩
  by_cases ha : (addT (.mk k nm ns ks) 400 emptyTb).2.2.1 = 0
  ·have ha' : ((addT (.mk k nm ns ks) 400 emptyTb).2.2.1 = 0) = True := eq_true ha
   rw [if_neg (fun h => h ha)] at hnew
   obtain ⟨t3, l3, e3, len3, T4⟩ := T3.setMain (addT (.mk k nm ns ks) 400 emptyTb).2.1
   have b3 : S3.row (up 0 n) = .cells st.t [.int .i64 k, ofL nm, nv, kv, tv, sv] := by
    have h5 := g2.cells b1
    rw [c3.same _ (ne_cells h5) (fun w => by rcases w with w | w | w | w <;> exact absurd w (ne_up w1 hn1 (ne_cells b1) _)), h5]
   have o3 : up 0 n ≠ up 3 n1 := ne_up w1 hn1 (ne_cells b1) 3
   have o3' := nes o3
   have h45 : 3 + 1 ≤ l3.length := by omega
   have h45' : 4 ≤ l3.length := by omega
   simp only [XM, simprocAttr, ha', e3, h45', o3', b3, h3.nil_len]
   refine wC_loop1 (by decide) ?_
   simp only [XZ, simprocAttr]
   refine fin _ _ (fun r e => ?_) fun _ => ?_
   ·have e1 : r ≠ up 3 n1 := fun k => e (by rw [k]; exact fresh 3)
    rw [row_wrI, if_neg e1, c3.same r (by rw [(G1.trans g2).same r e]; exact e) (fun w => by rcases w with w | w | w | w <;> exact e (by rw [w]; exact fresh _)), (G1.trans g2).same r e]
   ·rw [hnew]
    refine ⟨up 3 n1, W3, F3, rfl, T4, fun r w => ?_⟩
    have fr : S2.row r = .none → st.row r = .none := fun h => Ch.fresh (Ch.of (fun _ => False) (G1.trans g2)) h
    rcases w with w | w
    ·rcases a2 r w with w | w
     ·rcases w with w | w | w | w <;> (rw [w]; exact fresh _)
     ·exact fr w
    ·rcases a3 r w with w | w
     ·exact w.elim
     ·exact fr w
  ·have ha' : ((addT (.mk k nm ns ks) 400 emptyTb).2.2.1 = 0) = False := eq_false ha
   rw [if_pos ha] at hnew
   simp only [XZ, simprocAttr, ha']
   refine fin _ _ (fun r e => ?_) fun _ => ?_
   ·rw [c3.same r (by rw [(G1.trans g2).same r e]; exact e) (fun w => by rcases w with w | w | w | w <;> exact e (by rw [w]; exact fresh _)), (G1.trans g2).same r e]
   ·rw [hnew]; exact rfl
 ·have hc' : (checkS s = 0) = False := eq_false hc
  rw [if_pos hc] at hnew
  simp only [XZ, simprocAttr, hc']
  refine fin _ _ (fun r e => G1.same r e) fun _ => ?_
  rw [hnew]; exact rfl
theorem addX {W : Pt → Prop} {st : St} {rt : Pt} {tb : Tb} {e : List V} {ty : Ty} (hT : TabX st W rt tb) (hx : TyC (fun r => ¬ W r) st e ty) :
  Does (tabT tabD) n_cons_Table_Add [.ptr rt 0, .agg e] st fun v S => ∃ W', TabX S W' rt (addT ty 400 tb).1 ∧ Kept st W S W' ∧ v = .tup [.int .i64 ((addT ty 400 tb).2.1 : Nat), .int .i64 (addT ty 400 tb).2.2.1] := by
 obtain ⟨hw, F, hT⟩ := hT
 refine (addTop hw hT hx fun r n => n).mono ?_
 rintro v S ⟨c, ⟨W', F', b1, b2, b3, T'⟩, rfl⟩
 exact ⟨W', ⟨c.wf, F', T'⟩, Kept.ch c b2, rfl⟩
theorem addZ {W Z : Pt → Prop} {st : St} {rt : Pt} {tb : Tb} {e : List V} {ty : Ty} (hT : TabZ st W Z rt tb) (hZ : ∀ r, Z r → st.row r ≠ .none) (hx : TyC (fun r => ¬ W r) st e ty) :
  Does (tabT tabD) n_cons_Table_Add [.ptr rt 0, .agg e] st fun v S => ∃ W', TabZ S W' Z rt (addT ty 400 tb).1 ∧ Kept st W S W' ∧ v = .tup [.int .i64 ((addT ty 400 tb).2.1 : Nat), .int .i64 (addT ty 400 tb).2.2.1] := by
 obtain ⟨hw, F, hT, hF⟩ := hT
 refine (addTop hw hT hx fun r n => n).mono ?_
 rintro v S ⟨c, ⟨W', F', b1, b2, b3, T'⟩, rfl⟩
 exact ⟨W', ⟨c.wf, F', T', fun r f z => by rcases b3 r f with f | f; exact hF r f z; exact hZ r z f⟩, Kept.ch c b2, rfl⟩
theorem lenX {W : Pt → Prop} {st : St} {rt : Pt} {tb : Tb} (hT : TabX st W rt tb) : Does (tabT tabD) n_cons_Table_Len [.ptr rt 0] st fun v S => v = .int .i64 tb.nodes.length ∧ st = S := by
 obtain ⟨hw, F, hT⟩ := hT
 exact lenC hT
theorem mainX {W : Pt → Prop} {st : St} {rt : Pt} {tb : Tb} (hT : TabX st W rt tb) : Does (tabT tabD) n_cons_Table_Main [.ptr rt 0] st fun v S => v = .int .i64 tb.main ∧ st = S := by
 obtain ⟨hw, F, hT⟩ := hT
 exact mainC hT
theorem schC1 {P : Pt → Prop} {st : St} {e : List V} {t : Ty} (h : TyC P st e t) : SchC P st (e ++ [.snil, .snil]) ⟨t, [], []⟩ :=
 ⟨e, .snil, .snil, rfl, h, ⟨[], SlAt.nil _ _ _, rfl, fun i h => absurd h (by simp)⟩, ⟨[], SlAt.nil _ _ _, rfl, fun i h => absurd h (by simp)⟩⟩
theorem newX1 {P : Pt → Prop} {st : St} {e : List V} {t : Ty} (hw : WF st) (h : TyC P st e t) : Does (tabT tabD) n_cons_New [.agg (e ++ [.snil, .snil])] st fun v S => Gr st S ∧ NewX st v S (newS ⟨t, [], []⟩) := by
 refine (new0 hw (schC1 h) rfl rfl).mono ?_
 rintro v S ⟨g, hp⟩
 refine ⟨g, ?_⟩
 unfold NewPost at hp
 unfold NewX
 cases hn : (newS ⟨t, [], []⟩).1 with
 | none => rw [hn] at hp; exact hp
 | some tb =>
   rw [hn] at hp
   obtain ⟨rt, W, F, h1, h2, h3⟩ := hp
   exact ⟨rt, W, h1, ⟨g.wf, F, h2⟩, fun r e _ => ⟨g.same r e, fun w => e (h3 r (.inl w))⟩⟩
def knX : Ty := .mk 2 [] [] []
def knY : Tb := ⟨[⟨2, [], [], []⟩], [], 0, []⟩
theorem kn_new5 : newS ⟨knX, [], []⟩ = (some knY, 0) := by kernel_rfl
theorem known5 (st : St) (hw : WF st) : Does (tabT tabD) n_spruelaw5_known [] st fun v S => Gr st S ∧ v = .bool true := by
 refine does_fnG tabM at_spruelaw5_known rfl hw fun K fin => ?_
 simp only [cf_spruelaw5_known, XY, simprocAttr]
 rw [wC_seq]; simp only [XY, simprocAttr]
 rw [wC_seq]; simp only [XY, simprocAttr]
 refine wCall_plain (newX1 hw (base_at (fun _ => True) st 2)) ?_
 rintro v S1 ⟨G1, hp⟩
 rw [show newS ⟨.mk 2 [] [] [], [], []⟩ = (some knY, 0) from kn_new5] at hp
 obtain ⟨rt, W, rfl, T1, K1⟩ := hp
 simp only [XY, simprocAttr]
 rw [wC_seq]; simp only [XY, simprocAttr, neV_pn]
 refine wCall_plain (lenX T1) ?_
 rintro _ _ ⟨rfl, rfl⟩
 simp only [XY, simprocAttr, knY, Int.natCast_one]
 refine wCall_plain (mainX T1) ?_
 rintro _ _ ⟨rfl, rfl⟩
 simp only [XZ, simprocAttr, knY, Int.natCast_zero]
 exact fin _ _ (fun r e => G1.same r e) fun _ => rfl
theorem within3C (a n : Int) (st : St) (h0 : 0 < n) (h1 : n < 4611686018427387904) : Does (tabT tabD) n_spruelaw3_within [.int .i64 a, .int .i64 n] st fun v st' => v = .int .i64 (a % n) ∧ st = st' := by
 refine does_fn at_spruelaw3_within rfl ?_
 have hn : n ≠ 0 := by omega
 have e1 := Int.emod_nonneg a hn
 have e2 := Int.emod_lt_of_pos a h0
 rcases tmodC a h0 with ⟨h3, h4⟩ | ⟨h3, h4⟩
 ·simp only [cf_spruelaw3_within, XZ, simprocAttr, hn, h3]
  rw [h4]
 ·have hw : IntKind.i64.wrap (a.tmod n + n) = a % n := by rw [h4, i64_in (by omega) (by omega)]
  simp only [cf_spruelaw3_within, XZ, simprocAttr, hn, h3, hw]
theorem nameC (z : Int) (st : St) (hw : WF st) : Does (tabT tabD) n_spruelaw3_Name [.int .i64 z] st fun v st' => Gr st st' ∧ v = ofL (nameS z) := by
 refine does_fn at_spruelaw3_Name rfl ?_
 obtain ⟨q, hq⟩ : ∃ q, st.nx = q := ⟨_, rfl⟩
 simp only [cf_spruelaw3_Name, XZ, simprocAttr, hq]
 refine wCall_plain (within3C z 7 _ (by decide) (by decide)) ?_
 rintro _ _ ⟨rfl, rfl⟩
 have e1 := Int.emod_nonneg z (show (7 : Int) ≠ 0 by decide)
 have e2 := Int.emod_lt_of_pos z (show (0 : Int) < 7 by decide)
 obtain ⟨m, hm⟩ : ∃ m : Nat, z % 7 = m := ⟨(z % 7).toNat, by omega⟩
 have hs : nameS z = nms7.getD m [] := by unfold nameS; rw [hm]; rfl
 rw [hm] at e1 e2 ⊢
 rw [hs]
 clear hs hm
 have hg : ∀ l, Gr st (st.new fun u => .cells u l) := fun l => Gr.new hw (good_cells _)
 have hr : (st.new fun u => Row.cells u [ofL [97], ofL [98], ofL [99], ofL [110, 97, 109, 101], ofL [110], ofL [73, 110, 116], ofL [116, 121, 112, 101]]).row q = .cells st.t [ofL [97], ofL [98], ofL [99], ofL [110, 97, 109, 101], ofL [110], ofL [73, 110, 116], ofL [116, 121, 112, 101]] := by rw [← hq]; exact row_new_nx _ _
 have c : m = 0 ∨ m = 1 ∨ m = 2 ∨ m = 3 ∨ m = 4 ∨ m = 5 ∨ m = 6 := by omega
 rcases c with rfl | rfl | rfl | rfl | rfl | rfl | rfl
 all_goals simp only [XZ, simprocAttr, hr]
 all_goals first | exact ⟨⟨by decide, by decide⟩, hg _, rfl⟩ | exact ⟨hg _, rfl⟩
theorem wrap64 (z : Int) : In64 (IntKind.i64.wrap z) := by
 have h1 := Int.emod_nonneg z (show (18446744073709551616 : Int) ≠ 0 by decide)
 have h2 := Int.emod_lt_of_pos z (show (0 : Int) < 18446744073709551616 by decide)
 have e : IntKind.i64.wrap z = if (9223372036854775808 : Int) ≤ z % 18446744073709551616 then z % 18446744073709551616 - 18446744073709551616 else z % 18446744073709551616 := by
  simp [IntKind.wrap, IntKind.bits, IntKind.signed]
 unfold In64
 rw [e]
 split <;> omega
set_option maxHeartbeats 1000000 in
theorem kidC {P : Pt → Prop} {st : St} {e : List V} {r : Rw} (hw : WF st) (h : RwC P st e r) (i : Nat) (hi : i < 1000) : Does (tabT tabD) n_spruelaw3_kid [.agg e, .int .i64 i] st fun v st' => Gr st st' ∧ ∃ e', v = .agg e' ∧ RwC P st' e' (kidS r i) := by
 refine does_fn at_spruelaw3_kid rfl ?_
 obtain ⟨nv, kv, es, rfl, hk, hn, hz, h1, h2, h3, ⟨hl1, hl2⟩, h4⟩ := h.inv
 obtain ⟨n0, hn0⟩ : ∃ n, st.nx = up 0 n := ⟨_, up0 _⟩
 have c1 := h1.cells
 have s1 := h1.sc
 have c2 := h2.cells
 have s2 := h2.sc
 have len2 := h2.len
 simp only [cf_spruelaw3_kid, XY, simprocAttr]
 rw [wC_seq]; simp only [XY, simprocAttr, hn0, c1, s1, c2, s2]
 have rel : ∀ f g : Nat → Row, Gr st ((st.new f).new g) → True := fun _ _ _ => trivial
 have gg : Gr st ((st.new fun t => .cells t [.int .i64 r.kind, .int .i64 r.n, nv, kv]).new fun t => .cells t [.int .i64 0, .int .i64 0, .snil, .snil]) := ((Gr.refl hw).nn (good_cells _)).nn (good_cells _)
 by_cases h0 : r.kids.length = 0
 ·rw [h3, h0] at len2
  rw [wC_seqj, wC_seq]; simp only [XZ, simprocAttr, hn0, len2, Int.natCast_zero]
  have gw := gg.wr (p := up 1 n0) (f := fun u => .cells u [.int .i64 (IntKind.i64.wrap (r.n + i)), .int .i64 r.kind, .snil, .snil]) (nx0 hw hn0 1) (by simp only [XZ, simprocAttr, hn0]) (by simp only [XZ, simprocAttr, hn0]; rfl) (good_cells _)
  refine ⟨gw, _, rfl, ?_⟩
  rw [kidS, if_pos h0]
  exact .mk (es := []) (wrap64 _) hk (fun z hz => absurd hz (by simp)) (SlAt.nil _ _ _) (SlAt.nil _ _ _) rfl ⟨by decide, by decide⟩ fun i h => absurd h (by simp)
 ·have h0' : (es.length : Int) ≠ 0 := by omega
  rw [wC_seqj, wC_seq]; simp only [XY, simprocAttr, hn0, len2, h0']
  have hj : i % es.length < es.length := Nat.mod_lt _ (by omega)
  have hmod : (i : Int).tmod (es.length : Int) = ((i % es.length : Nat) : Int) := rfl
  obtain ⟨q, o, a1, a2, a3, a4, a5⟩ := h2.elem hj
  have hkid := h4 _ hj (by omega)
  obtain ⟨nv', kv', es', he, hk', hn', hz', b1, b2, b3, b4, b5⟩ := hkid.inv
  rw [he] at a4
  have c3 := b1.cells
  have s3 := b1.sc
  have c4 := b2.cells
  have s4 := b2.sc
  have oq := fun k => nes (ne_up hw hn0 a3 k)
  simp only [XZ, simprocAttr, hn0, len2, h0', hmod, a1, a4, c3, s3, c4, s4, oq]
  have gw := gg.wr (p := up 1 n0) (f := fun u => .cells u [.int .i64 r.kids[i % es.length].kind, .int .i64 r.kids[i % es.length].n, nv', kv']) (nx0 hw hn0 1) (by simp only [XZ, simprocAttr, hn0]) (by simp only [XZ, simprocAttr, hn0]; rfl) (good_cells _)
  refine ⟨gw, _, rfl, ?_⟩
  have e : ∀ j, j = i % r.kids.length → ∀ hj' : j < r.kids.length, kidS r i = r.kids[j] := by
   rintro j rfl hj'
   rw [kidS, if_neg h0]
   simp only [List.getD_eq_getElem?_getD, List.getElem?_eq_getElem hj', Option.getD_some]
  rw [e (i % es.length) (by rw [h3]) (by omega)]
  have := hkid.gr gw
  rw [he] at this
  exact this
set_option maxHeartbeats 1000000 in
theorem fewC {P : Pt → Prop} {st0 : St} {e : List V} {r : Rw} (h : RwC P st0 e r) : ∀ (st : St), Gr st0 st → ∀ most : Int, -4611686018427387904 < most → most < 4611686018427387904 → Does (tabT tabD) n_spruelaw3_Few [.agg e, .int .i64 most] st fun v st' => Gr st st' ∧ ∃ m, v = .int .i64 m ∧ 0 ≤ m ∧ (m ≤ most ∨ m = 0) := by
 induction h with
 | @mk rk rn zs ks nv kv es hk hn hz h1 h2 h3 hl h4 ih =>
 intro st g0 most hm1 hm2
 have hw := g0.wf
 refine does_fn at_spruelaw3_Few rfl ?_
 obtain ⟨n0, hn0⟩ : ∃ n, st.nx = up 0 n := ⟨_, up0 _⟩
 have c1 := h1.cells
 have s1 := h1.sc
 have c2 := h2.cells
 have s2 := h2.sc
 have len1 := h1.len
 have len2 := h2.len
 rw [cellsI_len] at len1
 simp only [cf_spruelaw3_Few, XY, simprocAttr]
 rw [wC_seq]; simp only [XY, simprocAttr, hn0, c1, s1, c2, s2]
 have gb : Gr st (st.new fun t => .cells t [.int .i64 rk, .int .i64 rn, nv, kv]) := Gr.new hw (good_cells _)
 by_cases h0 : most ≤ 0
 ·rw [wC_seqj, wC_seq]; simp only [XZ, simprocAttr, h0]
  exact ⟨gb, 0, rfl, by omega, .inr rfl⟩
 by_cases ha : (10 : Int) < es.length
 ·rw [wC_seqj, wC_seq]; simp only [XZ, simprocAttr, h0, hn0, len2, ha]
  exact ⟨gb, 0, rfl, by omega, .inr rfl⟩
 by_cases hb : (20 : Int) < zs.length
 ·rw [wC_seqj, wC_seq]; simp only [XZ, simprocAttr, h0, hn0, len2, len1, ha, hb]
  exact ⟨gb, 0, rfl, by omega, .inr rfl⟩
 rw [wC_seqj, wC_seq]; simp only [XY, simprocAttr, h0, hn0, len2, len1, ha, hb]
 have hsub : IntKind.i64.wrap (most - 1) = most - 1 := i64_in (by omega) (by omega)
 rw [wC_seq]; simp only [XY, simprocAttr, hsub]
 obtain ⟨J, hJ⟩ : ∃ J : Fr → St → Prop, ∀ fr S, J fr S ↔ (Gr st S ∧ ∃ m, fr 1 = .int .i64 m ∧ 0 ≤ m ∧ m ≤ most) := ⟨_, fun _ _ => Iff.rfl⟩
 refine wC_cut J ?_ ?_
 ·rw [wC_seq]; simp only [XY, simprocAttr]
  obtain ⟨L, hL⟩ : ∃ L : Nat → Fr → St → Prop, ∀ j fr S, L j fr S ↔ ∃ (i : Nat) (m t : Int), j + i = es.length ∧ Gr st S ∧ fr 1 = .int .i64 m ∧ 0 ≤ m ∧ m ≤ most ∧ fr 2 = .ptr (up 0 n0) 0 ∧ fr 5 = .int .i64 i ∧ S.row (up 0 n0) = .cells st.t [.int .i64 rk, .int .i64 rn, nv, kv] := ⟨_, fun _ _ _ => Iff.rfl⟩
  refine wC_loop L es.length (by omega) ((hL _ _ _).2 ⟨0, most - 1, 0, by omega, gb, by simp only [XZ, simprocAttr], by omega, by omega, by simp only [XZ, simprocAttr], by simp only [XZ, simprocAttr] <;> rfl, by rw [← hn0]; exact row_new_nx _ _⟩) ?_
  intro j fr S hLj
  obtain ⟨i, m, _, hj, hg, f1, hm3, hm4, f2, f5, rb⟩ := (hL _ _ _).1 hLj
  by_cases hi : i < es.length
  ·have hi' : (i : Int) < es.length := by omega
   by_cases hm0 : 0 < m
   ·obtain ⟨q, o, a1, a2, a3, a4, a5⟩ := (h2.gr (g0.trans hg)).elem hi
    have hadd1 : IntKind.i64.wrap ((i : Int) + 1) = ((i + 1 : Nat) : Int) := by rw [i64_in (by omega) (by omega)]; rfl
    simp only [XZ, simprocAttr, f1, f2, f5, rb, len2, hi', hm0, a1, a4]
    refine wCall_plain (ih i hi (by omega) S (g0.trans hg) m (by omega) (by omega)) ?_
    rintro _ S' ⟨g', m', rfl, b1, b2⟩
    simp only [XZ, simprocAttr, f1, f2, f5, hadd1]
    exact ⟨es.length - (i + 1), by omega, (hL _ _ _).2 ⟨i + 1, m', 0, by omega, hg.trans g', by simp only [XZ, simprocAttr], b1, by omega, by simp only [XZ, simprocAttr, f2], by simp only [XZ, simprocAttr], g'.cells rb⟩⟩
   ·simp only [XZ, simprocAttr, f1, f2, f5, rb, len2, hi', hm0]
    exact (hJ _ _).2 ⟨hg, m, by simp only [XZ, simprocAttr, f1], hm3, hm4⟩
  ·have hi' : ¬ (i : Int) < es.length := by omega
   simp only [XZ, simprocAttr, f1, f2, f5, rb, len2, hi']
   exact (hJ _ _).2 ⟨hg, m, by simp only [XZ, simprocAttr, f1], hm3, hm4⟩
 intro fr S hJf
 obtain ⟨hg, m, f1, hm3, hm4⟩ := (hJ _ _).1 hJf
 simp only [XZ, simprocAttr, f1]
 exact ⟨hg, m, rfl, hm3, .inl hm4⟩
theorem idx_ins {α β : Type} {R : α → β → Prop} {x : α} {y : β} (hxy : R x y) : ∀ (k : Nat) {es : List α} {ks : List β}, es.length = ks.length → (∀ i (h : i < es.length) (h' : i < ks.length), R es[i] ks[i]) → ∀ i (h : i < (es.take k ++ x :: es.drop k).length) (h' : i < (ks.take k ++ y :: ks.drop k).length), R (es.take k ++ x :: es.drop k)[i] (ks.take k ++ y :: ks.drop k)[i]
 | 0, es, ks, hl, h, i, h1, h2 => by
   simp only [List.take_zero, List.nil_append, List.drop_zero]
   cases i with
   | zero => exact hxy
   | succ i => exact h i (by simpa using h1) (by simpa using h2)
 | k + 1, [], [], hl, h, i, h1, h2 => by
   cases i with
   | zero => exact hxy
   | succ i => simp at h1
 | k + 1, e :: es, c :: ks, hl, h, i, h1, h2 => by
   cases i with
   | zero => exact h 0 (by simp) (by simp)
   | succ i => exact idx_ins hxy k (by simpa using hl) (fun j a b => h (j + 1) (by simpa using a) (by simpa using b)) i (by simpa using h1) (by simpa using h2)
theorem apart_cons {fr : Fr} {p : List Nat × List Nat} {l : List (List Nat × List Nat)} (h1 : apartAll fr [p] = true) (h2 : apartAll fr l = true) : apartAll fr (p :: l) = true := by
 simp only [apartAll, List.all_cons, List.all_nil, Bool.and_true] at h1 h2 ⊢
 rw [h1, Bool.true_and]; exact h2
set_option maxHeartbeats 4000000 in
theorem putC {P : Pt → Prop} {st : St} {t x : Ty} {te xe : List V} (n : Str) (hw : WF st) (ht : TyC P st te t) (hx : TyC P st xe x) (hlen : t.names.length ≤ 8) (hk : t.kids.length = t.names.length) (hP : ∀ r, st.row r = .none → P r) :
  Does (tabT tabD) n_spruelaw3_put [.agg te, ofL n, .agg xe] st fun v st' => Gr st st' ∧ ∃ e', v = .agg e' ∧ TyC P st' e' (putS t n x) := by
 refine does_fn at_spruelaw3_put rfl ?_
 obtain ⟨n0, hn0⟩ : ∃ n, st.nx = up 0 n := ⟨_, up0 _⟩
 have htt := ht
 have hxx := hx
 cases ht with
 | @mk tk tn ns ks nv kv es h1 h2 h3 h4 =>
 cases hx with
 | @mk xk xn xns xks xnv xkv xes x1 x2 x3 x4 =>
 simp only [Ty.names, Ty.kids] at hlen hk
 have c1 := h1.cells
 have s1 := h1.sc
 have c2 := h2.cells
 have s2 := h2.sc
 have c3 := x1.cells
 have s3 := x1.sc
 have c4 := x2.cells
 have s4 := x2.sc
 have len1 := h1.len
 rw [strs_len] at len1
 obtain ⟨b1, hb1⟩ : ∃ b, b = up 0 n0 := ⟨_, rfl⟩
 obtain ⟨b2, hb2⟩ : ∃ b, b = up 1 n0 := ⟨_, rfl⟩
 obtain ⟨b3, hb3⟩ : ∃ b, b = up 2 n0 := ⟨_, rfl⟩
 obtain ⟨I, hI⟩ : ∃ I : Fr → St → Prop, ∀ fr S, I fr S ↔ (fr 1 = ofL n ∧ fr 3 = .ptr b1 0 ∧ fr 5 = .ptr b2 0 ∧ fr 6 = .ptr b3 0 ∧ Gr st S ∧ (∃ t, S.row b1 = .cells t [.int .i64 tk, ofL tn, nv, kv]) ∧ (∃ t, S.row b2 = .cells t [.int .i64 xk, ofL xn, xnv, xkv]) ∧ (∃ t, S.row b3 = .cells t [.int .i64 0, ofL [], .snil, .snil])) := ⟨_, fun _ _ => Iff.rfl⟩
 have u01 : up 0 n0 ≠ up 1 n0 := by simp only [XZ, simprocAttr]
 have u02 : up 0 n0 ≠ up 2 n0 := by simp only [XZ, simprocAttr]
 have u12 : up 1 n0 ≠ up 2 n0 := by simp only [XZ, simprocAttr]
 simp only [cf_spruelaw3_put, XY, simprocAttr]
 refine wC_scut I ?_ ?_
 ·simp only [XZ, simprocAttr, hn0, c1, s1, c2, s2, c3, s3, c4, s4]
  refine (hI _ _).2 ⟨by simp only [XZ, simprocAttr], by simp only [XZ, simprocAttr, hb1], by simp only [XZ, simprocAttr, hb2], by simp only [XZ, simprocAttr, hb3], (((Gr.refl hw).nn (good_cells _)).nn (good_cells _)).nn (good_cells _), ⟨_, by rw [hb1]; simp only [XZ, simprocAttr, hn0]; rfl⟩, ⟨_, by rw [hb2]; simp only [XZ, simprocAttr, hn0]; rfl⟩, ⟨_, by rw [hb3]; simp only [XZ, simprocAttr, hn0]; rfl⟩⟩
 intro fr S1 hIf
 obtain ⟨f1, f3, f5, f6, g1, ⟨t1, r1⟩, ⟨t2, r2⟩, ⟨t3, r3⟩⟩ := (hI _ _).1 hIf
 obtain ⟨k, hkp⟩ : ∃ k, k = placeS n ns := ⟨_, rfl⟩
 have hkl : k ≤ ns.length := by rw [hkp]; exact placeS_le _ _
 have l1 : (strs ns).length = ns.length := strs_len _
 have elem : ∀ i (h : i < ns.length), ∃ q o, iaddrSV 1 nv (.int .i64 i) = some (.ptr q o, .no) ∧ ld1 (S1.row q) o = some (ofL ns[i], .no) := fun i h => by
  obtain ⟨q, o, a1, a2, a3, a4, a5⟩ := (h1.gr g1).elem (i := i) (by omega)
  refine ⟨q, o, a1, ?_⟩
  have e : (strs ns)[i] = [ofL ns[i]] := by simp [strs]
  have := a5 0 (by rw [e]; simp)
  simp only [e] at this
  exact this
 rw [wC_seq]; simp only [XY, simprocAttr]
 obtain ⟨J, hJ⟩ : ∃ J : Fr → St → Prop, ∀ fr S, J fr S ↔ (S1 = S ∧ fr 1 = ofL n ∧ fr 3 = .ptr b1 0 ∧ fr 5 = .ptr b2 0 ∧ fr 6 = .ptr b3 0 ∧ fr 7 = .int .i64 k) := ⟨_, fun _ _ => Iff.rfl⟩
 refine wC_cut J ?_ ?_
 ·simp only [XY, simprocAttr]
  obtain ⟨L, hL⟩ : ∃ L : Nat → Fr → St → Prop, ∀ j fr S, L j fr S ↔ ∃ i : Nat, j + i = k ∧ S1 = S ∧ fr 1 = ofL n ∧ fr 3 = .ptr b1 0 ∧ fr 5 = .ptr b2 0 ∧ fr 6 = .ptr b3 0 ∧ fr 7 = .int .i64 i := ⟨_, fun _ _ _ => Iff.rfl⟩
  refine wC_loop L k (by omega) ((hL _ _ _).2 ⟨0, by omega, rfl, by simp only [XZ, simprocAttr, f1], by simp only [XZ, simprocAttr, f3], by simp only [XZ, simprocAttr, f5], by simp only [XZ, simprocAttr, f6], by simp only [XZ, simprocAttr] <;> rfl⟩) ?_
  clear f1 f3 f5 f6
  intro j fr S hLj
  obtain ⟨i, hj, rfl, f1, f3, f5, f6, f7⟩ := (hL _ _ _).1 hLj
  by_cases hi : i < ns.length
  ·have hi' : (i : Int) < ns.length := by omega
   obtain ⟨q, o, a1, a2⟩ := elem i hi
   by_cases hik : i < k
   ·have hlt : Op.bytesLess ns[i] n = true := placeS_lt n ns i hi (by omega)
    have hadd1 : IntKind.i64.wrap ((i : Int) + 1) = ((i + 1 : Nat) : Int) := by rw [i64_in (by omega) (by omega)]; rfl
    simp only [XZ, simprocAttr, f1, f3, f5, f6, f7, r1, len1, hi', a1, a2, hlt, hadd1]
    exact ⟨k - (i + 1), by omega, (hL _ _ _).2 ⟨i + 1, by omega, rfl, by simp only [XZ, simprocAttr, f1], by simp only [XZ, simprocAttr, f3], by simp only [XZ, simprocAttr, f5], by simp only [XZ, simprocAttr, f6], by simp only [XZ, simprocAttr]⟩⟩
   ·have hik : i = k := by omega
    subst hik
    have hlt : Op.bytesLess ns[i] n = false := by
     have := placeS_at n ns (by omega)
     simp only [← hkp] at this
     exact this
    simp only [XZ, simprocAttr, f1, f3, f5, f6, f7, r1, len1, hi', a1, a2, hlt]
    exact (hJ _ _).2 ⟨rfl, by simp only [XZ, simprocAttr, f1], by simp only [XZ, simprocAttr, f3], by simp only [XZ, simprocAttr, f5], by simp only [XZ, simprocAttr, f6], by simp only [XZ, simprocAttr, f7]⟩
  ·have hi' : ¬ (i : Int) < ns.length := by omega
   have hik : i = k := by omega
   subst hik
   simp only [XZ, simprocAttr, f1, f3, f5, f6, f7, r1, len1, hi']
   exact (hJ _ _).2 ⟨rfl, by simp only [XZ, simprocAttr, f1], by simp only [XZ, simprocAttr, f3], by simp only [XZ, simprocAttr, f5], by simp only [XZ, simprocAttr, f6], by simp only [XZ, simprocAttr, f7]⟩
 clear f1 f3 f5 f6
 intro fr S hJf
 obtain ⟨rfl, f1, f3, f5, f6, f7⟩ := (hJ _ _).1 hJf
 have n3 : st.row b3 = .none := by rw [hb3]; exact nx0 hw hn0 2
 have n1 : st.row b1 = .none := by rw [hb1]; exact nx0 hw hn0 0
 by_cases hsame : ns[k]? = some n
 ·have hi : k < ns.length := by
   rcases Nat.lt_or_ge k ns.length with h | h
   ·exact h
   ·rw [List.getElem?_eq_none h] at hsame; cases hsame
  have hi' : (k : Int) < ns.length := by omega
  obtain ⟨q, o, a1, a2⟩ := elem k hi
  have hnk : ns[k] = n := by rw [List.getElem?_eq_getElem hi] at hsame; injection hsame
  rw [hnk] at a2
  rw [wC_seqj, wC_seq]; simp only [XZ, simprocAttr, f1, f3, f5, f6, f7, r1, r3, len1, hi', a1, a2, c1, s1, c2, s2]
  have gw := g1.wr (f := fun u => .cells u [.int .i64 tk, ofL tn, nv, kv]) n3 (ne_cells r3) (by rw [r3]) (good_cells _)
  refine ⟨gw, _, rfl, ?_⟩
  have e : putS (.mk tk tn ns ks) n (.mk xk xn xns xks) = .mk tk tn ns ks := by
   rw [putS]
   show (if ns[placeS n ns]? = some n then _ else _) = _
   rw [← hkp, if_pos hsame]
  rw [e]
  exact htt.gr gw
 ·skip
  obtain ⟨M, hM⟩ : ∃ M : Fr → St → Prop, ∀ fr S, M fr S ↔ (S1 = S ∧ fr 1 = ofL n ∧ fr 3 = .ptr b1 0 ∧ fr 5 = .ptr b2 0 ∧ fr 6 = .ptr b3 0 ∧ fr 7 = .int .i64 k) := ⟨_, fun _ _ => Iff.rfl⟩
  refine wC_cut M ?_ ?_
  ·by_cases hi : k < ns.length
   ·have hi' : (k : Int) < ns.length := by omega
    obtain ⟨q, o, a1, a2⟩ := elem k hi
    have hne : (ns[k] = n) = False := eq_false fun e => hsame (by rw [List.getElem?_eq_getElem hi]; exact congrArg some e)
    simp only [XZ, simprocAttr, f1, f3, f5, f6, f7, r1, len1, hi', a1, a2, str_heq, hne]
    exact (hM _ _).2 ⟨rfl, by simp only [XZ, simprocAttr, f1], by simp only [XZ, simprocAttr, f3], by simp only [XZ, simprocAttr, f5], by simp only [XZ, simprocAttr, f6], by simp only [XZ, simprocAttr, f7]⟩
   ·have hi' : ¬ (k : Int) < ns.length := by omega
    simp only [XZ, simprocAttr, f1, f3, f5, f6, f7, r1, len1, hi']
    exact (hM _ _).2 ⟨rfl, by simp only [XZ, simprocAttr, f1], by simp only [XZ, simprocAttr, f3], by simp only [XZ, simprocAttr, f5], by simp only [XZ, simprocAttr, f6], by simp only [XZ, simprocAttr, f7]⟩
  clear f1 f3 f5 f6 f7
  intro fr S hMf
  obtain ⟨rfl, f1, f3, f5, f6, f7⟩ := (hM _ _).1 hMf
  have w1 := g1.wf
  have hkl' : k ≤ (strs ns).length := by omega
  have hkl2 : k ≤ es.length := by omega
  obtain ⟨va, hva, sa, _⟩ := cut_hi (h1.gr g1) (k := k) hkl'
  obtain ⟨vb, hvb, sb, _⟩ := cut_lo (h1.gr g1) (k := k) hkl'
  obtain ⟨vc, hvc, sc, _⟩ := cut_hi (h2.gr g1) (k := k) hkl2
  obtain ⟨vd, hvd, sd, _⟩ := cut_lo (h2.gr g1) (k := k) hkl2
  have hva' : ∀ S', cutLV S' 1 nv none (some (.int .i64 (k : Int))) none = some (va, .no) := fun _ => hva
  have hvb' : ∀ S', cutLV S' 1 nv (some (.int .i64 (k : Int))) none none = some (vb, .no) := fun _ => hvb
  have hvc' : ∀ S', cutLV S' 4 kv none (some (.int .i64 (k : Int))) none = some (vc, .no) := fun _ => hvc
  have hvd' : ∀ S', cutLV S' 4 kv (some (.int .i64 (k : Int))) none none = some (vd, .no) := fun _ => hvd
  obtain ⟨m1, hm1⟩ : ∃ n, S1.nx = up 0 n := ⟨_, up0 _⟩
  have ob1 := fun j => nes (ne_up w1 hm1 (ne_cells r1) j)
  have ob2 := fun j => nes (ne_up w1 hm1 (ne_cells r2) j)
  have ob3 := fun j => nes (ne_up w1 hm1 (ne_cells r3) j)
  have okt : ∀ (z : Nat) (l : List (List V)) (q : Nat), okC l → okC (l.take q) := fun _ l q h e he => h e (List.mem_of_mem_take he)
  have okd : ∀ (z : Nat) (l : List (List V)) (q : Nat), okC l → okC (l.drop q) := fun _ l q h e he => h e (List.mem_of_mem_drop he)
  have gn : ∀ S : St, WF S → ∀ l, Gr S (S.new fun t => .cells t l) := fun S w l => Gr.new w (good_cells _)
  have hes : okC es := fun e he => by
   obtain ⟨i, hi, rfl⟩ := List.getElem_of_mem he
   exact (h4 i hi (by omega)).ok
  rw [wC_seq]; simp only [XY, simprocAttr, f3, f7, r1, hm1, ob1, hva']
  have ga := gn S1 w1 []
  have hq0 : SlF S1 (S1.new fun t => .cells t []) (.slx (up 0 m1) 0 0 1 0) 1 [] := ⟨by simp, .inr ⟨up 0 m1, S1.t, nx0 w1 hm1 0, by simp only [XZ, simprocAttr, hm1]; rfl, .inr rfl⟩⟩
  refine wW_appF (S0 := S1) ga hq0 (sa.gr ga) (okt 1 _ _ (strs_ok ns)) (by rw [List.length_take]; omega) (by rw [List.length_take]; simp; omega) ?_
  intro S2 v2 g2 h2' _
  rw [List.nil_append] at h2'
  simp only [XY, simprocAttr]
  have b1at : S2.row b1 = .cells t1 [.int .i64 tk, ofL tn, nv, kv] := g2.cells r1
  obtain ⟨m2, hm2⟩ : ∃ n, S2.nx = up 0 n := ⟨_, up0 _⟩
  have w2 := g2.wf
  have ob1 := fun j => nes (ne_up w2 hm2 (ne_cells b1at) j)
  rw [wC_seq]; simp only [XY, simprocAttr, f3, f7, b1at, hm2, ob1, hvc']
  have gb := gn S2 w2 []
  have hq1 : SlF S1 (S2.new fun t => .cells t []) (.slx (up 0 m2) 0 0 4 0) 4 [] := ⟨by simp, .inr ⟨up 0 m2, S2.t, by rw [← hm2]; exact g2.fresh, by simp only [XZ, simprocAttr, hm2]; rfl, .inr rfl⟩⟩
  refine wW_appG (S0 := S1) (g2.trans gb) hq1 ((sc.gr g2).gr gb) (okt 4 _ _ hes) (by rw [List.length_take]; omega) (by rw [List.length_take]; simp; omega) ?_
  intro S3 v3 g3 h3' row3 keep3
  rw [List.nil_append] at h3'
  have v2ex : ∀ {r}, rowOf v2 = some r → S2.row r ≠ .none := fun hr => h2'.some hr
  have h23x : ∀ r, rowOf v3 = some r → S2.row r = .none := fun r hr => by
   rcases row3 with e | e
   ·rw [e] at hr; injection hr with hr; rw [← hr]; exact nx0 w2 hm2 0
   ·rw [e] at hr; injection hr with hr; rw [← hr]
    have := nx0 w2 hm2 1
    simpa only [XZ, simprocAttr, hm2] using this
  have h23 : SlF S1 S3 v2 1 ((strs ns).take k) := (h2'.gr gb).keep fun r hr => keep3 r ((h2'.gr gb).some hr) (fun e => by
   injection e with e
   exact ne_up w2 hm2 (v2ex hr) 0 e.symm)
  have x32 : ∀ r, rowOf v3 = some r → rowOf v2 ≠ some r := fun r a b => v2ex b (h23x r a)
  simp only [XY, simprocAttr]
  have b1at := g3.cells r1
  have b2at := g3.cells r2
  rw [wC_seq]
  simp only [XY, simprocAttr, f1, f3, f5, f7, b1at, b2at, hvb', hvd', c3, s3, c4, s4]
  have w3 := g3.wf
  have gc := gn S3 w3 [ofL n]
  have ba : S1.row b1 ≠ .none := ne_cells r1
  have bb : S1.row b2 ≠ .none := ne_cells r2
  refine wW_appN (S0 := S1) (g3.trans gc) (h23.gr gc) (one_at rfl) (fun e he => by rw [List.mem_singleton.1 he]; rfl) (by simp) (by simp) (by rw [List.length_take]; simp; omega) ?_
  intro S4 v4 g4 h4' row4 keep4
  have v4n : ∀ r, rowOf v4 = some r → S3.row r = .none := fun r hr => by
   rw [row4] at hr; injection hr with hr; rw [← hr]
   exact Ch.fresh (Ch.of (fun _ => False) gc) (nx_none gc.wf)
  have h34 : SlF S1 S4 v3 4 (es.take k) := (h3'.gr gc).keep fun r hr => keep4 r ((h3'.gr gc).some hr) fun e => x32 r hr e
  have b1at := g4.cells r1
  simp only [XY, simprocAttr, f1, f3, f5, f7, b1at, hvb']
  refine wW_appG (S0 := S1) g4 h4' (sb.gr g4) (okd 1 _ _ (strs_ok ns)) (by rw [List.length_drop]; omega) (by rw [List.length_drop, List.length_append, List.length_take]; simp; omega) ?_
  intro S5 v5 g5 h5' row5 keep5
  have h35 : SlF S1 S5 v3 4 (es.take k) := h34.keep fun r hr => keep5 r (h34.some hr) fun e => h3'.some hr (v4n r e)
  have b2at := g5.cells r2
  simp only [XY, simprocAttr, f1, f3, f5, f7, b2at, c3, s3, c4, s4]
  have w5 := g5.wf
  have gd := gn S5 w5 [.int .i64 xk, ofL xn, xnv, xkv]
  have hxok : allSc [V.int .i64 xk, ofL xn, xnv, xkv] = true := hxx.ok
  refine wW_appN (S0 := S1) (g5.trans gd) (h35.gr gd) (one_at rfl) (fun e he => by rw [List.mem_singleton.1 he]; exact hxok) (by simp) (by simp) (by rw [List.length_take]; simp; omega) ?_
  intro S6 v6 g6 h6' row6 keep6
  have v6n : ∀ r, rowOf v6 = some r → S5.row r = .none := fun r hr => by
   rw [row6] at hr; injection hr with hr; rw [← hr]
   exact Ch.fresh (Ch.of (fun _ => False) gd) (nx_none gd.wf)
  have x53 : ∀ r, rowOf v5 = some r → rowOf v3 ≠ some r := fun r a b => by
   rcases row5 with e | e
   ·rw [e] at a; exact h3'.some b (v4n r a)
   ·rw [e] at a; injection a with a; rw [← a] at b; exact h34.some b (nx_none g4.wf)
  have h56 : SlF S1 S6 v5 1 ((strs ns).take k ++ [[ofL n]] ++ (strs ns).drop k) := (h5'.gr gd).keep fun r hr => keep6 r ((h5'.gr gd).some hr) (x53 r hr)
  have b1at := g6.cells r1
  simp only [XY, simprocAttr, f1, f3, f5, f7, b1at, hvd']
  refine wW_appG (S0 := S1) g6 h6' (sd.gr g6) (okd 4 _ _ hes) (by rw [List.length_drop]; omega) (by rw [List.length_drop, List.length_append, List.length_take]; simp; omega) ?_
  intro S7 v7 g7 h7' row7 keep7
  have h57 : SlF S1 S7 v5 1 ((strs ns).take k ++ [[ofL n]] ++ (strs ns).drop k) := h56.keep fun r hr => keep7 r (h56.some hr) fun e => h5'.some hr (v6n r e)
  have b1at := g7.cells r1
  have c5 := h57.at.cells
  have s5 := h57.at.sc
  have c6 := h7'.at.cells
  have s6 := h7'.at.sc
  simp only [XY, simprocAttr, f1, f3, f5, f7, b1at, c5, s5, c6, s6]
  have a2 := slF_apart h2' ba
  have a2' := slF_apart h2' bb
  have a4 := slF_apart h4' ba
  have a4' := slF_apart h4' bb
  have a3 := slF_apart h3' ba
  refine ⟨apart_cons (apartAll_ok (v := v2) (w := .ptr b1 2) (q := b1) (by simp only [XZ, simprocAttr]) (by simp only [XZ, simprocAttr]) rfl a2) <| apart_cons (apartAll_ok (v := v2) (w := .ptr b2 0) (q := b2) (by simp only [XZ, simprocAttr]) (by simp only [XZ, simprocAttr, f5]) rfl a2') <| apart_cons (apartAll_ok (v := v2) (w := .ptr b1 3) (q := b1) (by simp only [XZ, simprocAttr]) (by simp only [XZ, simprocAttr]) rfl a2) <| apart_cons (apartAll_ok (v := v4) (w := .ptr b2 0) (q := b2) (by simp only [XZ, simprocAttr]) (by simp only [XZ, simprocAttr, f5]) rfl a4') <| apart_cons (apartAll_ok (v := v4) (w := .ptr b1 3) (q := b1) (by simp only [XZ, simprocAttr]) (by simp only [XZ, simprocAttr]) rfl a4) (apartAll_ok (v := v3) (w := .ptr b1 3) (q := b1) (by simp only [XZ, simprocAttr]) (by simp only [XZ, simprocAttr]) rfl a3), ?_⟩
  have ga7 : Gr st (S7.wr b1 t1 fun u => .cells u [.int .i64 tk, ofL tn, v5, kv]) := (g1.trans g7).wr n1 (ne_cells b1at) (by rw [b1at]; rfl) (good_cells _)
  have rb : (S7.wr b1 t1 fun u => Row.cells u [V.int .i64 tk, ofL tn, v5, kv]).row b1 = .cells S7.t [.int .i64 tk, ofL tn, v5, kv] := row_wr_same _ _ _ _
  obtain ⟨S8, hS8⟩ : ∃ S8, S8 = ((S7.wr b1 t1 fun u => Row.cells u [V.int .i64 tk, ofL tn, v5, kv]).wr b1 S7.t fun u => Row.cells u [V.int .i64 tk, ofL tn, v5, v7]) := ⟨_, rfl⟩
  have g8 : Gr st S8 := by rw [hS8]; exact ga7.wr n1 (ne_cells rb) (by rw [rb]; rfl) (good_cells _)
  have nb : ∀ p, p ≠ b1 → S8.row p = S7.row p := fun p hp => by rw [hS8, row_wr_ne _ _ _ hp, row_wr_ne _ _ _ hp]
  have rb1 : ∃ t, S8.row b1 = .cells t [.int .i64 tk, ofL tn, v5, v7] := ⟨_, by rw [hS8]; exact row_wr_same _ _ _ _⟩
  rw [← hS8]
  clear hS8 ga7 rb
  obtain ⟨t8, rb1⟩ := rb1
  have b31 : b3 ≠ b1 := by rw [hb1, hb3]; exact fun e => u02 e.symm
  have rb3 : S8.row b3 = .cells t3 [.int .i64 0, ofL [], .snil, .snil] := by rw [nb b3 b31]; exact g7.cells r3
  rw [wC_seq]; simp only [XZ, simprocAttr, f3, f6, rb1, rb3, c5, s5, c6, s6]
  have g9 : Gr st (S8.wr b3 t3 fun u => .cells u [.int .i64 tk, ofL tn, v5, v7]) := g8.wr n3 (ne_cells rb3) (by rw [rb3]; rfl) (good_cells _)
  refine ⟨g9, _, rfl, ?_⟩
  have e : putS (.mk tk tn ns ks) n (.mk xk xn xns xks) = .mk tk tn (ns.take k ++ n :: ns.drop k) (ks.take k ++ (.mk xk xn xns xks) :: ks.drop k) := by
   rw [putS]
   show (if ns[placeS n ns]? = some n then _ else _) = _
   rw [← hkp, if_neg hsame, hkp]
   rfl
  rw [e]
  have nv5 : ∀ r, rowOf v5 = some r → r ≠ b1 ∧ r ≠ b3 := fun r hr => ⟨fun e => slF_apart h57 ba (by rw [← e]; exact hr), fun e => slF_apart h57 (ne_cells r3) (by rw [← e]; exact hr)⟩
  have nv7 : ∀ r, rowOf v7 = some r → r ≠ b1 ∧ r ≠ b3 := fun r hr => ⟨fun e => slF_apart h7' ba (by rw [← e]; exact hr), fun e => slF_apart h7' (ne_cells r3) (by rw [← e]; exact hr)⟩
  have k5 := h57.keep (st' := (S8.wr b3 t3 fun u => .cells u [.int .i64 tk, ofL tn, v5, v7])) fun r hr => by rw [row_wr_ne _ _ _ (nv5 r hr).2, nb r (nv5 r hr).1]
  have k7 := h7'.keep (st' := (S8.wr b3 t3 fun u => .cells u [.int .i64 tk, ofL tn, v5, v7])) fun r hr => by rw [row_wr_ne _ _ _ (nv7 r hr).2, nb r (nv7 r hr).1]
  have hPS : ∀ r, S1.row r = .none → P r := fun r h => hP r (Ch.fresh (Ch.of (fun _ => False) g1) h)
  have hstr : (strs ns).take k ++ [[ofL n]] ++ (strs ns).drop k = strs (ns.take k ++ n :: ns.drop k) := by simp [strs]
  rw [hstr] at k5
  have hkid : es.take k ++ [[.int .i64 xk, ofL xn, xnv, xkv]] ++ es.drop k = es.take k ++ [.int .i64 xk, ofL xn, xnv, xkv] :: es.drop k := by simp
  rw [hkid] at k7
  refine .mk (es := es.take k ++ [.int .i64 xk, ofL xn, xnv, xkv] :: es.drop k) (k5.at.imp fun r p _ => ⟨hPS r p, rfl⟩) (k7.at.imp fun r p _ => ⟨hPS r p, rfl⟩) (by simp; omega) ?_
  exact idx_ins (R := TyC P (S8.wr b3 t3 fun u => .cells u [.int .i64 tk, ofL tn, v5, v7])) (hxx.gr g9) k h3 fun i a b => (h4 i a b).gr g9
def TreeAt (nms : List Str) (d : Nat) : Prop := ∀ {P Q : Pt → Prop} {st : St} {e : List V} {r : Rw} {nv : V}, WF st → RwC P st e r → SlAt Q st nv 1 (strs nms) →
 Does (tabT tabD) n_spruelaw3_Tree [.agg e, .int .i64 d, nv] st fun v st' => Gr st st' ∧ ∃ e', v = .agg e' ∧ TyC (fun r => st.row r = .none) st' e' (treeS nms d r)
theorem kindR_mem (nms : List Str) (d : Nat) (r : Rw) : kindR nms d r = 1 ∨ kindR nms d r = 2 ∨ kindR nms d r = 3 ∨ kindR nms d r = 4 ∨ kindR nms d r = 5 ∨ kindR nms d r = 6 ∨ kindR nms d r = 7 ∨ kindR nms d r = 8 ∨ kindR nms d r = 9 := by
 have e1 := Int.emod_nonneg r.kind (show (9 : Int) ≠ 0 by decide)
 have e2 := Int.emod_lt_of_pos r.kind (show (0 : Int) < 9 by decide)
 unfold kindR
 split
 ·omega
 ·omega
theorem putS_len {t x : Ty} {n : Str} {i : Nat} (h1 : t.kids.length = t.names.length) (h2 : t.names.length ≤ i) : (putS t n x).kids.length = (putS t n x).names.length ∧ (putS t n x).names.length ≤ i + 1 := by
 unfold putS
 split
 ·exact ⟨h1, by omega⟩
 ·have := placeS_le n t.names
  simp [Ty.kids, Ty.names] at *
  omega
set_option maxHeartbeats 4000000 in
theorem treeCore (nms : List Str) (hnm : nms.length < 1000) (d : Nat) (hd : d < 1000) (ih : d ≠ 0 → TreeAt nms d) : TreeAt nms (d + 1) := by
 intro P Q st e r nv hw h hn
 refine does_fn at_spruelaw3_Tree rfl ?_
 have hr := h
 obtain ⟨rnv, rkv, es, rfl, hk, hnn, hz, h1, h2, h3, ⟨hl1, hl2⟩, h4⟩ := h.inv
 obtain ⟨n0, hn0⟩ : ∃ n, st.nx = up 0 n := ⟨_, up0 _⟩
 obtain ⟨b, hb⟩ : ∃ b, b = up 0 n0 := ⟨_, rfl⟩
 obtain ⟨b2, hb2⟩ : ∃ b, b = up 1 n0 := ⟨_, rfl⟩
 have c1 := h1.cells
 have s1 := h1.sc
 have c2 := h2.cells
 have s2 := h2.sc
 have lenN := hn.len
 rw [strs_len] at lenN
 have e1 := Int.emod_nonneg r.kind (show (9 : Int) ≠ 0 by decide)
 have e2 := Int.emod_lt_of_pos r.kind (show (0 : Int) < 9 by decide)
 simp only [cf_spruelaw3_Tree, XY, simprocAttr]
 rw [wC_seq]; simp only [XY, simprocAttr, hn0, c1, s1, c2, s2]
 have hd1 : (((d + 1 : Nat) : Int)) = (d : Int) + 1 := by omega
 obtain ⟨S0, hS0⟩ : ∃ S0, S0 = ((st.new fun t => .cells t [.int .i64 r.kind, .int .i64 r.n, rnv, rkv]).new fun t => .cells t [.int .i64 0, ofL [], .snil, .snil]) := ⟨_, rfl⟩
 have g0 : Gr st S0 := by rw [hS0]; exact ((Gr.refl hw).nn (good_cells _)).nn (good_cells _)
 have r1 : S0.row b = .cells st.t [.int .i64 r.kind, .int .i64 r.n, rnv, rkv] := by rw [hS0, hb]; simp only [XZ, simprocAttr, hn0]
 have r2 : ∃ t, S0.row b2 = .cells t [.int .i64 0, ofL [], .snil, .snil] := ⟨_, by rw [hS0, hb2]; simp only [XZ, simprocAttr, hn0]; rfl⟩
 rw [← hb, ← hb2, ← hS0]
 have w0 := g0.wf
 have nb1 : st.row b = .none := by rw [hb]; exact nx0 hw hn0 0
 have nb2 : st.row b2 = .none := by rw [hb2]; exact nx0 hw hn0 1
 have b12 : b ≠ b2 := by
  rw [hb, hb2]
  simp only [XZ, simprocAttr]
 clear hS0
 obtain ⟨t2, r2⟩ := r2
 obtain ⟨K, hK⟩ : ∃ K, K = 1 + r.kind % 9 := ⟨_, rfl⟩
 have hKw : IntKind.i64.wrap (1 + r.kind % 9) = K := by rw [hK]; exact i64_in (by omega) (by omega)
 rw [wC_seq]; simp only [XY, simprocAttr, r1]
 refine wCall_plain (within3C r.kind 9 _ (by decide) (by decide)) ?_
 rintro _ _ ⟨rfl, rfl⟩
 simp only [XY, simprocAttr, hKw]
 obtain ⟨k, hkk⟩ : ∃ k, k = kindR nms (d + 1) r := ⟨_, rfl⟩
 obtain ⟨B, hB⟩ : ∃ B : Fr → Prop, ∀ fr, B fr ↔ (fr 1 = .int .i64 ((d + 1 : Nat) : Int) ∧ fr 2 = nv ∧ fr 3 = .ptr b 0 ∧ fr 6 = .ptr b2 0 ∧ fr 7 = .int .i64 k) := ⟨_, fun _ => Iff.rfl⟩
 obtain ⟨I, hI⟩ : ∃ I : Fr → St → Prop, ∀ fr S, I fr S ↔ (S0 = S ∧ B fr) := ⟨_, fun _ _ => Iff.rfl⟩
 have hkd : k = if (K = 9 ∧ nms = []) ∨ (d + 1 ≤ 1 ∧ 4 ≤ K ∧ K ≤ 8) then 2 else K := by rw [hkk, hK]; rfl
 refine wC_cut I ?_ ?_
 ·by_cases k9 : K = 9
  ·by_cases hnn0 : nms = []
   ·have hk2 : k = 2 := by rw [hkd, if_pos (.inl ⟨k9, hnn0⟩)]
    rw [hnn0] at lenN
    simp only [XZ, simprocAttr, k9, lenN, Int.natCast_zero]
    exact (hI _ _).2 ⟨rfl, (hB _).2 (by simp only [XZ, simprocAttr, hk2, and_self])⟩
   ·have hk2 : k = 9 := by rw [hkd, if_neg (by rintro (⟨_, h⟩ | ⟨_, _, h⟩); exact hnn0 h; omega), k9]
    have hl0 : ((nms.length : Nat) : Int) ≠ 0 := fun e => hnn0 (List.length_eq_zero_iff.1 (by omega))
    by_cases h1d : ((d + 1 : Nat) : Int) ≤ 1
    ·simp only [XZ, simprocAttr, k9, lenN, hl0, h1d]
     exact (hI _ _).2 ⟨rfl, (hB _).2 (by simp only [XZ, simprocAttr, hk2, and_self])⟩
    ·simp only [XZ, simprocAttr, k9, lenN, hl0, h1d]
     exact (hI _ _).2 ⟨rfl, (hB _).2 (by simp only [XZ, simprocAttr, hk2, and_self])⟩
  ·by_cases h1d : ((d + 1 : Nat) : Int) ≤ 1
   ·by_cases k4 : 4 ≤ K
    ·have k8 : K ≤ 8 := by omega
     have hk2 : k = 2 := by rw [hkd, if_pos (.inr ⟨by omega, k4, k8⟩)]
     simp only [XZ, simprocAttr, k9, h1d, k4, k8]
     exact (hI _ _).2 ⟨rfl, (hB _).2 (by simp only [XZ, simprocAttr, hk2, and_self])⟩
    ·have hk2 : k = K := by rw [hkd, if_neg (by rintro (⟨h, _⟩ | ⟨_, h, _⟩); exact k9 h; exact k4 h)]
     simp only [XZ, simprocAttr, k9, h1d, k4]
     exact (hI _ _).2 ⟨rfl, (hB _).2 (by simp only [XZ, simprocAttr, hk2, and_self])⟩
   ·have hk2 : k = K := by rw [hkd, if_neg (by rintro (⟨h, _⟩ | ⟨h, _⟩); exact k9 h; omega)]
    simp only [XZ, simprocAttr, k9, h1d]
    exact (hI _ _).2 ⟨rfl, (hB _).2 (by simp only [XZ, simprocAttr, hk2, and_self])⟩
 intro fr S hIf
 obtain ⟨rfl, hBf⟩ := (hI _ _).1 hIf
 obtain ⟨f1, f2, f3, f6, f7⟩ := (hB _).1 hBf
 obtain ⟨m0, hm0⟩ : ∃ n, S0.nx = up 0 n := ⟨_, up0 _⟩
 obtain ⟨bt, hbt⟩ : ∃ b, b = up 0 m0 := ⟨_, rfl⟩
 rw [wC_seq]; simp only [XY, simprocAttr, f7, hm0]
 rw [← hbt]
 have nbt0 : S0.row bt = .none := by rw [hbt]; exact nx0 w0 hm0 0
 have nbt : st.row bt = .none := Ch.fresh (Ch.of (fun _ => False) g0) nbt0
 obtain ⟨S1, hS1⟩ : ∃ S1, S1 = ((S0.new fun t => .cells t [.int .i64 0, ofL [], .snil, .snil]).wr bt S0.t fun u => .cells u [.int .i64 k, ofL [], .snil, .snil]) := ⟨_, rfl⟩
 have g01 : Gr S0 S1 := by rw [hS1, hbt]; exact (Gr.refl w0).nw hm0 (good_cells _) (good_cells _)
 have rt : S1.row bt = .cells S0.t.succ [.int .i64 k, ofL [], .snil, .snil] := by rw [hS1]; exact row_wr_same _ _ _ _
 rw [← hS1]
 clear hS1
 have g1 : Gr st S1 := g0.trans g01
 have b2t : b2 ≠ bt := fun e => by rw [e, nbt0] at r2; cases r2
 have bbt : b ≠ bt := fun e => by rw [e, nbt0] at r1; cases r1
 have r1 := g01.cells r1
 have r2 := g01.cells r2
 obtain ⟨J, hJ⟩ : ∃ J : Fr → St → Prop, ∀ fr S, J fr S ↔ (∃ T te t, treeS nms (d + 1) r = T ∧ fr 6 = .ptr b2 0 ∧ fr 8 = .ptr bt 0 ∧ Gr st S ∧ S.row bt = .cells t te ∧ S.row b2 = .cells t2 [.int .i64 0, ofL [], .snil, .snil] ∧ TyC (fun r => S1.row r = .none) S te T) := ⟨_, fun _ _ => Iff.rfl⟩
 have hmem := kindR_mem nms (d + 1) r
 rw [← hkk] at hmem
 have flat : ∀ (P : Pt → Prop) (S : St) (k : Int) (n : Str), TyC P S [.int .i64 k, ofL n, .snil, .snil] (.mk k n [] []) := fun P S k n => .mk (es := []) (SlAt.nil _ _ _) (SlAt.nil _ _ _) rfl fun i h => absurd h (by simp)
 have hd0 : 4 ≤ k → k ≤ 8 → d ≠ 0 := fun a b e => by
  subst e
  by_cases c : (K = 9 ∧ nms = []) ∨ (0 + 1 ≤ 1 ∧ 4 ≤ K ∧ K ≤ 8)
  ·rw [if_pos c] at hkd; omega
  ·rw [if_neg c] at hkd; exact c (.inr ⟨by omega, by omega, by omega⟩)
 have hsubd : IntKind.i64.wrap (((d + 1 : Nat) : Int) - 1) = (d : Int) := by rw [i64_in (by omega) (by omega)]; omega
 have st1 : ∀ r, S1.row r = .none → st.row r = .none := fun r h => Ch.fresh (Ch.of (fun _ => False) g1) h
 refine wC_cut J ?_ ?_
 ·rcases hmem with rfl | rfl | rfl | rfl | rfl | rfl | rfl | rfl | rfl
  ·simp only [XZ, simprocAttr, f7]
   exact (hJ _ _).2 ⟨_, _, _, by rw [treeS]; simp only [← hkk]; rfl, by simp only [XZ, simprocAttr, f6], by simp only [XZ, simprocAttr], g1, rt, r2, flat _ _ _ _⟩
  ·simp only [XZ, simprocAttr, f7]
   exact (hJ _ _).2 ⟨_, _, _, by rw [treeS]; simp only [← hkk]; rfl, by simp only [XZ, simprocAttr, f6], by simp only [XZ, simprocAttr], g1, rt, r2, flat _ _ _ _⟩
  ·simp only [XZ, simprocAttr, f7]
   exact (hJ _ _).2 ⟨_, _, _, by rw [treeS]; simp only [← hkk]; rfl, by simp only [XZ, simprocAttr, f6], by simp only [XZ, simprocAttr], g1, rt, r2, flat _ _ _ _⟩
  ·have hd0' := hd0 (by decide) (by decide)
   simp only [XZ, simprocAttr, f1, f2, f3, f7, r1, c1, s1, c2, s2]
   refine wCall_plain (kidC g1.wf (hr.gr g1) 0 (by decide)) ?_
   rintro _ S2 ⟨g2, ke, rfl, hke⟩
   simp only [XZ, simprocAttr, f1, f2, hsubd]
   refine wCall_plain (ih hd0' g2.wf hke (hn.gr (g1.trans g2))) ?_
   rintro _ S3 ⟨g3, ce, rfl, hce⟩
   obtain ⟨cnv, ckv, ces, rfl, y1, y3, y4, y5⟩ := hce.inv
   have d1 := y1.cells
   have d2 := y1.sc
   have d3 := y3.cells
   have d4 := y3.sc
   have rt3 := g3.cells (g2.cells rt)
   obtain ⟨m3, hm3⟩ : ∃ n, S3.nx = up 0 n := ⟨_, up0 _⟩
   have ot := fun j => nes (ne_up g3.wf hm3 (ne_cells rt3) j)
   simp only [XZ, simprocAttr, f7, hm3, ot, rt3, d1, d2, d3, d4]
   obtain ⟨S4, hS4⟩ : ∃ S4, S4 = ((S3.new fun t => .cells t [.int .i64 (treeS nms d (kidS r 0)).kind, ofL (treeS nms d (kidS r 0)).name, cnv, ckv]).wr bt S0.t.succ fun u => .cells u [.int .i64 4, ofL [], .snil, .slx (up 0 m3) 0 1 4 1]) := ⟨_, rfl⟩
   rw [← hS4]
   have gN : Gr S3 (S3.new fun t => .cells t [.int .i64 (treeS nms d (kidS r 0)).kind, ofL (treeS nms d (kidS r 0)).name, cnv, ckv]) := Gr.new g3.wf (good_cells _)
   have g13 : Gr st S3 := g1.trans (g2.trans g3)
   have g4 : Gr st S4 := by rw [hS4]; exact (g13.trans gN).wr nbt (ne_cells (gN.cells rt3)) (by rw [gN.cells rt3]; rfl) (good_cells _)
   have qt : up 0 m3 ≠ bt := fun e => by have := nx0 g3.wf hm3 0; rw [e, rt3] at this; cases this
   have rq : S4.row (up 0 m3) = .cells S3.t [.int .i64 (treeS nms d (kidS r 0)).kind, ofL (treeS nms d (kidS r 0)).name, cnv, ckv] := by rw [hS4, row_wr_ne _ _ _ qt, ← hm3]; exact row_new_nx _ _
   have rb4 : S4.row b2 = .cells t2 [.int .i64 0, ofL [], .snil, .snil] := by rw [hS4, row_wr_ne _ _ _ b2t]; exact gN.cells (g3.cells (g2.cells r2))
   have rt4 : ∃ t, S4.row bt = .cells t [.int .i64 4, ofL [], .snil, .slx (up 0 m3) 0 1 4 1] := ⟨_, by rw [hS4]; exact row_wr_same _ _ _ _⟩
   obtain ⟨t4, rt4⟩ := rt4
   have q1 : S1.row (up 0 m3) = .none := Ch.fresh (Ch.of (fun _ => False) (g2.trans g3)) (nx0 g3.wf hm3 0)
   have hce4 : TyC (fun r => S1.row r = .none) S4 [.int .i64 (treeS nms d (kidS r 0)).kind, ofL (treeS nms d (kidS r 0)).name, cnv, ckv] (treeS nms d (kidS r 0)) := hce.imp fun r p e => ⟨Ch.fresh (Ch.of (fun _ => False) g2) p, by
    rw [hS4, row_wr_ne _ _ _ fun k => by rw [k, g2.cells rt] at p; cases p]
    exact gN.same r e⟩
   have hall : TyC (fun r => S1.row r = .none) S4 [.int .i64 4, ofL [], .snil, .slx (up 0 m3) 0 1 4 1] (.mk 4 [] [] [treeS nms d (kidS r 0)]) :=
    .mk (es := [[.int .i64 (treeS nms d (kidS r 0)).kind, ofL (treeS nms d (kidS r 0)).name, cnv, ckv]]) (SlAt.nil _ _ _) ⟨fun e he => by rw [List.mem_singleton.1 he]; rfl, .inr ⟨up 0 m3, 0, q1, .inr ⟨1, Nat.le_refl 1, rfl⟩, _, .inl ⟨_, rq⟩, by simp, by simp⟩⟩ rfl fun i h h' => by
     have : i = 0 := by simp at h; omega
     subst this
     exact hce4
   clear hS4
   exact (hJ _ _).2 ⟨_, _, _, by rw [treeS]; simp only [← hkk]; rfl, by simp only [XZ, simprocAttr, f6], by simp only [XZ, simprocAttr], g4, rt4, rb4, hall⟩
  ·have hd0' := hd0 (by decide) (by decide)
   simp only [XZ, simprocAttr, f1, f2, f3, f7, r1, c1, s1, c2, s2]
   refine wCall_plain (kidC g1.wf (hr.gr g1) 0 (by decide)) ?_
   rintro _ S2 ⟨g2, ke, rfl, hke⟩
   simp only [XZ, simprocAttr, f1, f2, hsubd]
   refine wCall_plain (ih hd0' g2.wf hke (hn.gr (g1.trans g2))) ?_
   rintro _ S3 ⟨g3, ce, rfl, hce⟩
   obtain ⟨cnv, ckv, ces, rfl, y1, y3, y4, y5⟩ := hce.inv
   have d1 := y1.cells
   have d2 := y1.sc
   have d3 := y3.cells
   have d4 := y3.sc
   have rt3 := g3.cells (g2.cells rt)
   obtain ⟨m3, hm3⟩ : ∃ n, S3.nx = up 0 n := ⟨_, up0 _⟩
   have ot := fun j => nes (ne_up g3.wf hm3 (ne_cells rt3) j)
   simp only [XZ, simprocAttr, f7, hm3, ot, rt3, d1, d2, d3, d4]
   obtain ⟨S4, hS4⟩ : ∃ S4, S4 = ((S3.new fun t => .cells t [.int .i64 (treeS nms d (kidS r 0)).kind, ofL (treeS nms d (kidS r 0)).name, cnv, ckv]).wr bt S0.t.succ fun u => .cells u [.int .i64 5, ofL [], .snil, .slx (up 0 m3) 0 1 4 1]) := ⟨_, rfl⟩
   rw [← hS4]
   have gN : Gr S3 (S3.new fun t => .cells t [.int .i64 (treeS nms d (kidS r 0)).kind, ofL (treeS nms d (kidS r 0)).name, cnv, ckv]) := Gr.new g3.wf (good_cells _)
   have g13 : Gr st S3 := g1.trans (g2.trans g3)
   have g4 : Gr st S4 := by rw [hS4]; exact (g13.trans gN).wr nbt (ne_cells (gN.cells rt3)) (by rw [gN.cells rt3]; rfl) (good_cells _)
   have qt : up 0 m3 ≠ bt := fun e => by have := nx0 g3.wf hm3 0; rw [e, rt3] at this; cases this
   have rq : S4.row (up 0 m3) = .cells S3.t [.int .i64 (treeS nms d (kidS r 0)).kind, ofL (treeS nms d (kidS r 0)).name, cnv, ckv] := by rw [hS4, row_wr_ne _ _ _ qt, ← hm3]; exact row_new_nx _ _
   have rb4 : S4.row b2 = .cells t2 [.int .i64 0, ofL [], .snil, .snil] := by rw [hS4, row_wr_ne _ _ _ b2t]; exact gN.cells (g3.cells (g2.cells r2))
   have rt4 : ∃ t, S4.row bt = .cells t [.int .i64 5, ofL [], .snil, .slx (up 0 m3) 0 1 4 1] := ⟨_, by rw [hS4]; exact row_wr_same _ _ _ _⟩
   obtain ⟨t4, rt4⟩ := rt4
   have q1 : S1.row (up 0 m3) = .none := Ch.fresh (Ch.of (fun _ => False) (g2.trans g3)) (nx0 g3.wf hm3 0)
   have hce4 : TyC (fun r => S1.row r = .none) S4 [.int .i64 (treeS nms d (kidS r 0)).kind, ofL (treeS nms d (kidS r 0)).name, cnv, ckv] (treeS nms d (kidS r 0)) := hce.imp fun r p e => ⟨Ch.fresh (Ch.of (fun _ => False) g2) p, by
    rw [hS4, row_wr_ne _ _ _ fun k => by rw [k, g2.cells rt] at p; cases p]
    exact gN.same r e⟩
   have hall : TyC (fun r => S1.row r = .none) S4 [.int .i64 5, ofL [], .snil, .slx (up 0 m3) 0 1 4 1] (.mk 5 [] [] [treeS nms d (kidS r 0)]) :=
    .mk (es := [[.int .i64 (treeS nms d (kidS r 0)).kind, ofL (treeS nms d (kidS r 0)).name, cnv, ckv]]) (SlAt.nil _ _ _) ⟨fun e he => by rw [List.mem_singleton.1 he]; rfl, .inr ⟨up 0 m3, 0, q1, .inr ⟨1, Nat.le_refl 1, rfl⟩, _, .inl ⟨_, rq⟩, by simp, by simp⟩⟩ rfl fun i h h' => by
     have : i = 0 := by simp at h; omega
     subst this
     exact hce4
   clear hS4
   exact (hJ _ _).2 ⟨_, _, _, by rw [treeS]; simp only [← hkk]; rfl, by simp only [XZ, simprocAttr, f6], by simp only [XZ, simprocAttr], g4, rt4, rb4, hall⟩
  ·have hd0' := hd0 (by decide) (by decide)
   simp only [XZ, simprocAttr, f1, f2, f3, f7, r1, c1, s1, c2, s2]
   refine wCall_plain (kidC g1.wf (hr.gr g1) 0 (by decide)) ?_
   rintro _ S2 ⟨g2, ke, rfl, hke⟩
   simp only [XZ, simprocAttr, f1, f2, hsubd]
   refine wCall_plain (ih hd0' g2.wf hke (hn.gr (g1.trans g2))) ?_
   rintro _ S3 ⟨g3, ce, rfl, hce⟩
   obtain ⟨cnv, ckv, ces, rfl, y1, y3, y4, y5⟩ := hce.inv
   have d1 := y1.cells
   have d2 := y1.sc
   have d3 := y3.cells
   have d4 := y3.sc
   have rt3 := g3.cells (g2.cells rt)
   obtain ⟨m3, hm3⟩ : ∃ n, S3.nx = up 0 n := ⟨_, up0 _⟩
   have ot := fun j => nes (ne_up g3.wf hm3 (ne_cells rt3) j)
   simp only [XZ, simprocAttr, f7, hm3, ot, rt3, d1, d2, d3, d4]
   obtain ⟨S4, hS4⟩ : ∃ S4, S4 = ((S3.new fun t => .cells t [.int .i64 (treeS nms d (kidS r 0)).kind, ofL (treeS nms d (kidS r 0)).name, cnv, ckv]).wr bt S0.t.succ fun u => .cells u [.int .i64 6, ofL [], .snil, .slx (up 0 m3) 0 1 4 1]) := ⟨_, rfl⟩
   rw [← hS4]
   have gN : Gr S3 (S3.new fun t => .cells t [.int .i64 (treeS nms d (kidS r 0)).kind, ofL (treeS nms d (kidS r 0)).name, cnv, ckv]) := Gr.new g3.wf (good_cells _)
   have g13 : Gr st S3 := g1.trans (g2.trans g3)
   have g4 : Gr st S4 := by rw [hS4]; exact (g13.trans gN).wr nbt (ne_cells (gN.cells rt3)) (by rw [gN.cells rt3]; rfl) (good_cells _)
   have qt : up 0 m3 ≠ bt := fun e => by have := nx0 g3.wf hm3 0; rw [e, rt3] at this; cases this
   have rq : S4.row (up 0 m3) = .cells S3.t [.int .i64 (treeS nms d (kidS r 0)).kind, ofL (treeS nms d (kidS r 0)).name, cnv, ckv] := by rw [hS4, row_wr_ne _ _ _ qt, ← hm3]; exact row_new_nx _ _
   have rb4 : S4.row b2 = .cells t2 [.int .i64 0, ofL [], .snil, .snil] := by rw [hS4, row_wr_ne _ _ _ b2t]; exact gN.cells (g3.cells (g2.cells r2))
   have rt4 : ∃ t, S4.row bt = .cells t [.int .i64 6, ofL [], .snil, .slx (up 0 m3) 0 1 4 1] := ⟨_, by rw [hS4]; exact row_wr_same _ _ _ _⟩
   obtain ⟨t4, rt4⟩ := rt4
   have q1 : S1.row (up 0 m3) = .none := Ch.fresh (Ch.of (fun _ => False) (g2.trans g3)) (nx0 g3.wf hm3 0)
   have hce4 : TyC (fun r => S1.row r = .none) S4 [.int .i64 (treeS nms d (kidS r 0)).kind, ofL (treeS nms d (kidS r 0)).name, cnv, ckv] (treeS nms d (kidS r 0)) := hce.imp fun r p e => ⟨Ch.fresh (Ch.of (fun _ => False) g2) p, by
    rw [hS4, row_wr_ne _ _ _ fun k => by rw [k, g2.cells rt] at p; cases p]
    exact gN.same r e⟩
   have hall : TyC (fun r => S1.row r = .none) S4 [.int .i64 6, ofL [], .snil, .slx (up 0 m3) 0 1 4 1] (.mk 6 [] [] [treeS nms d (kidS r 0)]) :=
    .mk (es := [[.int .i64 (treeS nms d (kidS r 0)).kind, ofL (treeS nms d (kidS r 0)).name, cnv, ckv]]) (SlAt.nil _ _ _) ⟨fun e he => by rw [List.mem_singleton.1 he]; rfl, .inr ⟨up 0 m3, 0, q1, .inr ⟨1, Nat.le_refl 1, rfl⟩, _, .inl ⟨_, rq⟩, by simp, by simp⟩⟩ rfl fun i h h' => by
     have : i = 0 := by simp at h; omega
     subst this
     exact hce4
   clear hS4
   first | refine ⟨by decide, ?_⟩ | skip
   have htree : treeS nms (d + 1) r = if (6 : Int) = 6 ∧ (treeS nms d (kidS r 0)).kind = 6 then treeS nms d (kidS r 0) else .mk 6 [] [] [treeS nms d (kidS r 0)] := by rw [treeS]; simp only [← hkk]; rfl
   by_cases h6 : (treeS nms d (kidS r 0)).kind = 6
   ·rw [if_pos ⟨rfl, h6⟩] at htree
    have hdec : decide ((treeS nms d (kidS r 0)).kind = 6) = true := decide_eq_true h6
    rw [hdec]
    simp only [XZ, simprocAttr, f6, rt4, rq, rb4, d1, d2, d3, d4]
    first | refine ⟨by decide, g4.wr nb2 (ne_cells rb4) (by first | (rw [rb4]; done) | (rw [rb4]; rfl)) (good_cells _), _, rfl, ?_⟩ | refine ⟨g4.wr nb2 (ne_cells rb4) (by first | (rw [rb4]; done) | (rw [rb4]; rfl)) (good_cells _), _, rfl, ?_⟩
    rw [htree]
    exact hce4.imp fun r p _ => ⟨st1 r p, row_wr_ne _ _ _ fun e => by rw [e] at p; rw [p] at r2; cases r2⟩
   ·rw [if_neg fun e => h6 e.2] at htree
    have hdec : decide ((treeS nms d (kidS r 0)).kind = 6) = false := decide_eq_false h6
    rw [hdec]
    simp only [XZ, simprocAttr]
    exact (hJ _ _).2 ⟨_, _, _, htree, by simp only [XZ, simprocAttr, f6], by simp only [XZ, simprocAttr], g4, rt4, rb4, hall⟩
  ·have hd0' := hd0 (by decide) (by decide)
   have lenR := h1.len
   rw [cellsI_len] at lenR
   obtain ⟨cnt, hcnt⟩ : ∃ c, c = countR 7 r := ⟨_, rfl⟩
   have hcv : cnt = max (min r.names.length 4) 0 := by rw [hcnt]; rfl
   obtain ⟨Ti, hTi⟩ : ∃ Ti : Nat → Ty, Ti = fun i => (List.range i).foldl (fun t i => putS t (nameAt r i) (treeS nms d (kidS r i))) (.mk 7 [] [] []) := ⟨_, rfl⟩
   have hT0 : Ti 0 = .mk 7 [] [] [] := by rw [hTi]; rfl
   have hTs : ∀ i, Ti (i + 1) = putS (Ti i) (nameAt r i) (treeS nms d (kidS r i)) := fun i => by rw [hTi]; simp only [List.range_succ, List.foldl_append]; rfl
   have hTl : ∀ i, (Ti i).kids.length = (Ti i).names.length ∧ (Ti i).names.length ≤ i := fun i => by
    induction i with
    | zero => rw [hT0]; exact ⟨rfl, Nat.le_refl _⟩
    | succ i ihi => rw [hTs]; exact putS_len ihi.1 ihi.2
   have htree : treeS nms (d + 1) r = Ti cnt := by rw [treeS, hTi, hcnt]; simp only [← hkk]; rfl
   obtain ⟨L, hL⟩ : ∃ L : Nat → Fr → St → Prop, ∀ j fr S, L j fr S ↔ ∃ (i : Nat) (te : List V) (t : Nat), j + i = cnt ∧ B fr ∧ fr 8 = .ptr bt 0 ∧ fr 9 = .int .i64 i ∧ Gr st S ∧ (∀ r, S.row r = .none → S1.row r = .none) ∧ S.row b = .cells st.t [.int .i64 r.kind, .int .i64 r.n, rnv, rkv] ∧ S.row b2 = .cells t2 [.int .i64 0, ofL [], .snil, .snil] ∧ S.row bt = .cells t te ∧ TyC (fun r => S1.row r = .none) S te (Ti i) := ⟨_, fun _ _ _ => Iff.rfl⟩
   simp only [XZ, simprocAttr, f7]
   refine wC_loop L cnt (by omega) ((hL _ _ _).2 ⟨0, _, _, by omega, (hB _).2 (by simp only [XZ, simprocAttr, f1, f2, f3, f6, f7, and_self]), by simp only [XZ, simprocAttr], by simp only [XZ, simprocAttr] <;> rfl, g1, fun r h => h, r1, r2, rt, by rw [hT0]; exact flat _ _ _ _⟩) ?_
   clear f1 f2 f3 f6 f7 hBf
   intro j fr S hLj
   obtain ⟨i, te, t, hj, hBf, f8, f9, hg, hfresh, q1, q2, q3, hte⟩ := (hL _ _ _).1 hLj
   obtain ⟨f1, f2, f3, f6, f7⟩ := (hB _).1 hBf
   have hadd1 : IntKind.i64.wrap ((i : Int) + 1) = ((i + 1 : Nat) : Int) := by rw [i64_in (by omega) (by omega)]; rfl
   have done : ∀ {fr : Fr}, i = cnt → fr 6 = .ptr b2 0 → fr 8 = .ptr bt 0 → J fr S := fun e a c => (hJ _ _).2 ⟨Ti cnt, te, t, htree, a, c, hg, q3, q2, by rw [← e]; exact hte⟩
   have hte0 := hte
   obtain ⟨tnv, tkv, tes, rfl, y1, y3, y4, y5⟩ := hte.inv
   have d1 := y1.cells
   have d2 := y1.sc
   have d3 := y3.cells
   have d4 := y3.sc
   by_cases hA : i < r.names.length
   ·have hA' : (i : Int) < r.names.length := by omega
    by_cases h4i : i < 4
    ·have h4' : (i : Int) < 4 := by omega
     obtain ⟨zq, zo, z1, z2, z3, z4, z5⟩ := (h1.gr hg).elem (i := i) (by rw [cellsI_len]; exact hA)
     have zl : (cellsI r.names)[i]'(by rw [cellsI_len]; exact hA) = [.int .i64 r.names[i]] := by simp [cellsI]
     have z6 : ld1 (S.row zq) zo = some (.int .i64 r.names[i], .no) := by
      have := z5 0 (by rw [zl]; simp)
      simp only [zl] at this
      exact this
     simp only [XZ, simprocAttr, f1, f2, f3, f6, f7, f8, f9, q1, lenR, hA', h4', z1, z6]
     refine wCall_plain (nameC _ _ hg.wf) ?_
     rintro _ S2 ⟨g2, rfl⟩
     have hnm : nameS r.names[i] = nameAt r i := by unfold nameAt; rw [List.getElem?_eq_getElem hA]
     rw [hnm]
     have q1' := q1
     have q2' := q2
     have q3' := q3
     have q1 := g2.cells q1
     have q2 := g2.cells q2
     have q3 := g2.cells q3
     simp only [XZ, simprocAttr, f1, f2, f3, f6, f7, f8, f9, q1, q3, c1, s1, c2, s2, d1, d2, d3, d4]
     refine wCall_marked (kidC (wf_low g2.wf S2.t) (((hr.gr hg).gr g2).imp fun r p _ => ⟨p, rfl⟩) i (by omega)) ?_
     rintro _ S3 g3 ⟨ke, rfl, hke⟩
     simp only [XZ, simprocAttr, f1, f2, f3, f6, f7, f8, f9, hsubd]
     refine wCall_marked (ih hd0' (wf_low g3.wf S3.t) (hke.imp fun r p _ => ⟨p, rfl⟩) ((((hn.gr hg).gr g2).gr g3).imp fun r p _ => ⟨p, rfl⟩)) ?_
     rintro _ S4 g4 ⟨ce, rfl, hce⟩
     simp only [XZ, simprocAttr, f1, f2, f3, f6, f7, f8, f9]
     have gA : Gr S S4 := g2.trans (g3.trans g4)
     have fr4 : ∀ r, S4.row r = .none → S1.row r = .none := fun r h => hfresh r (Ch.fresh (Ch.of (fun _ => False) gA) h)
     have fr3 : ∀ r, S3.row r = .none → S1.row r = .none := fun r h => hfresh r (Ch.fresh (Ch.of (fun _ => False) (g2.trans g3)) h)
     refine wCall_marked (putC (P := fun r => S1.row r = .none) (t := Ti i) (x := treeS nms d (kidS r i)) (nameAt r i) (wf_low g4.wf S4.t) ((hte0.gr gA).imp fun r p _ => ⟨p, rfl⟩) (hce.imp fun r p _ => ⟨fr3 r p, rfl⟩) (by have := (hTl i).2; omega) (hTl i).1 fr4) ?_
     rintro _ S5 g5 ⟨e5, rfl, he5⟩
     have he5' : TyC (fun r => S1.row r = .none) S5 e5 (Ti (i + 1)) := by rw [hTs]; exact he5.imp fun r p _ => ⟨p, rfl⟩
     have he6 := he5'
     obtain ⟨xnv, xkv, xes, rfl, x1, x3, x4, x5⟩ := he5'.inv
     have m1 := x1.cells
     have m2 := x1.sc
     have m3 := x3.cells
     have m4 := x3.sc
     have gB : Gr S S5 := gA.trans g5
     have q1 := gB.cells q1'
     have q2 := gB.cells q2'
     have q3 := gB.cells q3'
     simp only [XZ, simprocAttr, f1, f2, f3, f6, f7, f8, f9, q3, m1, m2, m3, m4, hadd1, apartAll_nil]
     have bne : b ≠ bt := bbt
     have g6 := (hg.trans gB).wr (f := fun u => .cells u [.int .i64 (Ti (i + 1)).kind, ofL (Ti (i + 1)).name, xnv, xkv]) nbt (ne_cells q3) (by first | (rw [q3]; done) | (rw [q3]; rfl)) (good_cells _)
     refine ⟨cnt - (i + 1), by omega, (hL _ _ _).2 ⟨i + 1, _, _, by omega, (hB _).2 (by simp only [XZ, simprocAttr, f1, f2, f3, f6, f7, and_self]), by simp only [XZ, simprocAttr, f8], by simp only [XZ, simprocAttr], g6, fun r h => ?_, by rw [row_wr_ne _ _ _ bne]; exact q1, by rw [row_wr_ne _ _ _ b2t]; exact q2, row_wr_same _ _ _ _, he6.imp fun r p _ => ⟨p, row_wr_ne _ _ _ fun e => by rw [e] at p; rw [p] at rt; cases rt⟩⟩⟩
     refine hfresh r (Ch.fresh (Ch.of (fun _ => False) gB) ?_)
     by_cases e : r = bt
     ·rw [e, row_wr_same] at h; cases h
     ·rwa [row_wr_ne _ _ _ e] at h
    ·have h4' : ¬ (i : Int) < 4 := by omega
     have hi0 : ¬ (i : Int) = 0 := by omega
     simp only [XZ, simprocAttr, f1, f2, f3, f6, f7, f8, f9, q1, lenR, hA', h4', hi0]
     exact done (by omega) (by simp only [XZ, simprocAttr, f6]) (by simp only [XZ, simprocAttr, f8])
   ·have hA' : ¬ (i : Int) < r.names.length := by omega
    by_cases hi0 : i = 0
    ·have hi0' : ((i : Int) = 0) = True := eq_true (by omega)
     by_cases hone : 0 = 1
     ·first
      | exact absurd hone (by decide)
      | simp only [XZ, simprocAttr, f1, f2, f3, f6, f7, f8, f9, q1, q3, lenR, hA', hi0', c1, s1, c2, s2, d1, d2, d3, d4]
        have g2 : Gr S S := Gr.refl hg.wf
        have hnm : ([117] : Str) = nameAt r i := by unfold nameAt; rw [List.getElem?_eq_none (by omega)]
        rw [hnm]
        have q1' := q1
        have q2' := q2
        have q3' := q3
        refine wCall_marked (kidC (wf_low g2.wf S.t) (((hr.gr hg).gr g2).imp fun r p _ => ⟨p, rfl⟩) i (by omega)) ?_
        rintro _ S3 g3 ⟨ke, rfl, hke⟩
        simp only [XZ, simprocAttr, f1, f2, f3, f6, f7, f8, f9, hsubd]
        refine wCall_marked (ih hd0' (wf_low g3.wf S3.t) (hke.imp fun r p _ => ⟨p, rfl⟩) ((((hn.gr hg).gr g2).gr g3).imp fun r p _ => ⟨p, rfl⟩)) ?_
        rintro _ S4 g4 ⟨ce, rfl, hce⟩
        simp only [XZ, simprocAttr, f1, f2, f3, f6, f7, f8, f9]
        have gA : Gr S S4 := g2.trans (g3.trans g4)
        have fr4 : ∀ r, S4.row r = .none → S1.row r = .none := fun r h => hfresh r (Ch.fresh (Ch.of (fun _ => False) gA) h)
        have fr3 : ∀ r, S3.row r = .none → S1.row r = .none := fun r h => hfresh r (Ch.fresh (Ch.of (fun _ => False) (g2.trans g3)) h)
        refine wCall_marked (putC (P := fun r => S1.row r = .none) (t := Ti i) (x := treeS nms d (kidS r i)) (nameAt r i) (wf_low g4.wf S4.t) ((hte0.gr gA).imp fun r p _ => ⟨p, rfl⟩) (hce.imp fun r p _ => ⟨fr3 r p, rfl⟩) (by have := (hTl i).2; omega) (hTl i).1 fr4) ?_
        rintro _ S5 g5 ⟨e5, rfl, he5⟩
        have he5' : TyC (fun r => S1.row r = .none) S5 e5 (Ti (i + 1)) := by rw [hTs]; exact he5.imp fun r p _ => ⟨p, rfl⟩
        have he6 := he5'
        obtain ⟨xnv, xkv, xes, rfl, x1, x3, x4, x5⟩ := he5'.inv
        have m1 := x1.cells
        have m2 := x1.sc
        have m3 := x3.cells
        have m4 := x3.sc
        have gB : Gr S S5 := gA.trans g5
        have q1 := gB.cells q1'
        have q2 := gB.cells q2'
        have q3 := gB.cells q3'
        simp only [XZ, simprocAttr, f1, f2, f3, f6, f7, f8, f9, q3, m1, m2, m3, m4, hadd1, apartAll_nil]
        have bne : b ≠ bt := bbt
        have g6 := (hg.trans gB).wr (f := fun u => .cells u [.int .i64 (Ti (i + 1)).kind, ofL (Ti (i + 1)).name, xnv, xkv]) nbt (ne_cells q3) (by first | (rw [q3]; done) | (rw [q3]; rfl)) (good_cells _)
        refine ⟨cnt - (i + 1), by omega, (hL _ _ _).2 ⟨i + 1, _, _, by omega, (hB _).2 (by simp only [XZ, simprocAttr, f1, f2, f3, f6, f7, and_self]), by simp only [XZ, simprocAttr, f8], by simp only [XZ, simprocAttr], g6, fun r h => ?_, by rw [row_wr_ne _ _ _ bne]; exact q1, by rw [row_wr_ne _ _ _ b2t]; exact q2, row_wr_same _ _ _ _, he6.imp fun r p _ => ⟨p, row_wr_ne _ _ _ fun e => by rw [e] at p; rw [p] at rt; cases rt⟩⟩⟩
        refine hfresh r (Ch.fresh (Ch.of (fun _ => False) gB) ?_)
        by_cases e : r = bt
        ·rw [e, row_wr_same] at h; cases h
        ·rwa [row_wr_ne _ _ _ e] at h
     ·first
      | exact absurd rfl hone
      | simp only [XZ, simprocAttr, f1, f2, f3, f6, f7, f8, f9, q1, lenR, hA', hi0']
        exact done (by omega) (by simp only [XZ, simprocAttr, f6]) (by simp only [XZ, simprocAttr, f8])
    ·have hi0' : ¬ (i : Int) = 0 := by omega
     simp only [XZ, simprocAttr, f1, f2, f3, f6, f7, f8, f9, q1, lenR, hA', hi0']
     exact done (by omega) (by simp only [XZ, simprocAttr, f6]) (by simp only [XZ, simprocAttr, f8])
  ·have hd0' := hd0 (by decide) (by decide)
   have lenR := h1.len
   rw [cellsI_len] at lenR
   obtain ⟨cnt, hcnt⟩ : ∃ c, c = countR 8 r := ⟨_, rfl⟩
   have hcv : cnt = max (min r.names.length 4) 1 := by rw [hcnt]; rfl
   obtain ⟨Ti, hTi⟩ : ∃ Ti : Nat → Ty, Ti = fun i => (List.range i).foldl (fun t i => putS t (nameAt r i) (treeS nms d (kidS r i))) (.mk 8 [] [] []) := ⟨_, rfl⟩
   have hT0 : Ti 0 = .mk 8 [] [] [] := by rw [hTi]; rfl
   have hTs : ∀ i, Ti (i + 1) = putS (Ti i) (nameAt r i) (treeS nms d (kidS r i)) := fun i => by rw [hTi]; simp only [List.range_succ, List.foldl_append]; rfl
   have hTl : ∀ i, (Ti i).kids.length = (Ti i).names.length ∧ (Ti i).names.length ≤ i := fun i => by
    induction i with
    | zero => rw [hT0]; exact ⟨rfl, Nat.le_refl _⟩
    | succ i ihi => rw [hTs]; exact putS_len ihi.1 ihi.2
   have htree : treeS nms (d + 1) r = Ti cnt := by rw [treeS, hTi, hcnt]; simp only [← hkk]; rfl
   obtain ⟨L, hL⟩ : ∃ L : Nat → Fr → St → Prop, ∀ j fr S, L j fr S ↔ ∃ (i : Nat) (te : List V) (t : Nat), j + i = cnt ∧ B fr ∧ fr 8 = .ptr bt 0 ∧ fr 9 = .int .i64 i ∧ Gr st S ∧ (∀ r, S.row r = .none → S1.row r = .none) ∧ S.row b = .cells st.t [.int .i64 r.kind, .int .i64 r.n, rnv, rkv] ∧ S.row b2 = .cells t2 [.int .i64 0, ofL [], .snil, .snil] ∧ S.row bt = .cells t te ∧ TyC (fun r => S1.row r = .none) S te (Ti i) := ⟨_, fun _ _ _ => Iff.rfl⟩
   simp only [XZ, simprocAttr, f7]
   refine wC_loop L cnt (by omega) ((hL _ _ _).2 ⟨0, _, _, by omega, (hB _).2 (by simp only [XZ, simprocAttr, f1, f2, f3, f6, f7, and_self]), by simp only [XZ, simprocAttr], by simp only [XZ, simprocAttr] <;> rfl, g1, fun r h => h, r1, r2, rt, by rw [hT0]; exact flat _ _ _ _⟩) ?_
   clear f1 f2 f3 f6 f7 hBf
   intro j fr S hLj
   obtain ⟨i, te, t, hj, hBf, f8, f9, hg, hfresh, q1, q2, q3, hte⟩ := (hL _ _ _).1 hLj
   obtain ⟨f1, f2, f3, f6, f7⟩ := (hB _).1 hBf
   have hadd1 : IntKind.i64.wrap ((i : Int) + 1) = ((i + 1 : Nat) : Int) := by rw [i64_in (by omega) (by omega)]; rfl
   have done : ∀ {fr : Fr}, i = cnt → fr 6 = .ptr b2 0 → fr 8 = .ptr bt 0 → J fr S := fun e a c => (hJ _ _).2 ⟨Ti cnt, te, t, htree, a, c, hg, q3, q2, by rw [← e]; exact hte⟩
   have hte0 := hte
   obtain ⟨tnv, tkv, tes, rfl, y1, y3, y4, y5⟩ := hte.inv
   have d1 := y1.cells
   have d2 := y1.sc
   have d3 := y3.cells
   have d4 := y3.sc
   by_cases hA : i < r.names.length
   ·have hA' : (i : Int) < r.names.length := by omega
    by_cases h4i : i < 4
    ·have h4' : (i : Int) < 4 := by omega
     obtain ⟨zq, zo, z1, z2, z3, z4, z5⟩ := (h1.gr hg).elem (i := i) (by rw [cellsI_len]; exact hA)
     have zl : (cellsI r.names)[i]'(by rw [cellsI_len]; exact hA) = [.int .i64 r.names[i]] := by simp [cellsI]
     have z6 : ld1 (S.row zq) zo = some (.int .i64 r.names[i], .no) := by
      have := z5 0 (by rw [zl]; simp)
      simp only [zl] at this
      exact this
     simp only [XZ, simprocAttr, f1, f2, f3, f6, f7, f8, f9, q1, lenR, hA', h4', z1, z6]
     refine wCall_plain (nameC _ _ hg.wf) ?_
     rintro _ S2 ⟨g2, rfl⟩
     have hnm : nameS r.names[i] = nameAt r i := by unfold nameAt; rw [List.getElem?_eq_getElem hA]
     rw [hnm]
     have q1' := q1
     have q2' := q2
     have q3' := q3
     have q1 := g2.cells q1
     have q2 := g2.cells q2
     have q3 := g2.cells q3
     simp only [XZ, simprocAttr, f1, f2, f3, f6, f7, f8, f9, q1, q3, c1, s1, c2, s2, d1, d2, d3, d4]
     refine wCall_marked (kidC (wf_low g2.wf S2.t) (((hr.gr hg).gr g2).imp fun r p _ => ⟨p, rfl⟩) i (by omega)) ?_
     rintro _ S3 g3 ⟨ke, rfl, hke⟩
     simp only [XZ, simprocAttr, f1, f2, f3, f6, f7, f8, f9, hsubd]
     refine wCall_marked (ih hd0' (wf_low g3.wf S3.t) (hke.imp fun r p _ => ⟨p, rfl⟩) ((((hn.gr hg).gr g2).gr g3).imp fun r p _ => ⟨p, rfl⟩)) ?_
     rintro _ S4 g4 ⟨ce, rfl, hce⟩
     simp only [XZ, simprocAttr, f1, f2, f3, f6, f7, f8, f9]
     have gA : Gr S S4 := g2.trans (g3.trans g4)
     have fr4 : ∀ r, S4.row r = .none → S1.row r = .none := fun r h => hfresh r (Ch.fresh (Ch.of (fun _ => False) gA) h)
     have fr3 : ∀ r, S3.row r = .none → S1.row r = .none := fun r h => hfresh r (Ch.fresh (Ch.of (fun _ => False) (g2.trans g3)) h)
     refine wCall_marked (putC (P := fun r => S1.row r = .none) (t := Ti i) (x := treeS nms d (kidS r i)) (nameAt r i) (wf_low g4.wf S4.t) ((hte0.gr gA).imp fun r p _ => ⟨p, rfl⟩) (hce.imp fun r p _ => ⟨fr3 r p, rfl⟩) (by have := (hTl i).2; omega) (hTl i).1 fr4) ?_
     rintro _ S5 g5 ⟨e5, rfl, he5⟩
     have he5' : TyC (fun r => S1.row r = .none) S5 e5 (Ti (i + 1)) := by rw [hTs]; exact he5.imp fun r p _ => ⟨p, rfl⟩
     have he6 := he5'
     obtain ⟨xnv, xkv, xes, rfl, x1, x3, x4, x5⟩ := he5'.inv
     have m1 := x1.cells
     have m2 := x1.sc
     have m3 := x3.cells
     have m4 := x3.sc
     have gB : Gr S S5 := gA.trans g5
     have q1 := gB.cells q1'
     have q2 := gB.cells q2'
     have q3 := gB.cells q3'
     simp only [XZ, simprocAttr, f1, f2, f3, f6, f7, f8, f9, q3, m1, m2, m3, m4, hadd1, apartAll_nil]
     have bne : b ≠ bt := bbt
     have g6 := (hg.trans gB).wr (f := fun u => .cells u [.int .i64 (Ti (i + 1)).kind, ofL (Ti (i + 1)).name, xnv, xkv]) nbt (ne_cells q3) (by first | (rw [q3]; done) | (rw [q3]; rfl)) (good_cells _)
     refine ⟨cnt - (i + 1), by omega, (hL _ _ _).2 ⟨i + 1, _, _, by omega, (hB _).2 (by simp only [XZ, simprocAttr, f1, f2, f3, f6, f7, and_self]), by simp only [XZ, simprocAttr, f8], by simp only [XZ, simprocAttr], g6, fun r h => ?_, by rw [row_wr_ne _ _ _ bne]; exact q1, by rw [row_wr_ne _ _ _ b2t]; exact q2, row_wr_same _ _ _ _, he6.imp fun r p _ => ⟨p, row_wr_ne _ _ _ fun e => by rw [e] at p; rw [p] at rt; cases rt⟩⟩⟩
     refine hfresh r (Ch.fresh (Ch.of (fun _ => False) gB) ?_)
     by_cases e : r = bt
     ·rw [e, row_wr_same] at h; cases h
     ·rwa [row_wr_ne _ _ _ e] at h
    ·have h4' : ¬ (i : Int) < 4 := by omega
     have hi0 : ¬ (i : Int) = 0 := by omega
     simp only [XZ, simprocAttr, f1, f2, f3, f6, f7, f8, f9, q1, lenR, hA', h4', hi0]
     exact done (by omega) (by simp only [XZ, simprocAttr, f6]) (by simp only [XZ, simprocAttr, f8])
   ·have hA' : ¬ (i : Int) < r.names.length := by omega
    by_cases hi0 : i = 0
    ·have hi0' : ((i : Int) = 0) = True := eq_true (by omega)
     by_cases hone : 1 = 1
     ·first
      | exact absurd hone (by decide)
      | simp only [XZ, simprocAttr, f1, f2, f3, f6, f7, f8, f9, q1, q3, lenR, hA', hi0', c1, s1, c2, s2, d1, d2, d3, d4]
        have g2 : Gr S S := Gr.refl hg.wf
        have hnm : ([117] : Str) = nameAt r i := by unfold nameAt; rw [List.getElem?_eq_none (by omega)]
        rw [hnm]
        have q1' := q1
        have q2' := q2
        have q3' := q3
        refine wCall_marked (kidC (wf_low g2.wf S.t) (((hr.gr hg).gr g2).imp fun r p _ => ⟨p, rfl⟩) i (by omega)) ?_
        rintro _ S3 g3 ⟨ke, rfl, hke⟩
        simp only [XZ, simprocAttr, f1, f2, f3, f6, f7, f8, f9, hsubd]
        refine wCall_marked (ih hd0' (wf_low g3.wf S3.t) (hke.imp fun r p _ => ⟨p, rfl⟩) ((((hn.gr hg).gr g2).gr g3).imp fun r p _ => ⟨p, rfl⟩)) ?_
        rintro _ S4 g4 ⟨ce, rfl, hce⟩
        simp only [XZ, simprocAttr, f1, f2, f3, f6, f7, f8, f9]
        have gA : Gr S S4 := g2.trans (g3.trans g4)
        have fr4 : ∀ r, S4.row r = .none → S1.row r = .none := fun r h => hfresh r (Ch.fresh (Ch.of (fun _ => False) gA) h)
        have fr3 : ∀ r, S3.row r = .none → S1.row r = .none := fun r h => hfresh r (Ch.fresh (Ch.of (fun _ => False) (g2.trans g3)) h)
        refine wCall_marked (putC (P := fun r => S1.row r = .none) (t := Ti i) (x := treeS nms d (kidS r i)) (nameAt r i) (wf_low g4.wf S4.t) ((hte0.gr gA).imp fun r p _ => ⟨p, rfl⟩) (hce.imp fun r p _ => ⟨fr3 r p, rfl⟩) (by have := (hTl i).2; omega) (hTl i).1 fr4) ?_
        rintro _ S5 g5 ⟨e5, rfl, he5⟩
        have he5' : TyC (fun r => S1.row r = .none) S5 e5 (Ti (i + 1)) := by rw [hTs]; exact he5.imp fun r p _ => ⟨p, rfl⟩
        have he6 := he5'
        obtain ⟨xnv, xkv, xes, rfl, x1, x3, x4, x5⟩ := he5'.inv
        have m1 := x1.cells
        have m2 := x1.sc
        have m3 := x3.cells
        have m4 := x3.sc
        have gB : Gr S S5 := gA.trans g5
        have q1 := gB.cells q1'
        have q2 := gB.cells q2'
        have q3 := gB.cells q3'
        simp only [XZ, simprocAttr, f1, f2, f3, f6, f7, f8, f9, q3, m1, m2, m3, m4, hadd1, apartAll_nil]
        have bne : b ≠ bt := bbt
        have g6 := (hg.trans gB).wr (f := fun u => .cells u [.int .i64 (Ti (i + 1)).kind, ofL (Ti (i + 1)).name, xnv, xkv]) nbt (ne_cells q3) (by first | (rw [q3]; done) | (rw [q3]; rfl)) (good_cells _)
        refine ⟨cnt - (i + 1), by omega, (hL _ _ _).2 ⟨i + 1, _, _, by omega, (hB _).2 (by simp only [XZ, simprocAttr, f1, f2, f3, f6, f7, and_self]), by simp only [XZ, simprocAttr, f8], by simp only [XZ, simprocAttr], g6, fun r h => ?_, by rw [row_wr_ne _ _ _ bne]; exact q1, by rw [row_wr_ne _ _ _ b2t]; exact q2, row_wr_same _ _ _ _, he6.imp fun r p _ => ⟨p, row_wr_ne _ _ _ fun e => by rw [e] at p; rw [p] at rt; cases rt⟩⟩⟩
        refine hfresh r (Ch.fresh (Ch.of (fun _ => False) gB) ?_)
        by_cases e : r = bt
        ·rw [e, row_wr_same] at h; cases h
        ·rwa [row_wr_ne _ _ _ e] at h
     ·first
      | exact absurd rfl hone
      | simp only [XZ, simprocAttr, f1, f2, f3, f6, f7, f8, f9, q1, lenR, hA', hi0']
        exact done (by omega) (by simp only [XZ, simprocAttr, f6]) (by simp only [XZ, simprocAttr, f8])
    ·have hi0' : ¬ (i : Int) = 0 := by omega
     simp only [XZ, simprocAttr, f1, f2, f3, f6, f7, f8, f9, q1, lenR, hA', hi0']
     exact done (by omega) (by simp only [XZ, simprocAttr, f6]) (by simp only [XZ, simprocAttr, f8])
  ·have hne : nms ≠ [] := fun e => by
    rw [hkd] at hkk
    by_cases c : (K = 9 ∧ nms = []) ∨ (d + 1 ≤ 1 ∧ 4 ≤ K ∧ K ≤ 8)
    ·rw [if_pos c] at hkd; cases hkd
    ·rw [if_neg c] at hkd; exact c (.inl ⟨hkd.symm, e⟩)
   have hpos := List.length_pos_iff.2 hne
   simp only [XZ, simprocAttr, f1, f2, f3, f7, r1, lenN]
   refine wCall_plain (within3C r.n nms.length _ (by omega) (by omega)) ?_
   rintro _ _ ⟨rfl, rfl⟩
   have q1 := Int.emod_nonneg r.n (show ((nms.length : Nat) : Int) ≠ 0 by omega)
   have q2 := Int.emod_lt_of_pos r.n (show (0 : Int) < ((nms.length : Nat) : Int) by omega)
   obtain ⟨i, hi⟩ : ∃ i : Nat, r.n % nms.length = i := ⟨(r.n % nms.length).toNat, by omega⟩
   rw [hi] at q1 q2
   have hil : i < nms.length := by omega
   obtain ⟨q, o, a1, a2, a3, a4, a5⟩ := (hn.gr g1).elem (i := i) (by rw [strs_len]; exact hil)
   have el : (strs nms)[i]'(by rw [strs_len]; exact hil) = [ofL nms[i]] := by simp [strs]
   have a6 : ld1 (S1.row q) o = some (ofL nms[i], .no) := by
    have := a5 0 (by rw [el]; simp)
    simp only [el] at this
    exact this
   rw [hi]
   simp only [XZ, simprocAttr, f2, a1, a6, rt]
   refine (hJ _ _).2 ⟨_, _, _, ?_, by simp only [XZ, simprocAttr, f6], by simp only [XZ, simprocAttr], g1.wr nbt (ne_cells rt) (by rw [rt]; rfl) (good_cells _), row_wr_same _ _ _ _, by rw [row_wr_ne _ _ _ b2t]; exact r2, flat _ _ _ _⟩
   rw [treeS]
   simp only [← hkk, if_true]
   rw [hi]
   simp [List.getD_eq_getElem?_getD, hil]
 intro fr S hJf
 obtain ⟨T, te, t, hT, f6, f8, gS, rS, rS2, hTy⟩ := (hJ _ _).1 hJf
 have hTy2 := hTy
 obtain ⟨nv', kv', es', rfl, t1, t3, t4, t5⟩ := hTy.inv
 have c3 := t1.cells
 have s3 := t1.sc
 have c4 := t3.cells
 have s4 := t3.sc
 rw [wC_seq]; simp only [XZ, simprocAttr, f6, f8, rS, rS2, c3, s3, c4, s4]
 have gw := gS.wr (f := fun u => .cells u [.int .i64 T.kind, ofL T.name, nv', kv']) nb2 (ne_cells rS2) (by first | (rw [rS2]; done) | (rw [rS2]; rfl)) (good_cells _)
 refine ⟨gw, _, rfl, ?_⟩
 rw [hT]
 exact hTy2.imp fun r p _ => ⟨st1 r p, row_wr_ne _ _ _ fun e => by rw [e] at p; rw [p] at r2; cases r2⟩
theorem treeC (nms : List Str) (hnm : nms.length < 1000) : ∀ d : Nat, d < 1000 → TreeAt nms (d + 1)
 | 0, h => treeCore nms hnm 0 h fun e => absurd rfl e
 | d + 1, h => treeCore nms hnm (d + 1) h fun _ => treeC nms hnm d (by omega)
theorem cloneF_Type {P : Pt → Prop} {st : St} {v : V} {es : List (List V)} (hw : WF st) (h : SlAt P st v 4 es) (hok : okC es) (hn : es.length < 2 ^ 20) :
  Does (tabT tabD) n_slices_Clone_Type [v] st fun v' st' => Gr st st' ∧ SlF st st' v' 4 es := by
 refine Does.gr tabM hw (does_fn at_slices_Clone_Type rfl ?_)
 obtain ⟨n, hn0⟩ : ∃ n, st.nx = up 0 n := ⟨_, up0 _⟩
 have hold := fun r (h : st.row r ≠ .none) => old_up hw hn0 h
 rcases h.2 with ⟨rfl, rfl⟩ | ⟨r, o, hp, hv, l, hl, h1, h2⟩
 ·have e1 : eqV (.one .l) false .snil .snil = some (.bool true, .no) := rfl
  simp only [cf_slices_Clone_Type, XZ, simprocAttr, e1]
  exact ⟨fun _ _ => trivial, SlF.nil _ _ _⟩
 ·have e1 : eqV (.one .l) false v .snil = some (.bool false, .no) := by rcases hv with rfl | ⟨c, _, rfl⟩ <;> rfl
  have h' : SlAt P (st.new fun t => .cells t []) v 4 es := h.imp fun r p e => ⟨p, row_new_old hw _ e⟩
  have r0 := row_new_nx st fun t => .cells t []
  have ha : appV (st.new fun t => .cells t []) 4 (.slx st.nx 0 0 4 0) v = if 0 < es.length then some (.sl (st.new fun t => .cells t []).nx 0 es.length 4, .new fun u => .cells u es.flatten) else some (.slx st.nx 0 0 4 0, .no) := by
   by_cases h0 : 0 < es.length
   ·rw [if_pos h0]; exact app_empty h' hok hn h0 r0
   ·rw [if_neg h0]
    have : es = [] := List.length_eq_zero_iff.1 (by omega)
    subst this
    exact app_empty0 h'
  rw [hn0] at ha
  by_cases h0 : 0 < es.length
  ·simp only [h0] at ha
   simp only [cf_slices_Clone_Type, XZ, simprocAttr, e1, hn0, e_app, ha]
   refine ⟨fun r hr => by simp only [hold r hr, if_false], ⟨h.1, .inr ⟨up 1 n, (st.new fun t => .cells t []).t, nx0 hw hn0 1, by simp only [XZ, simprocAttr, hn0], .inl rfl⟩⟩⟩
  ·simp only [h0] at ha
   simp only [cf_slices_Clone_Type, XZ, simprocAttr, e1, hn0, e_app, ha]
   have : es = [] := List.length_eq_zero_iff.1 (by omega)
   subst this
   exact ⟨fun r hr => by simp only [hold r hr, if_false], ⟨h.1, .inr ⟨up 0 n, st.t, nx0 hw hn0 0, by simp only [XZ, simprocAttr, hn0, List.flatten_nil], .inr rfl⟩⟩⟩
theorem typesS_step {p : Option Str} {n : Str} {r : List Str} (h1 : badName n = false) (h2 : notLess p n = false) : typesS p (n :: r) = typesS (some n) r := by
 rw [typesS, if_neg (by rw [h1]; simp), if_neg (by rw [h2]; simp)]
set_option maxHeartbeats 2000000 in
theorem typesC {P : Pt → Prop} {st : St} {v : V} {l : List (Str × Ty)} (hw : WF st) (h : LstAt (NmC P st) P st v 5 l) (hl : l.length ≤ 1000) : Does (tabT tabD) n_shape_types [v] st fun v' st' => Gr st st' ∧ v' = .int .i64 (typesS none (l.map Prod.fst)) := by
 refine does_fnG tabM at_shape_types rfl hw fun K fin => ?_
 have l1 := h.len
 simp only [cf_shape_types, XY, simprocAttr]
 rw [wC_seq]; simp only [XY, simprocAttr]
 rw [wC_seqj, wC_seq]; simp only [XY, simprocAttr, l1]
 obtain ⟨I, hI⟩ : ∃ I : Nat → Fr → St → Prop, ∀ j fr S, I j fr S ↔ ∃ (i : Nat) (p : Option Str), j + i = l.length ∧ fr 0 = v ∧ fr 5 = v ∧ fr 6 = .int .i64 l.length ∧ fr 7 = .int .i64 i ∧ Gr st S ∧ typesS none (l.map Prod.fst) = typesS p ((l.map Prod.fst).drop i) ∧ (p = if i = 0 then none else (l.map Prod.fst)[i - 1]?) := ⟨_, fun _ _ _ => Iff.rfl⟩
 refine wC_loop I l.length (by omega) ((hI _ _ _).2 ⟨0, none, by omega, by simp only [XZ, simprocAttr], by simp only [XZ, simprocAttr], by simp only [XZ, simprocAttr], by simp only [XZ, simprocAttr] <;> rfl, Gr.refl hw, rfl, rfl⟩) ?_
 intro j fr S hIj
 obtain ⟨i, p, hj, f0, f5, f6, f7, hg, hrec, hp⟩ := (hI _ _ _).1 hIj
 by_cases hi : i < l.length
 ·have hi' : (i : Int) < l.length := by omega
  have hS : LstAt (NmC P S) P S v 5 l := h.imp (fun e x h => h.imp fun r p e => ⟨p, hg.same r e⟩) fun r p e => ⟨p, hg.same r e⟩
  obtain ⟨r, q, e, a1, a2, a3, a4, ⟨c, he, hc⟩, a6, a7⟩ := hS.elem hi
  obtain ⟨nv, kv, es, rfl, x1, x2, x3, x4⟩ := hc.inv
  subst he
  have d1 := x1.cells
  have d2 := x1.sc
  have d3 := x2.cells
  have d4 := x2.sc
  have wS := hg.wf
  obtain ⟨nS, hnS⟩ : ∃ n, S.nx = up 0 n := ⟨_, up0 _⟩
  have oq := fun k => nes (ne_up wS hnS a3 k)
  obtain ⟨N, hN⟩ : ∃ N, N = l[i].1 := ⟨_, rfl⟩
  obtain ⟨T, hT⟩ : ∃ T, T = l[i].2 := ⟨_, rfl⟩
  rw [← hN, ← hT] at a4
  have hd : (l.map Prod.fst).drop i = N :: (l.map Prod.fst).drop (i + 1) := by
   rw [List.drop_eq_getElem_cons (by simpa using hi), List.getElem_map, ← hN]
  rw [hd] at hrec
  have hadd1 : IntKind.i64.wrap ((i : Int) + 1) = ((i + 1 : Nat) : Int) := by rw [i64_in (by omega) (by omega)]; rfl
  rw [wC_seq]; simp only [XY, simprocAttr, f6, f7, hi']
  rw [wC_seqj]; simp only [XY, simprocAttr]
  rw [wC_seqj]; simp only [XY, simprocAttr]
  rw [wC_seq]; simp only [XY, simprocAttr, f5, f7, a1, a4, hnS, oq, d1, d2, d3, d4]
  obtain ⟨S1, hS1⟩ : ∃ S1, S1 = ((S.new fun t => .cells t [ofL [], .int .i64 0, ofL [], .snil, .snil]).wr (up 0 nS) S.t fun u => .cells u [ofL N, .int .i64 T.kind, ofL T.name, nv, kv]) := ⟨_, rfl⟩
  have g1 : Gr S S1 := by rw [hS1]; exact (Gr.refl wS).nw hnS (good_cells _) (good_cells _)
  obtain ⟨t1, r1⟩ : ∃ t, S1.row (up 0 nS) = .cells t [ofL N, .int .i64 T.kind, ofL T.name, nv, kv] := ⟨_, by rw [hS1]; simp only [XZ, simprocAttr, hnS]; rfl⟩
  rw [← hS1]
  rw [wC_seq]; simp only [XY, simprocAttr, r1]
  refine wCall_plain (identC N _ g1.wf) ?_
  rintro _ S2 ⟨g2, rfl⟩
  have G2 := (hg.trans g1).trans g2
  have r2 := g2.cells r1
  have last : ∀ S3, Gr st S3 → S3.row (up 0 nS) = .cells t1 [ofL N, .int .i64 T.kind, ofL T.name, nv, kv] → True := fun _ _ _ => trivial
  have bad : badName N = true → typesS none (l.map Prod.fst) = 15 := fun hb => by rw [hrec, typesS, if_pos hb]
  cases hid : identB N with
  | false =>
    simp only [XZ, simprocAttr]
    refine fin _ _ (fun r e => G2.same r e) fun _ => ?_
    rw [bad (by unfold badName; rw [hid]; rfl)]
  | true =>
    have hlN := identB_len hid
    simp only [XY, simprocAttr, r2, List.length_append]
    refine ⟨by omega, by omega, ?_⟩
    refine wCall_plain (does_hook (Q := fun v st' => v = .bool (Lib.contains words (32 :: (N ++ [32]))) ∧ S2 = st') at_strings_Contains (contains_of words (32 :: (N ++ [32])) (by decide)) ⟨rfl, rfl⟩) ?_
    rintro _ _ ⟨rfl, rfl⟩
    cases hwd : Lib.contains words (32 :: (N ++ [32])) with
    | true =>
      simp only [XZ, simprocAttr]
      refine fin _ _ (fun r e => G2.same r e) fun _ => ?_
      rw [bad (by unfold badName; rw [hid, hwd]; rfl)]
    | false =>
      have hbn : badName N = false := by unfold badName; rw [hid, hwd]; rfl
      have next : ∀ {fr' : Fr}, notLess p N = false → fr' 0 = v → fr' 5 = v → fr' 6 = .int .i64 l.length → fr' 7 = .int .i64 ((i + 1 : Nat) : Int) → ∃ j', j' < j ∧ I j' fr' S2 := fun {fr'} hl e0 e5 e6 e7 =>
       ⟨l.length - (i + 1), by omega, (hI _ _ _).2 ⟨i + 1, some N, by omega, e0, e5, e6, e7, G2, by rw [hrec, typesS_step hbn hl], by rw [if_neg (by omega)]; simp [hi, hN]⟩⟩
      by_cases h0 : i = 0
      ·have h0' : ¬ (0 : Int) < (i : Int) := by omega
       simp only [XZ, simprocAttr, f7, h0', hadd1, apartAll_nil]
       refine next (by rw [hp, if_pos h0]; rfl) ?_ ?_ ?_ ?_ <;> simp only [XZ, simprocAttr, f0, f5, f6]
      ·have h0' : (0 : Int) < (i : Int) := by omega
       have hsub : IntKind.i64.wrap ((i : Int) - 1) = ((i - 1 : Nat) : Int) := by rw [i64_in (by omega) (by omega)]; omega
       have hS2 : LstAt (NmC P S2) P S2 v 5 l := h.imp (fun e x h => h.imp fun r p e => ⟨p, G2.same r e⟩) fun r p e => ⟨p, G2.same r e⟩
       have hi1 : i - 1 < l.length := by omega
       obtain ⟨r', q', e', b1, b2, b3, b4, ⟨c', hb, hb'⟩, b6, b7⟩ := hS2.elem hi1
       subst hb
       have b8 := b7 0 (by simp)
       have b8 : ld1 (S2.row r') q' = some (ofL l[i - 1].1, .no) := b8
       have hp' : p = some l[i - 1].1 := by rw [hp, if_neg h0, List.getElem?_map, List.getElem?_eq_getElem hi1]; rfl
       cases hl : Op.bytesLess l[i - 1].1 N with
       | false =>
         simp only [XZ, simprocAttr, f0, f7, h0', r2, hsub, b1, b8, binV_sgeq, hl, apartAll_nil]
         refine fin _ _ (fun r e => G2.same r e) fun _ => ?_
         rw [hrec, typesS, if_neg (by rw [hbn]; simp), if_pos (by rw [hp', notLess, hl]; rfl)]
       | true =>
         simp only [XZ, simprocAttr, f0, f7, h0', r2, hsub, b1, b8, binV_sgeq, hl, apartAll_nil, hadd1]
         refine next (by rw [hp', notLess, hl]; rfl) ?_ ?_ ?_ ?_ <;> simp only [XZ, simprocAttr, f0, f5, f6]
 ·have hi' : ¬ (i : Int) < l.length := by omega
  simp only [XZ, simprocAttr, f6, f7, hi']
  refine fin _ _ (fun r e => hg.same r e) fun _ => ?_
  rw [hrec, List.drop_eq_nil_of_le (by simp; omega), typesS]
theorem set_new {α : Type} [DecidableEq α] {k : α} {v : V} : ∀ {es : List (α × V)}, (∀ p ∈ es, k ≠ p.1) → set_ k v es = es ++ [(k, v)]
 | [], _ => rfl
 | (a, w) :: r, h => by
   rw [set_, if_neg (h (a, w) (by simp)), set_new fun p hp => h p (List.mem_cons_of_mem _ hp)]
   rfl
set_option maxHeartbeats 2000000 in
theorem namedC {P : Pt → Prop} {st : St} {e : List V} {s : Sch} (hw : WF st) (h : SchC P st e s) (hl : s.types.length ≤ 1000) (hd : (s.types.map Prod.fst).Nodup) : Does (tabT tabD) n_shape_named [.agg e] st fun v' st' => Gr st st' ∧ ∃ r, v' = .map r ∧ st.row r = .none ∧ NmMap P st' r s.types := by
 refine does_fnG tabM at_shape_named rfl hw fun K fin => ?_
 obtain ⟨n, hn0⟩ : ∃ n, st.nx = up 0 n := ⟨_, up0 _⟩
 obtain ⟨c, tv, sv, rfl, h1, h2, h3⟩ := h
 obtain ⟨l, hll⟩ : ∃ l, l = s.types := ⟨_, rfl⟩
 rw [← hll] at h2 hl hd
 simp only [← hll] at fin
 obtain ⟨M, hM⟩ : ∃ M, M = s.main := ⟨_, rfl⟩
 rw [← hM] at h1
 obtain ⟨k, nm, ns, ks⟩ := M
 obtain ⟨nv, kv, es, rfl, x1, x2, x3, x4⟩ := h1.inv'
 have l1 := h2.len
 simp only [cf_shape_named, XY, simprocAttr]
 rw [wC_seq]; simp only [XY, simprocAttr, hn0, x1.sc, x2.sc, h2.sc.1, h3.sc.1]
 rw [wC_seq]; simp only [XY, simprocAttr, hn0]
 obtain ⟨S0, hS0⟩ : ∃ S0, S0 = ((st.new fun t => .cells t [.int .i64 k, ofL nm, nv, kv, tv, sv]).new fun t => .mob t []) := ⟨_, rfl⟩
 have g0 : Gr st S0 := by rw [hS0]; exact (Gr.new hw (good_cells _)).nn (good_mob _)
 obtain ⟨t0, r0⟩ : ∃ t, S0.row (up 0 n) = .cells t [.int .i64 k, ofL nm, nv, kv, tv, sv] := ⟨_, by rw [hS0]; simp only [XZ, simprocAttr, hn0]; rfl⟩
 obtain ⟨tm, m0⟩ : ∃ t, S0.row (up 1 n) = .mob t [] := ⟨_, by rw [hS0]; simp only [XZ, simprocAttr, hn0]; rfl⟩
 obtain ⟨rm, hrm⟩ : ∃ p, p = up 1 n := ⟨_, rfl⟩
 have q0 : st.row rm = .none := by rw [hrm]; exact nx0 hw hn0 1
 rw [← hS0, ← hrm]
 rw [← hrm] at m0
 clear hS0
 rw [wC_seqj, wC_seq]; simp only [XY, simprocAttr, r0, l1]
 obtain ⟨I, hI⟩ : ∃ I : Nat → Fr → St → Prop, ∀ j fr S, I j fr S ↔ ∃ (i : Nat) (ms : List (Str × List V)), j + i = l.length ∧ fr 3 = .map rm ∧ fr 8 = tv ∧ fr 9 = .int .i64 l.length ∧ fr 10 = .int .i64 i ∧ Gr st S ∧ (∃ t, S.row rm = .mob t (ms.map fun p => (ofL p.1, V.agg p.2))) ∧ ms.length = i ∧ ∀ j (h : j < ms.length) (h' : j < l.length), ms[j].1 = l[j].1 ∧ TyC P st ms[j].2 l[j].2 := ⟨_, fun _ _ _ => Iff.rfl⟩
 refine wC_loop I l.length (by omega) ((hI _ _ _).2 ⟨0, [], by omega, by simp only [XZ, simprocAttr], by simp only [XZ, simprocAttr], by simp only [XZ, simprocAttr], by simp only [XZ, simprocAttr] <;> rfl, g0, ⟨tm, m0⟩, rfl, fun j h => absurd h (by simp)⟩) ?_
 intro j fr S hIj
 obtain ⟨i, ms, hj, f3, f8, f9, f10, hg, ⟨t, hm⟩, hml, hms⟩ := (hI _ _ _).1 hIj
 by_cases hi : i < l.length
 ·have hi' : (i : Int) < l.length := by omega
  obtain ⟨r, q, e, a1, a2, a3, a4, ⟨c, he, hc⟩, a6, a7⟩ := h2.elem hi
  have hc0 := hc
  obtain ⟨nv1, kv1, es1, rfl, y1, y2, y3, y4⟩ := hc.inv
  subst he
  rw [← hg.same r a3] at a4
  have d1 := y1.cells
  have d2 := y1.sc
  have d3 := y2.cells
  have d4 := y2.sc
  have wS := hg.wf
  obtain ⟨nS, hnS⟩ : ∃ n, S.nx = up 0 n := ⟨_, up0 _⟩
  have a3S : S.row r ≠ .none := by rw [hg.same r a3]; exact a3
  have oq := fun k => nes (ne_up wS hnS a3S k)
  have hmn : S.row rm ≠ .none := by rw [hm]; exact fun e => by cases e
  have om := fun k => nes (ne_up wS hnS hmn k)
  obtain ⟨N, hN⟩ : ∃ N, N = l[i].1 := ⟨_, rfl⟩
  obtain ⟨T, hT⟩ : ∃ T, T = l[i].2 := ⟨_, rfl⟩
  rw [← hT] at hc0
  rw [← hN, ← hT] at a4
  have hadd1 : IntKind.i64.wrap ((i : Int) + 1) = ((i + 1 : Nat) : Int) := by rw [i64_in (by omega) (by omega)]; rfl
  rw [wC_seq]; simp only [XY, simprocAttr, f9, f10, hi']
  rw [wC_seqj]; simp only [XY, simprocAttr]
  rw [wC_seqj]; simp only [XY, simprocAttr]
  rw [wC_seq]; simp only [XY, simprocAttr, f8, f10, a1, a4, hnS, oq, d1, d2, d3, d4]
  obtain ⟨S1, hS1⟩ : ∃ S1, S1 = ((S.new fun t => .cells t [ofL [], .int .i64 0, ofL [], .snil, .snil]).wr (up 0 nS) S.t fun u => .cells u [ofL N, .int .i64 T.kind, ofL T.name, nv1, kv1]) := ⟨_, rfl⟩
  have g1 : Gr S S1 := by rw [hS1]; exact (Gr.refl wS).nw hnS (good_cells _) (good_cells _)
  obtain ⟨t1, r1⟩ : ∃ t, S1.row (up 0 nS) = .cells t [ofL N, .int .i64 T.kind, ofL T.name, nv1, kv1] := ⟨_, by rw [hS1]; simp only [XZ, simprocAttr, hnS]; rfl⟩
  have m1 : S1.row rm = .mob t (ms.map fun p => (ofL p.1, V.agg p.2)) := by rw [g1.same rm hmn, hm]
  rw [← hS1]
  have hnew : ∀ p ∈ ms.map (fun p => (p.1, V.agg p.2)), N ≠ p.1 := fun p hp e => by
   obtain ⟨p0, hp0, rfl⟩ := List.mem_map.1 hp
   obtain ⟨j, hj1, rfl⟩ := List.mem_iff_getElem.1 hp0
   have hj2 : j < l.length := by omega
   have e1 := (hms j hj1 hj2).1
   have e2 : (l.map Prod.fst)[j]'(by simpa using hj2) = (l.map Prod.fst)[i]'(by simpa using hi) := by
    rw [List.getElem_map, List.getElem_map, ← e1, ← hN]; exact e.symm
   exact List.pairwise_iff_getElem.1 hd j i (by simpa using hj2) (by simpa using hi) (by omega) e2
  have hmm : S1.row rm = .mob t ((ms.map fun p => (p.1, V.agg p.2)).map fun p => (ofL p.1, p.2)) := by rw [m1, List.map_map]; rfl
  have hup := mupd_at (enc := ofL) (e := .one .s) hmm N (.agg [.int .i64 T.kind, ofL T.name, nv1, kv1]) (str_heq N _) rfl
  rw [set_new hnew] at hup
  simp only [XZ, simprocAttr, f3, r1, hup, hadd1, f10]
  refine ⟨l.length - (i + 1), by omega, (hI _ _ _).2 ⟨i + 1, ms ++ [(N, [.int .i64 T.kind, ofL T.name, nv1, kv1])], by omega, by simp only [XZ, simprocAttr, f3], by simp only [XZ, simprocAttr, f8], by simp only [XZ, simprocAttr, f9], by simp only [XZ, simprocAttr], ?_, ?_, by simp [hml], fun j h h' => ?_⟩⟩
  ·exact (hg.trans g1).wr q0 (by rw [m1]; exact fun e => by cases e) (by rw [m1]; rfl) (good_mob _)
  ·exact ⟨_, by rw [row_wr_same]; simp; rfl⟩
  ·by_cases c : j < ms.length
   ·rw [List.getElem_append_left c]
    exact hms j c h'
   ·have : j = i := by simp at h; omega
    subst this
    subst hml
    simp only [List.getElem_concat_length]
    exact ⟨hN, by rw [← hT]; exact hc0⟩
 ·have hi' : ¬ (i : Int) < l.length := by omega
  simp only [XZ, simprocAttr, f3, f9, f10, hi']
  refine fin _ _ (fun r e => hg.same r e) fun G => ⟨rm, rfl, q0, ms, ⟨t, by rw [hm, List.map_map]; rfl⟩, by omega, fun j h h' => ⟨(hms j h h').1, (hms j h h').2.gr hg⟩⟩
theorem sigsS_cons (has : Str → Bool) (p : Option Str) (f : Sg) (r : List Sg) (met : Nat) : sigsS has p (f :: r) met = if (!identB f.name || isBuiltin f.name) = true then (15, met) else if notLess p f.name = true then (6, met) else if 4 < f.params.length then (18, met) else
  if (maysS has (f.params ++ [f.result]) 1 met).1 ≠ 0 then maysS has (f.params ++ [f.result]) 1 met else sigsS has (some f.name) r (maysS has (f.params ++ [f.result]) 1 met).2 := by rw [sigsS]
theorem LookAt.low {P : Pt → Prop} {st : St} {kr rm : Pt} {l : List (Str × Ty)} {met : Nat} (h : LookAt P st kr rm l met) (k : Nat) : LookAt P { st with low := k } kr rm l met := ⟨h.map.imp rfl fun r p _ => ⟨p, rfl⟩, h.cell, h.sep, h.ne⟩
theorem _root_.Eva.LstAt.low {P : Pt → Prop} {st : St} {v : V} {l : List Ty} (h : LstAt (TyC P st) P st v 4 l) (k : Nat) : LstAt (TyC P { st with low := k }) P { st with low := k } v 4 l := h.imp (fun e x h => h.imp fun r p _ => ⟨p, rfl⟩) fun r p _ => ⟨p, rfl⟩
set_option maxHeartbeats 4000000 in
theorem sigsC {P : Pt → Prop} {st : St} {kr rm : Pt} {l : List (Str × Ty)} {met : Nat} {v : V} {fs : List Sg} (hw : WF st) (hL : LookAt P st kr rm l met) (h : LstAt (SgC P st) P st v 6 fs) (hl : fs.length ≤ 1000) (hmet : met ≤ 400) :
  Does (tabT tabD) n_shape_looker_sigs [.ptr kr 0, v] st fun v' st' => Ch (fun r => r = kr) st st' ∧ LookAt P st' kr rm l (sigsS (hasN l) none fs met).2 ∧ v' = .int .i64 (sigsS (hasN l) none fs met).1 := by
 refine does_fnC tabM at_shape_looker_sigs rfl hw fun K fin => ?_
 have l1 := h.len
 simp only [cf_shape_looker_sigs, XY, simprocAttr]
 rw [wC_seq]; simp only [XY, simprocAttr]
 rw [wC_seqj, wC_seq]; simp only [XY, simprocAttr, l1]
 obtain ⟨I, hI⟩ : ∃ I : Nat → Fr → St → Prop, ∀ j fr S, I j fr S ↔ ∃ (i mi : Nat) (p : Option Str), j + i = fs.length ∧ fr 0 = .ptr kr 0 ∧ fr 1 = v ∧ fr 8 = v ∧ fr 9 = .int .i64 fs.length ∧ fr 10 = .int .i64 i ∧ Ch (fun r => r = kr) st S ∧ LookAt P S kr rm l mi ∧ mi ≤ 400 ∧ sigsS (hasN l) none fs met = sigsS (hasN l) p (fs.drop i) mi ∧ (p = if i = 0 then none else (fs.map Sg.name)[i - 1]?) := ⟨_, fun _ _ _ => Iff.rfl⟩
 refine wC_loop I fs.length (by omega) ((hI _ _ _).2 ⟨0, met, none, by omega, by simp only [XZ, simprocAttr], by simp only [XZ, simprocAttr], by simp only [XZ, simprocAttr], by simp only [XZ, simprocAttr], by simp only [XZ, simprocAttr] <;> rfl, Ch.refl _ hw, hL, hmet, rfl, rfl⟩) ?_
 intro j fr S hIj
 obtain ⟨i, mi, p, hj, f0, f1, f8, f9, f10, hC, hLi, hmi, hrec, hp⟩ := (hI _ _ _).1 hIj
 have kst : st.row kr ≠ .none := hL.krne
 by_cases hi : i < fs.length
 ·have hi' : (i : Int) < fs.length := by omega
  have hold : ∀ {S' : St}, Ch (fun r => r = kr) st S' → LstAt (SgC P S') P S' v 6 fs := fun c => by
   have hk : ∀ r, P r → st.row r ≠ .none → P r ∧ _ = st.row r := fun r p e => ⟨p, c.same r e (hL.sep r p)⟩
   exact h.imp (fun e x h => h.imp hk) hk
  obtain ⟨r, q, e, a1, a2, a3, a4, ⟨pv, c, he, hps, hc⟩, a6, a7⟩ := (hold hC).elem hi
  obtain ⟨es, sp, sp1, sp2⟩ := hps
  obtain ⟨nv, kv, es1, rfl, x1, x2, x3, x4⟩ := hc.inv
  subst he
  have d1 := x1.cells
  have d2 := x1.sc
  have d3 := x2.cells
  have d4 := x2.sc
  have d5 := sp.cells
  have d6 := sp.sc
  have wS := hC.wf
  obtain ⟨nS, hnS⟩ : ∃ n, S.nx = up 0 n := ⟨_, up0 _⟩
  have oq := fun k => nes (ne_up wS hnS a3 k)
  have hadd1 : IntKind.i64.wrap ((i : Int) + 1) = ((i + 1 : Nat) : Int) := by rw [i64_in (by omega) (by omega)]; rfl
  obtain ⟨f, hf⟩ : ∃ f, f = fs[i] := ⟨_, rfl⟩
  have hd : fs.drop i = f :: fs.drop (i + 1) := by rw [List.drop_eq_getElem_cons hi, ← hf]
  rw [hd, sigsS_cons] at hrec
  rw [← hf] at a4 hc sp1 sp2 x4 x3 x1
  rw [wC_seq]; simp only [XY, simprocAttr, f9, f10, hi']
  rw [wC_seqj]; simp only [XY, simprocAttr]
  rw [wC_seqj]; simp only [XY, simprocAttr]
  rw [wC_seq]; simp only [XY, simprocAttr, f8, f10, a1, a4, hnS, oq, d1, d2, d3, d4, d5, d6]
  obtain ⟨S1, hS1⟩ : ∃ S1, S1 = ((S.new fun t => .cells t [ofL [], .snil, .int .i64 0, ofL [], .snil, .snil]).wr (up 0 nS) S.t fun u => .cells u [ofL f.name, pv, .int .i64 f.result.kind, ofL f.result.name, nv, kv]) := ⟨_, rfl⟩
  have g1 : Gr S S1 := by rw [hS1]; exact (Gr.refl wS).nw hnS (good_cells _) (good_cells _)
  obtain ⟨t1, r1⟩ : ∃ t, S1.row (up 0 nS) = .cells t [ofL f.name, pv, .int .i64 f.result.kind, ofL f.result.name, nv, kv] := ⟨_, by rw [hS1]; simp only [XZ, simprocAttr, hnS]; rfl⟩
  rw [← hS1]
  obtain ⟨J, hJ⟩ : ∃ J : Fr → St → Prop, ∀ fr S', J fr S' ↔ (Gr S1 S' ∧ fr 0 = .ptr kr 0 ∧ fr 1 = v ∧ fr 6 = .ptr (up 0 nS) 0 ∧ fr 8 = v ∧ fr 9 = .int .i64 fs.length ∧ fr 10 = .int .i64 i ∧ (!identB f.name || isBuiltin f.name) = false ∧ notLess p f.name = false ∧ f.params.length ≤ 4) := ⟨_, fun _ _ => Iff.rfl⟩
  have lp := sp.len
  rw [sp1] at lp
  refine wC_cut J ?_ ?_
  ·simp only [XY, simprocAttr]
   rw [wC_seq]; simp only [XY, simprocAttr, r1]
   refine wCall_plain (identC f.name _ g1.wf) ?_
   rintro _ S2 ⟨g2, rfl⟩
   have G12 := g1.trans g2
   have r2 := g2.cells r1
   have C2 : Ch (fun r => r = kr) st S2 := hC.trans (Ch.of _ G12) fun r w => .inl w
   have L2 := hLi.gr G12
   have bad : (!identB f.name || isBuiltin f.name) = true → sigsS (hasN l) none fs met = (15, mi) := fun hb => by rw [hrec, if_pos hb]
   cases hid : identB f.name with
   | false =>
     simp only [XZ, simprocAttr]
     refine fin _ _ (fun r a b => C2.same r a b) fun _ => ?_
     rw [bad (by rw [hid]; rfl)]
     exact ⟨L2, rfl⟩
   | true =>
     simp only [XY, simprocAttr, r2]
     refine wCall_plain (builtinC f.name _ g2.wf) ?_
     rintro _ S3 ⟨g3, hv3⟩
     rw [show (identB f.name && Lib.contains builtins (32 :: (f.name ++ [32]))) = isBuiltin f.name from rfl] at hv3
     subst hv3
     have G23 := g2.trans g3
     have G13 := g1.trans G23
     have r3 := g3.cells r2
     have C3 : Ch (fun r => r = kr) st S3 := hC.trans (Ch.of _ G13) fun r w => .inl w
     have L3 := hLi.gr G13
     cases hbi : isBuiltin f.name with
     | true =>
       simp only [XZ, simprocAttr]
       refine fin _ _ (fun r a b => C3.same r a b) fun _ => ?_
       rw [bad (by rw [hbi]; simp)]
       exact ⟨L3, rfl⟩
     | false =>
       have hnb : (!identB f.name || isBuiltin f.name) = false := by rw [hid, hbi]; rfl
       have hrec2 := hrec
       rw [if_neg (by rw [hnb]; simp)] at hrec2
       by_cases h0 : i = 0
       ·have h0' : ¬ (0 : Int) < (i : Int) := by omega
        have hnl : notLess p f.name = false := by rw [hp, if_pos h0]; rfl
        by_cases h4 : 4 < f.params.length
        ·have h4' : (4 : Int) < f.params.length := by omega
         simp only [XZ, simprocAttr, h0', apartAll_nil, r3, lp, h4']
         refine fin _ _ (fun r a b => C3.same r a b) fun _ => ?_
         rw [hrec2, if_neg (by rw [hnl]; simp), if_pos h4]
         exact ⟨L3, rfl⟩
        ·have h4' : ¬ (4 : Int) < f.params.length := by omega
         simp only [XZ, simprocAttr, h0', apartAll_nil, r3, lp, h4']
         exact (hJ _ _).2 ⟨G23, by simp only [XZ, simprocAttr, f0], by simp only [XZ, simprocAttr, f1], by simp only [XZ, simprocAttr], by simp only [XZ, simprocAttr, f8], by simp only [XZ, simprocAttr, f9], by simp only [XZ, simprocAttr, f10], hnb, hnl, by omega⟩
       ·have h0' : (0 : Int) < (i : Int) := by omega
        have hsub : IntKind.i64.wrap ((i : Int) - 1) = ((i - 1 : Nat) : Int) := by rw [i64_in (by omega) (by omega)]; omega
        have hi1 : i - 1 < fs.length := by omega
        obtain ⟨r', q', e', b1, b2, b3, b4, ⟨pv', c', hb, hb1, hb2⟩, b6, b7⟩ := (hold C3).elem hi1
        subst hb
        have b8 := b7 0 (by simp)
        have b8 : ld1 (S3.row r') q' = some (ofL fs[i - 1].name, .no) := b8
        have hp' : p = some fs[i - 1].name := by rw [hp, if_neg h0, List.getElem?_map, List.getElem?_eq_getElem hi1]; rfl
        cases hl2 : Op.bytesLess fs[i - 1].name f.name with
        | false =>
          simp only [XZ, simprocAttr, f1, h0', r3, hsub, b1, b8, binV_sgeq, hl2, apartAll_nil]
          refine fin _ _ (fun r a b => C3.same r a b) fun _ => ?_
          rw [hrec2, if_pos (by rw [hp', notLess, hl2]; rfl)]
          exact ⟨L3, rfl⟩
        | true =>
          have hnl : notLess p f.name = false := by rw [hp', notLess, hl2]; rfl
          by_cases h4 : 4 < f.params.length
          ·have h4' : (4 : Int) < f.params.length := by omega
           simp only [XZ, simprocAttr, f1, h0', r3, hsub, b1, b8, binV_sgeq, hl2, apartAll_nil, lp, h4']
           refine fin _ _ (fun r a b => C3.same r a b) fun _ => ?_
           rw [hrec2, if_neg (by rw [hnl]; simp), if_pos h4]
           exact ⟨L3, rfl⟩
          ·have h4' : ¬ (4 : Int) < f.params.length := by omega
           simp only [XZ, simprocAttr, f1, h0', r3, hsub, b1, b8, binV_sgeq, hl2, apartAll_nil, lp, h4']
           exact (hJ _ _).2 ⟨G23, by simp only [XZ, simprocAttr, f0], by simp only [XZ, simprocAttr, f1], by simp only [XZ, simprocAttr], by simp only [XZ, simprocAttr, f8], by simp only [XZ, simprocAttr, f9], by simp only [XZ, simprocAttr, f10], hnb, hnl, by omega⟩
  intro fr S3 hJf
  obtain ⟨g13, f0, f1, f6, f8, f9, f10, hnb, hnl, h4⟩ := (hJ _ _).1 hJf
  rw [if_neg (by rw [hnb]; simp), if_neg (by rw [hnl]; simp), if_neg (by omega)] at hrec
  have G3 := g1.trans g13
  have C3 : Ch (fun r => r = kr) st S3 := hC.trans (Ch.of _ G3) fun r w => .inl w
  have L3 := hLi.gr G3
  have r3 := g13.cells r1
  have sp3 := sp.gr G3
  have hes : okC es := fun e he => by
   obtain ⟨j, hj, rfl⟩ := List.mem_iff_getElem.1 he
   exact (sp2 j hj (by omega)).ok
  have w3 := G3.wf
  rw [wC_seq]; simp only [XY, simprocAttr, f0, f6, r3]
  refine wCall_marked (cloneF_Type (wf_low w3 S3.t) (sp3.low _) hes (by omega)) ?_
  rintro cv S4 g4 hcv
  have hcv : SlF S3 S4 cv 4 es := hcv
  have r4 := g4.cells r3
  have w4 := g4.wf
  obtain ⟨n4, hn4⟩ : ∃ n, S4.nx = up 0 n := ⟨_, up0 _⟩
  simp only [XY, simprocAttr, f6, r4, hn4, d1, d2, d3, d4]
  obtain ⟨ce, hce⟩ : ∃ ce, ce = [V.int .i64 f.result.kind, ofL f.result.name, nv, kv] := ⟨_, rfl⟩
  rw [← hce] at hc
  rw [← hce]
  have gn : Gr S4 (S4.new fun t => .cells t ce) := Gr.new w4 (by rw [hce]; exact good_cells _)
  have hone : SlAt (fun r => r = up 0 n4) (S4.new fun t => .cells t ce) (.slx (up 0 n4) 0 1 4 1) 4 [ce] := by
   have := one_at (st := S4) (z := 4) hc.four
   rwa [hn4] at this
  refine wW_appF (S0 := S3) (g4.trans gn) (hcv.gr gn) hone (fun e he => by rw [List.mem_singleton.1 he]; exact hc.ok) (by simp) (by simp; omega) ?_
  intro S5 v5 g5 h5 _
  have G5 := G3.trans g5
  have L5 := hLi.gr G5
  have C5 : Ch (fun r => r = kr) st S5 := hC.trans (Ch.of _ G5) fun r w => .inl w
  have kr3 : S3.row kr ≠ .none := L3.krne
  have L5' : LookAt (fun r => P r ∨ S3.row r = .none) S5 kr rm l mi :=
   ⟨L5.map.imp rfl fun r p _ => ⟨.inl p, rfl⟩, L5.cell, fun r p => by rcases p with p | p; exact L5.sep r p; exact fun e => kr3 (by rw [← e]; exact p), L5.ne⟩
  have hx5 : LstAt (TyC (fun r => P r ∨ S3.row r = .none) S5) (fun r => P r ∨ S3.row r = .none) S5 v5 4 (f.params ++ [f.result]) := by
   refine ⟨es ++ [ce], h5.at.imp fun r p _ => ⟨.inr p, rfl⟩, by simp [sp1], fun i a b => ?_⟩
   have lift : ∀ {e t}, TyC P S e t → TyC (fun r => P r ∨ S3.row r = .none) S5 e t := fun h => h.imp fun r p e => ⟨.inl p, G5.same r e⟩
   by_cases hi : i < es.length
   ·rw [List.getElem_append_left hi, List.getElem_append_left (by omega)]
    exact lift (sp2 i hi (by omega))
   ·have : i = es.length := by simp at a; omega
    subst this
    rw [List.getElem_append_right (Nat.le_refl _), List.getElem_append_right (by omega)]
    simp only [Nat.sub_self, List.getElem_singleton]
    exact lift hc
  simp only [XY, simprocAttr]
  refine wCall_markedC (W := fun r => r = kr) C5.wf ((allC (wf_low C5.wf S5.t) (L5'.low S5.t) (hx5.low S5.t) (by simp; omega) hmi).mono fun v st' h => ⟨h.1, h.2⟩) ?_
  rintro _ S6 lo c6 ⟨L6, rfl⟩
  have cS6 : Ch (fun r => r = kr) st { S6 with low := lo } := C5.trans c6 fun r w => .inl w
  have L6' : LookAt P { S6 with low := lo } kr rm l (maysS (hasN l) (f.params ++ [f.result]) 1 mi).2 := L5.ch c6 L6.cell
  have hmet2 := maysS_met (hasN l) (f.params ++ [f.result]) 1 mi hmi
  by_cases he : (maysS (hasN l) (f.params ++ [f.result]) 1 mi).1 = 0
  ·rw [if_neg (by simpa using he)] at hrec
   simp only [XZ, simprocAttr, he, apartAll_nil, f0, f10, hadd1]
   exact ⟨fs.length - (i + 1), by omega, (hI _ _ _).2 ⟨i + 1, _, some f.name, by omega, by simp only [XZ, simprocAttr, f0], by simp only [XZ, simprocAttr, f1], by simp only [XZ, simprocAttr, f8], by simp only [XZ, simprocAttr, f9], by simp only [XZ, simprocAttr], cS6, L6', hmet2.2 he, hrec, by rw [if_neg (by omega)]; simp [hi, hf]⟩⟩
  ·rw [if_pos (by simpa using he)] at hrec
   simp only [XZ, simprocAttr, he, apartAll_nil]
   refine fin _ _ (fun r a b => cS6.same r a b) fun _ => ?_
   rw [hrec]; exact ⟨L6', rfl⟩
 ·have hi' : ¬ (i : Int) < fs.length := by omega
  simp only [XZ, simprocAttr, f9, f10, hi']
  refine fin _ _ (fun r a b => hC.same r a b) fun _ => ?_
  rw [hrec, List.drop_eq_nil_of_le (by omega), sigsS]
  exact ⟨hLi, rfl⟩
end Go.Proofs.Ytbjfmnjnonnmeaa
