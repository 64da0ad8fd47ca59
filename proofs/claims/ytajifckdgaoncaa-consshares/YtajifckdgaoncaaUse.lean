/- A table used: what is beside it stays. -/
import Derived.Test.YtajifckdgaoncaaNew0
import Derived.Test.YtajifckdgaoncaaEveI
namespace Go.Proofs.Ytajifckdgaoncaa
open Eva Go.RowKit
set_option maxRecDepth 100000
set_option linter.unusedSimpArgs false
set_option linter.unusedVariables false
theorem addX {W : Pt → Prop} {st : St} {rt : Pt} {tb : Tb} {e : List V} {ty : Ty} (hT : TabX st W rt tb) (hx : TyC (fun r => ¬ W r) st e ty) :
    Does (tabT tabD) n_cons_Table_Add [.ptr rt 0, .agg e] st fun v S => ∃ W', TabX S W' rt (addT ty 400 tb).1 ∧ Kept st W S W' ∧ v = .tup [.int .i64 ((addT ty 400 tb).2.1 : Nat), .int .i64 (addT ty 400 tb).2.2.1] := by
  obtain ⟨hw, F, hT⟩ := hT
  refine (addTop hw hT hx fun r n => n).mono ?_
  rintro v S ⟨c, ⟨W', F', b1, b2, b3, T'⟩, rfl⟩
  exact ⟨W', ⟨c.wf, F', T'⟩, Kept.ch c b2, rfl⟩
theorem nodeX {W : Pt → Prop} {st : St} {rt : Pt} {tb : Tb} {id : Nat} (hT : TabX st W rt tb) (hi : id < tb.nodes.length) :
    Does (tabT tabD) n_cons_Table_Node [.ptr rt 0, .int .i64 id] st fun v S => TabX S W rt tb ∧ Gr st S ∧ ∃ e, v = .tup [.agg e, .bool true] ∧ NdC (fun _ => True) S e tb.nodes[id] := by
  have hT0 := hT
  obtain ⟨hw, F, hT⟩ := hT
  refine (nodeC (Q := fun _ => True) hw hT hi fun _ _ => trivial).mono ?_
  rintro v S ⟨g, e, rfl, h⟩
  exact ⟨hT0.gr g, g, e, rfl, h⟩
theorem lenX {W : Pt → Prop} {st : St} {rt : Pt} {tb : Tb} (hT : TabX st W rt tb) : Does (tabT tabD) n_cons_Table_Len [.ptr rt 0] st fun v S => v = .int .i64 tb.nodes.length ∧ st = S := by
  obtain ⟨hw, F, hT⟩ := hT
  exact lenC hT
theorem mainX {W : Pt → Prop} {st : St} {rt : Pt} {tb : Tb} (hT : TabX st W rt tb) : Does (tabT tabD) n_cons_Table_Main [.ptr rt 0] st fun v S => v = .int .i64 tb.main ∧ st = S := by
  obtain ⟨hw, F, hT⟩ := hT
  exact mainC hT
def NewX (st : St) (v : V) (S : St) (r : Option Tb × Int) : Prop := match r.1 with
  | none => v = .tup [.pnil, .int .i64 r.2]
  | some tb => ∃ rt W, v = .tup [.ptr rt 0, .int .i64 0] ∧ TabX S W rt tb ∧ Kept st (fun _ => False) S W
theorem schC1 {P : Pt → Prop} {st : St} {e : List V} {t : Ty} (h : TyC P st e t) : SchC P st (e ++ [.snil, .snil]) ⟨t, [], []⟩ :=
  ⟨e, .snil, .snil, rfl, h, ⟨[], SlAt.nil _ _ _, rfl, fun i h => absurd h (by simp)⟩, ⟨[], SlAt.nil _ _ _, rfl, fun i h => absurd h (by simp)⟩⟩
theorem newX1 {P : Pt → Prop} {st : St} {e : List V} {t : Ty} (hw : WF st) (h : TyC P st e t) : Does (tabT tabD) n_cons_New [.agg (e ++ [.snil, .snil])] st fun v S => Gr st S ∧ NewX st v S (newS ⟨t, [], []⟩) := by
  refine (new0 hw (schC1 h) rfl rfl).mono ?_
  rintro v S ⟨g, hp⟩
  refine ⟨g, ?_⟩
  unfold NewPost at hp
  unfold NewX
  cases hn : (newS ⟨t, [], []⟩).1 with
  | none => rw [hn] at hp; exact hp
  | some tb =>
    rw [hn] at hp
    obtain ⟨rt, W, F, h1, h2, h3⟩ := hp
    exact ⟨rt, W, h1, ⟨g.wf, F, h2⟩, fun r e _ => ⟨g.same r e, fun w => e (h3 r (.inl w))⟩⟩
end Go.Proofs.Ytajifckdgaoncaa
