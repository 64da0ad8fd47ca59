/- 'FlowDots': for every input the law returns true, and each argument reads as it read be -/
import Derived.Test.YtcgiahehkobpcaaGreatBind
import Derived.ProofKit
import Derived.OpenShut
import Derived.HandedShaped
set_option linter.unusedSimpArgs false
namespace Go.Proofs.YtcgiahehkobpcaaGreat.law
open Eva Go.RowKit Go.ChangeShapes Go.WideShapes Go.ChangeAt Go.ChangeMaps
set_option linter.unusedVariables false
theorem own :ownKnob Tryz.prog.godebug=none:=by kernel_rfl
theorem laidOut :laidOutB Tryz.prog=true:=by kernel_rfl
theorem cells3 :Tryz.prog.cellsOf 3=1:=by kernel_rfl
theorem walk (w:World)(v0:Value)(z0:List Int)(h0:IntsIn w v0 z0)(b0:∀z∈z0,-9223372036854775808<=z/\z<9223372036854775808)(n0:z0.length<=maxLen)(hm:hasM 0 w):Calls Tryz.prog 4 #[v0] w fun e w'=>e= .returned (.bool true)/\Below w.heap.size w w':=by
  obtain⟨lo0,hlo0,hrow0,hu0⟩:=JiP h0 hm.1;obtain⟨u0,hu0a,hu0b⟩:=hu0 Pt.h;obtain⟨L,hL⟩:∃L:List (List V),L=[z0.map (V.int .i64)]:=⟨_,rfl⟩
  have hr0:(rosR L).row Pt.h= .ro (z0.map (V.int .i64)):=by rw[hL,kL];rfl
  have hat0:IntsAt (rosR L) u0 z0:=by
    rcases hu0a with h|h
    ·exact .inl h
    ·exact .inr ⟨Pt.h,h,hr0⟩
  refine Jkf (ρ:=fun _=> .bool false) (JtC (fun _=>rfl) hm) (L:=L) (locs:=fun i=>match i with
    |0=>lo0
    |_=>⟨0,0,0⟩) (fun i hi=> ?_) (law4 (rosR L) (Jk5 _) u0 z0 hat0 b0 n0) (xs:=[v0]) ⟨_,_,rfl,hu0b _ _ (by rw[hL];rfl),rfl⟩
  have hi':i<1:=by rw[hL]at hi;simpa using hi
  subst hL;obtain rfl:i=0:=by omega
  ·exact⟨hrow0 _ _,hlo0⟩
set_option maxRecDepth 100000 in
theorem lifted (os:Os)(started:os.Started)(H:Type)(enc:TypeId×Value->H):
    ReturnsInHanded {} Tryz.checked os 4 .any (Rows.flowDotsSpec.pre6 enc Tryz.prog Tryz.f4 Rows.flowDotsRow.domain false) (Rows.flowDotsSpec.post enc Tryz.prog Tryz.f4 false true false false):=by
  refine returnsInHanded_of_change_shaped (C:=Tryz.checked) own started (by kernel_rfl) Tryz.func4
    (ChangeSpec.witness6 (enc:=enc) (C:=Tryz.checked) false ⟨#[], #[.slice none 0 0],[]⟩ 8 (by kernel_rfl) (by kernel_rfl) (by kernel_rfl) (by kernel_rfl)) ?_
  intro W base args ds gs before hval0 hW hcnd0 _ hsh _;have hval:∀(j:Nat) t v,Tryz.f4.params[j]? =some t->args[j]? =some v->Value.okWide Tryz.prog W .any base t v:=hval0;have hW':=hW;obtain⟨p,q,hA0,hV,rfl,hfz,hnd⟩:=hW;have hA:DataW.TrodAll enc Tryz.prog W 0 (fun _=>true) true Tryz.f4.params.toList args.toList ds p:=hA0;rw[Tryz.params4]at hA hval;obtain⟨v0,vs0,d0,ds0,p0,q0,hargs,rfl,rfl,h0,r0⟩:=trodAll_cons hA;obtain⟨rfl,rfl,rfl⟩:=trodAll_nil r0;obtain rfl:args= #[v0]:=by cases args;simp_all
  obtain⟨rfl,rfl⟩:=trodVars_none hV;obtain⟨z0,hi0,hz0,hn0⟩:=Jqo Tryz.underlying22 Tryz.underlying3 cells3 (hval 0 22 v0 rfl rfl) h0;clear hA0 hval0;simp only[List.append_nil,List.nil_append]at hW';refine(walk W v0 z0 hi0 hz0 hn0 (Jql (Tryz.laysM143.s1_3 W hsh))).mono fun e W' ⟨he,hg⟩=> ?_;subst he;have hlt:∀x∈(p0:List MemPlace),x.block<W.heap.size:=fun x hx=>hW'.lt x hx;exact⟨_,rfl,Jfl (pa:=p0) (pv:=[]) hW' hg (fun _ _ _=>(trodAll_cons_mk (shut_bool Tryz.underlying4 _) trodAll_mk0))
    (fun sp hsp=>by
      have:=(trodAll_cons_mk (WideElems.Trod_stays laidOut (by kernel_rfl) (of_decide_eq_true (by kernel_rfl)) h0 (fun x hx=>hg.same (hlt x hx)) (fun x hx=>hsp x hx)) trodAll_mk0)
      simp only[List.append_nil,List.nil_append]at this;exact this)
    (fun _ _=>rfl) (by simp) (ok_one (by kernel_rfl) rfl (okWide_bool_mk Tryz.underlying4 _))⟩
theorem over :Rows.flowDotsRow.holds Tryz.pinned (OpenSpec.ofChange Rows.flowDotsSpec):=
  OpenClaim.holds_of_wide 4 Tryz.f4 rfl rfl rfl rfl rfl rfl rfl ⟨rfl,rfl,rfl,rfl,rfl⟩ rfl rfl rfl rfl rfl (by kernel_rfl) Tryz.func4 (by kernel_rfl)
    (of_decide_eq_true (by kernel_rfl)) (by unfold Func.isWrapper;first|(rw[if_pos (by decide+kernel)];kernel_rfl)|(rw[if_neg (by decide+kernel)];exact⟨rfl,rfl⟩))
    (fun os started H enc _=>lifted os started H enc)
theorem proved :Rows.FlowDotsSaid:=
  over
end Go.Proofs.YtcgiahehkobpcaaGreat.law
