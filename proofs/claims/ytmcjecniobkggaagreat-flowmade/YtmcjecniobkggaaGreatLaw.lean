/- 'FlowMade': for every input the law returns true, and each argument reads as it read be -/
import Derived.Test.YtmcjecniobkggaaGreatBind
import Derived.ProofKit
import Derived.OpenShut
import Derived.HandedShaped
set_option linter.constructorNameAsVariable false
set_option linter.unusedSimpArgs false
namespace Go.Proofs.YtmcjecniobkggaaGreat.law
open Eva Go.RowKit Go.ChangeShapes Go.WideShapes Go.ChangeAt Go.ChangeMaps
set_option linter.unusedVariables false
theorem J :ownKnob Tryz.prog.godebug=none:=by kernel_rfl
theorem A :laidOutB Tryz.prog=true:=by kernel_rfl
theorem D :Jmm Tryz.prog 25 3 22 23:=⟨⟨_,_,_,_,Tryz.underlying25,⟨rfl,rfl⟩,⟨rfl,rfl⟩,⟨rfl,rfl⟩,⟨rfl,rfl⟩⟩,Tryz.underlying3,Tryz.underlying22,Tryz.underlying23,by kernel_rfl,by kernel_rfl,by kernel_rfl,by kernel_rfl⟩
theorem I :Jpb Tryz.prog 33 3 31 26 29:=⟨⟨⟨_,_,_,Tryz.underlying31,⟨rfl,rfl⟩,⟨rfl,rfl⟩,⟨rfl,rfl⟩⟩,Tryz.underlying3,Tryz.underlying29,by kernel_rfl,by kernel_rfl,by kernel_rfl⟩,⟨_,_,_,_,Tryz.underlying33,⟨rfl,rfl⟩,⟨rfl,rfl⟩,⟨rfl,rfl⟩,⟨rfl,rfl⟩⟩,Tryz.underlying26,by kernel_rfl,by kernel_rfl⟩
theorem G (w:World)(f:Value)(i:Rw)(o:OpnV (fun _=> .bool false) w f fun c u=>∃e,u= .j e/\RwC (fun _=>True) c e i)(g:Value)(k:List Rw)(o1:OpnV (fun _=> .bool false) w g fun c u=>QH (fun _=>True) c u k)(h:Value)(l:List R10)(o2:OpnV (fun _=> .bool false) w h fun c u=>Yu (fun _=>True) c u l)(p:hasM 0 w):Calls Tryz.prog 3 #[f,g,h] w fun e q=>e= .returned (.bool true)/\Below w.heap.size w q:=by
  obtain⟨a,U,r,s⟩:=o [] (jk.F _ _);obtain⟨b,t,v,x⟩:=o1 ([]++a) r;obtain⟨d,y,z,K⟩:=o2 (([]++a)++b) v;have m:((([]++a)++b)++d)<+:((([]++a)++b)++d):=List.prefix_refl _;have n:(([]++a)++b)<+:((([]++a)++b)++d):=(List.prefix_append _ _).trans m;have L:([]++a)<+:((([]++a)++b)++d):=(List.prefix_append _ _).trans n;obtain⟨M,N,rfl,O⟩:=s _ L;obtain⟨P,Q⟩:=x _ n;obtain⟨S,T⟩:=K _ m;exact Jjg (ρ:=(fun _=> .bool false)) (Jtn (fun _=>rfl) p) z (law3 (rosA ((([]++a)++b)++d)) (Jli _) N i O t k Q y l T) (xs:=[f,g,h]) ⟨_,_,rfl,M,⟨_,_,rfl,P,⟨_,_,rfl,S,rfl⟩⟩⟩
set_option maxRecDepth 100000 in
theorem B (K:Os)(c:K.Started)(H:Type)(f:TypeId×Value->H):
    ReturnsInHanded {} Tryz.checked K 3 .any (Rows.flowMadeSpec.pre6 f Tryz.prog Tryz.f3 Rows.flowMadeRow.domain false) (Rows.flowMadeSpec.post f Tryz.prog Tryz.f3 false true false false):=by
  refine returnsInHanded_of_change_shaped (C:=Tryz.checked) J c (by kernel_rfl) Tryz.func3
    (ChangeSpec.witness6 (enc:=f) (C:=Tryz.checked) false ⟨#[], #[.agg #[.int .i64 0, .int .i64 0, .slice none 0 0, .slice none 0 0], .slice none 0 0, .slice none 0 0],[]⟩ 8 (by kernel_rfl) (by kernel_rfl) (by kernel_rfl) (by kernel_rfl)) ?_
  intro W l args U gs o d L s _ m _;have a:∀(j:Nat) t v,Tryz.f3.params[j]? =some t->args[j]? =some v->Value.okWide Tryz.prog W .any l t v:=d;have g:=L;obtain⟨p,q,n,X,rfl,Y,Z⟩:=L;have M:DataW.TrodAll f Tryz.prog W 0 (fun _=>true) true Tryz.f3.params.toList args.toList U p:=n;rw[Tryz.params3]at M a;obtain⟨u,aa,d0,ab,N,q0,w,rfl,rfl,O,r0⟩:=trodAll_cons M;obtain⟨y,ad,d1,ae,P,q1,rfl,rfl,rfl,Q,r1⟩:=trodAll_cons r0;obtain⟨z,af,d2,ag,S,q2,rfl,rfl,rfl,T,r2⟩:=trodAll_cons r1;obtain⟨rfl,rfl,rfl⟩:=trodAll_nil r2;obtain rfl:args= #[u,y,z]:=by cases args;simp_all
  obtain⟨rfl,rfl⟩:=trodVars_none X;have h:0<W.heap.size:=(Jhv (Tryz.laysM143.s1_3 W m)).1;obtain⟨z0,o0⟩:=JsD (ρ:=(fun _=> .bool false)) D h (a 0 25 u rfl rfl) O;obtain⟨z1,o1⟩:=JqB (ρ:=(fun _=> .bool false)) D h (a 1 23 y rfl rfl) Q;obtain⟨z2,o2⟩:=JqM (ρ:=(fun _=> .bool false)) I h (a 2 26 z rfl rfl) T;clear n d;simp only[List.append_nil,List.nil_append]at g;refine(G W u z0 o0 y z1 o1 z z2 o2 (Jhv (Tryz.laysM143.s1_3 W m))).mono fun e W' ⟨he,r⟩=> ?_;subst he;have i:∀x∈(N++(P++(S)):List MemPlace),x.block<W.heap.size:=fun x b=>g.lt x b;exact⟨_,rfl,JfP (pa:=N++(P++(S))) (pv:=[]) g r (fun _ _ _=>(trodAll_cons_mk (shut_bool Tryz.underlying4 _) trodAll_mk0))
    (fun sp k=>by
      have:=(trodAll_cons_mk (WideElems.Trod_stays A (by kernel_rfl) (of_decide_eq_true (by kernel_rfl)) O (fun x b=>r.same (i x (List.mem_append.2 (.inl b)))) (fun x b=>k x (List.mem_append.2 (.inl b)))) (trodAll_cons_mk (WideElems.Trod_stays A (by kernel_rfl) (of_decide_eq_true (by kernel_rfl)) Q (fun x b=>r.same (i x (List.mem_append.2 (.inr (List.mem_append.2 (.inl b)))))) (fun x b=>k x (List.mem_append.2 (.inr (List.mem_append.2 (.inl b)))))) (trodAll_cons_mk (WideElems.Trod_stays A (by kernel_rfl) (of_decide_eq_true (by kernel_rfl)) T (fun x b=>r.same (i x (List.mem_append.2 (.inr (List.mem_append.2 (.inr b)))))) (fun x b=>k x (List.mem_append.2 (.inr (List.mem_append.2 (.inr b)))))) trodAll_mk0)))
      simp only[List.append_nil,List.nil_append]at this;exact this)
    (fun _ _=>rfl) (by simp) (ok_one (by kernel_rfl) rfl (okWide_bool_mk Tryz.underlying4 _))⟩
theorem F :Rows.flowMadeRow.holds Tryz.pinned (OpenSpec.ofChange Rows.flowMadeSpec):=
  OpenClaim.holds_of_wide 3 Tryz.f3 rfl rfl rfl rfl rfl rfl rfl ⟨rfl,rfl,rfl,rfl,rfl⟩ rfl rfl rfl rfl rfl (by kernel_rfl) Tryz.func3 (by kernel_rfl)
    (of_decide_eq_true (by kernel_rfl)) (by unfold Func.isWrapper;first|(rw[if_pos (by decide+kernel)];kernel_rfl)|(rw[if_neg (by decide+kernel)];exact⟨rfl,rfl⟩))
    (fun c a H b _=>B c a H b)
theorem proved :Rows.FlowMadeSaid:=
  F
end Go.Proofs.YtmcjecniobkggaaGreat.law
