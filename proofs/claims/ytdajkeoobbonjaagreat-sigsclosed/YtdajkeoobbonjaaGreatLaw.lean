/- 'SigsClosed': for every input the law returns true, and each argument reads as it read  -/
import Derived.Test.YtdajkeoobbonjaaGreatBind
import Derived.ProofKit
import Derived.OpenShut
import Derived.HandedShaped
set_option linter.constructorNameAsVariable false
set_option linter.unusedSimpArgs false
namespace Go.Proofs.YtdajkeoobbonjaaGreat.law
open Eva Go.RowKit Go.ChangeShapes Go.WideShapes Go.ChangeAt Go.ChangeMaps
set_option linter.unusedVariables false
theorem I :ownKnob Tryz.prog.godebug=none:=by kernel_rfl
theorem A :laidOutB Tryz.prog=true:=by kernel_rfl
theorem D :JmU Tryz.prog 25 3 22 23:=⟨⟨_,_,_,_,Tryz.underlying25,⟨rfl,rfl⟩,⟨rfl,rfl⟩,⟨rfl,rfl⟩,⟨rfl,rfl⟩⟩,Tryz.underlying3,Tryz.underlying22,Tryz.underlying23,by kernel_rfl,by kernel_rfl,by kernel_rfl,by kernel_rfl⟩
theorem Hz :JpN Tryz.prog 66 3 64 60 62:=⟨⟨⟨_,_,_,Tryz.underlying64,⟨rfl,rfl⟩,⟨rfl,rfl⟩,⟨rfl,rfl⟩⟩,Tryz.underlying3,Tryz.underlying62,by kernel_rfl,by kernel_rfl,by kernel_rfl⟩,⟨_,_,_,_,Tryz.underlying66,⟨rfl,rfl⟩,⟨rfl,rfl⟩,⟨rfl,rfl⟩,⟨rfl,rfl⟩⟩,Tryz.underlying60,by kernel_rfl,by kernel_rfl⟩
theorem G (w:World)(d:Value)(h:Rw)(n:OpnV (fun _=> .bool false) w d fun st u=>∃e,u= .j e/\RwC (fun _=>True) st e h)(f:Value)(i:List Rw)(o:OpnV (fun _=> .bool false) w f fun st u=>QH (fun _=>True) st u i)(g:Value)(k:List (List R10))(p:OpnV (fun _=> .bool false) w g fun st u=>jJ (fun _=>True) st u k)(q:hasM 0 w):Calls Tryz.prog 3 #[d,f,g] w fun e r=>e= .returned (.bool true)/\Below w.heap.size w r:=by
  obtain⟨a,U,s,t⟩:=n [] (jo.F _ _);obtain⟨b,v,x,y⟩:=o ([]++a) s;obtain⟨c,z,J,K⟩:=p (([]++a)++b) x;have l:((([]++a)++b)++c)<+:((([]++a)++b)++c):=List.prefix_refl _;have m:(([]++a)++b)<+:((([]++a)++b)++c):=(List.prefix_append _ _).trans l;have L:([]++a)<+:((([]++a)++b)++c):=(List.prefix_append _ _).trans m;obtain⟨M,N,rfl,O⟩:=t _ L;obtain⟨P,Q⟩:=y _ m;obtain⟨S,T⟩:=K _ l;exact JjI (ρ:=(fun _=> .bool false)) (Jt5 (fun _=>rfl) q) J (law3 (rosA ((([]++a)++b)++c)) (JlR _) N h O v i Q z k T) (xs:=[d,f,g]) ⟨_,_,rfl,M,⟨_,_,rfl,P,⟨_,_,rfl,S,rfl⟩⟩⟩
set_option maxRecDepth 100000 in
theorem B (J:Os)(c:J.Started)(H:Type)(f:TypeId×Value->H):
    ReturnsInHanded {} Tryz.checked J 3 .any (Rows.sigsClosedSpec.pre6 f Tryz.prog Tryz.f3 Rows.sigsClosedRow.domain false) (Rows.sigsClosedSpec.post f Tryz.prog Tryz.f3 false true false false):=by
  refine returnsInHanded_of_change_shaped (C:=Tryz.checked) I c (by kernel_rfl) Tryz.func3
    (ChangeSpec.witness6 (enc:=f) (C:=Tryz.checked) false ⟨#[], #[.agg #[.int .i64 0, .int .i64 0, .slice none 0 0, .slice none 0 0], .slice none 0 0, .slice none 0 0],[]⟩ 8 (by kernel_rfl) (by kernel_rfl) (by kernel_rfl) (by kernel_rfl)) ?_
  intro W l args T gs o d K s _ m _;have a:∀(j:Nat) t v,Tryz.f3.params[j]? =some t->args[j]? =some v->Value.okWide Tryz.prog W .any l t v:=d;have g:=K;obtain⟨p,q,n,U,rfl,X,Y⟩:=K;have L:DataW.TrodAll f Tryz.prog W 0 (fun _=>true) true Tryz.f3.params.toList args.toList T p:=n;rw[Tryz.params3]at L a;obtain⟨u,Z,d0,aa,M,q0,w,rfl,rfl,N,r0⟩:=trodAll_cons L;obtain⟨y,ab,d1,ad,O,q1,rfl,rfl,rfl,P,r1⟩:=trodAll_cons r0;obtain⟨z,ae,d2,af,Q,q2,rfl,rfl,rfl,S,r2⟩:=trodAll_cons r1;obtain⟨rfl,rfl,rfl⟩:=trodAll_nil r2;obtain rfl:args= #[u,y,z]:=by cases args;simp_all
  obtain⟨rfl,rfl⟩:=trodVars_none U;have h:0<W.heap.size:=(JhZ (Tryz.laysM143.s1_3 W m)).1;obtain⟨z0,o0⟩:=Jtm (ρ:=(fun _=> .bool false)) D h (a 0 25 u rfl rfl) N;obtain⟨z1,o1⟩:=Jrg (ρ:=(fun _=> .bool false)) D h (a 1 23 y rfl rfl) P;obtain⟨z2,o2⟩:=Jqb (ρ:=(fun _=> .bool false)) Hz Tryz.underlying26 h (a 2 26 z rfl rfl) S;clear n d;simp only[List.append_nil,List.nil_append]at g;refine(G W u z0 o0 y z1 o1 z z2 o2 (JhZ (Tryz.laysM143.s1_3 W m))).mono fun e W' ⟨he,r⟩=> ?_;subst he;have i:∀x∈(M++(O++(Q)):List MemPlace),x.block<W.heap.size:=fun x b=>g.lt x b;exact⟨_,rfl,Jga (pa:=M++(O++(Q))) (pv:=[]) g r (fun _ _ _=>(trodAll_cons_mk (shut_bool Tryz.underlying4 _) trodAll_mk0))
    (fun sp k=>by
      have:=(trodAll_cons_mk (WideElems.Trod_stays A (by kernel_rfl) (of_decide_eq_true (by kernel_rfl)) N (fun x b=>r.same (i x (List.mem_append.2 (.inl b)))) (fun x b=>k x (List.mem_append.2 (.inl b)))) (trodAll_cons_mk (WideElems.Trod_stays A (by kernel_rfl) (of_decide_eq_true (by kernel_rfl)) P (fun x b=>r.same (i x (List.mem_append.2 (.inr (List.mem_append.2 (.inl b)))))) (fun x b=>k x (List.mem_append.2 (.inr (List.mem_append.2 (.inl b)))))) (trodAll_cons_mk (WideElems.Trod_stays A (by kernel_rfl) (of_decide_eq_true (by kernel_rfl)) S (fun x b=>r.same (i x (List.mem_append.2 (.inr (List.mem_append.2 (.inr b)))))) (fun x b=>k x (List.mem_append.2 (.inr (List.mem_append.2 (.inr b)))))) trodAll_mk0)))
      simp only[List.append_nil,List.nil_append]at this;exact this)
    (fun _ _=>rfl) (by simp) (ok_one (by kernel_rfl) rfl (okWide_bool_mk Tryz.underlying4 _))⟩
theorem F :Rows.sigsClosedRow.holds Tryz.pinned (OpenSpec.ofChange Rows.sigsClosedSpec):=
  OpenClaim.holds_of_wide 3 Tryz.f3 rfl rfl rfl rfl rfl rfl rfl ⟨rfl,rfl,rfl,rfl,rfl⟩ rfl rfl rfl rfl rfl (by kernel_rfl) Tryz.func3 (by kernel_rfl)
    (of_decide_eq_true (by kernel_rfl)) (by unfold Func.isWrapper;first|(rw[if_pos (by decide+kernel)];kernel_rfl)|(rw[if_neg (by decide+kernel)];exact⟨rfl,rfl⟩))
    (fun c a H b _=>B c a H b)
theorem proved :Rows.SigsClosedSaid:=
  F
end Go.Proofs.YtdajkeoobbonjaaGreat.law
