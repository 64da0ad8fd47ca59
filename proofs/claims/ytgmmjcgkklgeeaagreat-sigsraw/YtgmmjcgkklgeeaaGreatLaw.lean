/- 'SigsRaw': for every input the law returns true, and each argument reads as it read bef -/
import Derived.Test.YtgmmjcgkklgeeaaGreatBind
import Derived.ProofKit
import Derived.OpenShut
import Derived.HandedShaped
set_option linter.unusedSimpArgs false
namespace Go.Proofs.YtgmmjcgkklgeeaaGreat.law
open Eva Go.RowKit Go.ChangeShapes Go.WideShapes Go.ChangeAt Go.ChangeMaps
set_option linter.unusedVariables false
theorem own :ownKnob Tryz.prog.godebug=none:=by kernel_rfl
theorem laidOut :laidOutB Tryz.prog=true:=by kernel_rfl
theorem Jqy :Jlf Tryz.prog 25 3 22 23:=⟨⟨_,_,_,_,Tryz.underlying25,⟨rfl,rfl⟩,⟨rfl,rfl⟩,⟨rfl,rfl⟩,⟨rfl,rfl⟩⟩,Tryz.underlying3,Tryz.underlying22,Tryz.underlying23,by kernel_rfl,by kernel_rfl,by kernel_rfl,by kernel_rfl⟩
theorem Jsg :Jop Tryz.prog 68 3 66 26 64:=⟨⟨⟨_,_,_,Tryz.underlying66,⟨rfl,rfl⟩,⟨rfl,rfl⟩,⟨rfl,rfl⟩⟩,Tryz.underlying3,Tryz.underlying64,by kernel_rfl,by kernel_rfl,by kernel_rfl⟩,⟨_,_,_,_,Tryz.underlying68,⟨rfl,rfl⟩,⟨rfl,rfl⟩,⟨rfl,rfl⟩,⟨rfl,rfl⟩⟩,Tryz.underlying26,by kernel_rfl,by kernel_rfl⟩
theorem walk (w:World)(v0:Value)(q0:Rw)(o0:OpnV (fun _=> .bool false) w v0 fun st u=>∃e,u= .agg e/\RwC (fun _=>True) st e q0)(v1:Value)(q1:List Rw)(o1:OpnV (fun _=> .bool false) w v1 fun st u=>QU (fun _=>True) st u q1)(v2:Value)(q2:List R10)(o2:OpnV (fun _=> .bool false) w v2 fun st u=>qZ (fun _=>True) st u q2)(a3:Bool)(hm:hasM 0 w):Calls Tryz.prog 3 #[v0,v1,v2, .bool a3] w fun e w'=>e= .returned (.bool true)/\Below w.heap.size w w':=by
  obtain⟨B0,u0,k0,j0⟩:=o0 [] (kU.nil _ _);obtain⟨B1,u1,k1,j1⟩:=o1 ([]++B0) k0;obtain⟨B2,u2,k2,j2⟩:=o2 (([]++B0)++B1) k1;have p2:((([]++B0)++B1)++B2)<+:((([]++B0)++B1)++B2):=List.prefix_refl _;have p1:(([]++B0)++B1)<+:((([]++B0)++B1)++B2):=(List.prefix_append _ _).trans p2;have p0:([]++B0)<+:((([]++B0)++B1)++B2):=(List.prefix_append _ _).trans p1;obtain⟨f0,e0,rfl,g0⟩:=j0 _ p0;obtain⟨f1,g1⟩:=j1 _ p1;obtain⟨f2,g2⟩:=j2 _ p2;exact Jim (ρ:=(fun _=> .bool false)) (JrS (fun _=>rfl) hm) k2 (law3 (rosA ((([]++B0)++B1)++B2)) (Jkc _) e0 q0 g0 u1 q1 g1 u2 q2 g2 a3) (xs:=[v0,v1,v2, .bool a3]) ⟨_,_,rfl,f0,⟨_,_,rfl,f1,⟨_,_,rfl,f2,⟨_,_,rfl,rfl,rfl⟩⟩⟩⟩
set_option maxRecDepth 100000 in
theorem lifted (os:Os)(started:os.Started)(H:Type)(enc:TypeId×Value->H):
    ReturnsInHanded {} Tryz.checked os 3 .any (Rows.sigsRawSpec.pre6 enc Tryz.prog Tryz.f3 Rows.sigsRawRow.domain false) (Rows.sigsRawSpec.post enc Tryz.prog Tryz.f3 false true false false):=by
  refine returnsInHanded_of_change_shaped (C:=Tryz.checked) own started (by kernel_rfl) Tryz.func3
    (ChangeSpec.witness6 (enc:=enc) (C:=Tryz.checked) false ⟨#[], #[.agg #[.int .i64 0, .int .i64 0, .slice none 0 0, .slice none 0 0], .slice none 0 0, .slice none 0 0, .bool false],[]⟩ 8 (by kernel_rfl) (by kernel_rfl) (by kernel_rfl) (by kernel_rfl)) ?_
  intro W base args ds gs before hval0 hW hcnd0 _ hsh _;have hval:∀(j:Nat) t v,Tryz.f3.params[j]? =some t->args[j]? =some v->Value.okWide Tryz.prog W .any base t v:=hval0;have hW':=hW;obtain⟨p,q,hA0,hV,rfl,hfz,hnd⟩:=hW;have hA:DataW.TrodAll enc Tryz.prog W 0 (fun _=>true) true Tryz.f3.params.toList args.toList ds p:=hA0;rw[Tryz.params3]at hA hval;obtain⟨v0,vs0,d0,ds0,p0,q0,hargs,rfl,rfl,h0,r0⟩:=trodAll_cons hA;obtain⟨v1,vs1,d1,ds1,p1,q1,rfl,rfl,rfl,h1,r1⟩:=trodAll_cons r0;obtain⟨v2,vs2,d2,ds2,p2,q2,rfl,rfl,rfl,h2,r2⟩:=trodAll_cons r1;obtain⟨v3,vs3,d3,ds3,p3,q3,rfl,rfl,rfl,h3,r3⟩:=trodAll_cons r2;obtain⟨rfl,rfl,rfl⟩:=trodAll_nil r3;obtain rfl:args= #[v0,v1,v2,v3]:=by cases args;simp_all
  obtain⟨rfl,rfl⟩:=trodVars_none hV;have hM0:0<W.heap.size:=(Jke (Tryz.laysM143.s1_3 W hsh)).1;obtain⟨z0,o0⟩:=Jrl (ρ:=(fun _=> .bool false)) Jqy hM0 (hval 0 25 v0 rfl rfl) h0;obtain⟨z1,o1⟩:=Jpr (ρ:=(fun _=> .bool false)) Jqy hM0 (hval 1 23 v1 rfl rfl) h1;obtain⟨z2,o2⟩:=JpI (ρ:=(fun _=> .bool false)) Jsg hM0 (hval 2 26 v2 rfl rfl) h2;obtain⟨a3,rfl,rfl,rfl⟩:=open_bool Tryz.underlying4 (hval 3 4 v3 rfl rfl) h3;clear hA0 hval0;simp only[List.append_nil,List.nil_append]at hW';refine(walk W v0 z0 o0 v1 z1 o1 v2 z2 o2 a3 (Jke (Tryz.laysM143.s1_3 W hsh))).mono fun e W' ⟨he,hg⟩=> ?_;subst he;have hlt:∀x∈(p0++(p1++(p2)):List MemPlace),x.block<W.heap.size:=fun x hx=>hW'.lt x hx;exact⟨_,rfl,JeY (pa:=p0++(p1++(p2))) (pv:=[]) hW' hg (fun _ _ _=>(trodAll_cons_mk (shut_bool Tryz.underlying4 _) trodAll_mk0))
    (fun sp hsp=>by
      have:=(trodAll_cons_mk (WideElems.Trod_stays laidOut (by kernel_rfl) (of_decide_eq_true (by kernel_rfl)) h0 (fun x hx=>hg.same (hlt x (List.mem_append.2 (.inl hx)))) (fun x hx=>hsp x (List.mem_append.2 (.inl hx)))) (trodAll_cons_mk (WideElems.Trod_stays laidOut (by kernel_rfl) (of_decide_eq_true (by kernel_rfl)) h1 (fun x hx=>hg.same (hlt x (List.mem_append.2 (.inr (List.mem_append.2 (.inl hx)))))) (fun x hx=>hsp x (List.mem_append.2 (.inr (List.mem_append.2 (.inl hx)))))) (trodAll_cons_mk (WideElems.Trod_stays laidOut (by kernel_rfl) (of_decide_eq_true (by kernel_rfl)) h2 (fun x hx=>hg.same (hlt x (List.mem_append.2 (.inr (List.mem_append.2 (.inr hx)))))) (fun x hx=>hsp x (List.mem_append.2 (.inr (List.mem_append.2 (.inr hx)))))) (trodAll_cons_mk (shut_bool Tryz.underlying4 a3) trodAll_mk0))))
      simp only[List.append_nil,List.nil_append]at this;exact this)
    (fun _ _=>rfl) (by simp) (ok_one (by kernel_rfl) rfl (okWide_bool_mk Tryz.underlying4 _))⟩
theorem over :Rows.sigsRawRow.holds Tryz.pinned (OpenSpec.ofChange Rows.sigsRawSpec):=
  OpenClaim.holds_of_wide 3 Tryz.f3 rfl rfl rfl rfl rfl rfl rfl ⟨rfl,rfl,rfl,rfl,rfl⟩ rfl rfl rfl rfl rfl (by kernel_rfl) Tryz.func3 (by kernel_rfl)
    (of_decide_eq_true (by kernel_rfl)) (by unfold Func.isWrapper;first|(rw[if_pos (by decide+kernel)];kernel_rfl)|(rw[if_neg (by decide+kernel)];exact⟨rfl,rfl⟩))
    (fun os started H enc _=>lifted os started H enc)
theorem proved :Rows.SigsRawSaid:=
  over
end Go.Proofs.YtgmmjcgkklgeeaaGreat.law
