/- 'KindsSigs': for every input the law returns true, and each argument reads as it read before. No condition. -/
import Derived.Test.YtcahllomeaimeaaBind
import Derived.ProofKit
import Derived.OpenShut
import Derived.HandedShaped
namespace Go.Proofs.Ytcahllomeaimeaa.law
open Eva Go.RowKit Go.ChangeShapes Go.WideShapes Go.ChangeAt Go.ChangeMaps
set_option linter.unusedVariables false
theorem own :ownKnob Try.prog.godebug=none:=by kernel_rfl
theorem laidOut :laidOutB Try.prog=true:=by kernel_rfl
theorem rawTy :RawTy Try.prog 25 3 22 23:=⟨⟨_,_,_,_,Try.underlying25,⟨rfl,rfl⟩,⟨rfl,rfl⟩,⟨rfl,rfl⟩,⟨rfl,rfl⟩⟩,Try.underlying3,Try.underlying22,Try.underlying23,by kernel_rfl,by kernel_rfl,by kernel_rfl,by kernel_rfl⟩
theorem walk (w:World)(v0:Value)(q0:Rw)(o0:OpnV (fun _=> .bool false) w v0 fun st u=>∃e,u= .agg e/\RwC (fun _=>True) st e q0)(v1:Value)(q1:Rw)(o1:OpnV (fun _=> .bool false) w v1 fun st u=>∃e,u= .agg e/\RwC (fun _=>True) st e q1)(v2:Value)(q2:Rw)(o2:OpnV (fun _=> .bool false) w v2 fun st u=>∃e,u= .agg e/\RwC (fun _=>True) st e q2)(a3:Int)(w3:(Lit.int .i64 a3).wf=true)(hm:hasM 0 w):Calls Try.prog 3 #[v0,v1,v2, .int .i64 a3] w fun e w'=>e= .returned (.bool true)/\Below w.heap.size w w':=by
  obtain⟨B0,u0,k0,j0⟩:=o0 [] (RowsOK.nil _ _)
  obtain⟨B1,u1,k1,j1⟩:=o1 ([]++B0) k0
  obtain⟨B2,u2,k2,j2⟩:=o2 (([]++B0)++B1) k1
  have p2:((([]++B0)++B1)++B2)<+:((([]++B0)++B1)++B2):=List.prefix_refl _
  have p1:(([]++B0)++B1)<+:((([]++B0)++B1)++B2):=(List.prefix_append _ _).trans p2
  have p0:([]++B0)<+:((([]++B0)++B1)++B2):=(List.prefix_append _ _).trans p1
  obtain⟨f0,e0,rfl,g0⟩:=j0 _ p0
  obtain⟨f1,e1,rfl,g1⟩:=j1 _ p1
  obtain⟨f2,e2,rfl,g2⟩:=j2 _ p2
  have c3: -9223372036854775808<=a3/\a3<9223372036854775808:=by
    have: -9223372036854775808<=a3/\a3<=9223372036854775807:=by simpa[Lit.wf,IntKind.min,IntKind.max,IntKind.bits,IntKind.signed]using w3
    omega
  exact JhJ (ρ:=(fun _=> .bool false)) (Jpz (fun _=>rfl) hm) k2 (law3 (rosA ((([]++B0)++B1)++B2)) (Ji5 _) e0 q0 g0 e1 q1 g1 e2 q2 g2 a3 c3.1 c3.2) (xs:=[v0,v1,v2, .int .i64 a3]) ⟨_,_,rfl,f0,⟨_,_,rfl,f1,⟨_,_,rfl,f2,⟨_,_,rfl,rfl,rfl⟩⟩⟩⟩
set_option maxRecDepth 100000 in
theorem lifted (os:Os)(started:os.Started)(H:Type)(enc:TypeId×Value->H):
    ReturnsInHanded {} Try.checked os 3 .any (Rows.kindsSigsSpec.pre6 enc Try.prog Try.f3 Rows.kindsSigsRow.domain false) (Rows.kindsSigsSpec.post enc Try.prog Try.f3 false true false false):=by
  refine returnsInHanded_of_change_shaped (C:=Try.checked) own started (by kernel_rfl) Try.func3
    (ChangeSpec.witness6 (enc:=enc) (C:=Try.checked) false ⟨#[], #[.agg #[.int .i64 0, .int .i64 0, .slice none 0 0, .slice none 0 0], .agg #[.int .i64 0, .int .i64 0, .slice none 0 0, .slice none 0 0], .agg #[.int .i64 0, .int .i64 0, .slice none 0 0, .slice none 0 0], .int .i64 0],[]⟩ 8 (by kernel_rfl) (by kernel_rfl) (by kernel_rfl) (by kernel_rfl)) ?_
  intro W base args ds gs before hval0 hW hcnd0 _ hsh _
  have hval:∀(j:Nat) t v,Try.f3.params[j]? =some t->args[j]? =some v->Value.okWide Try.prog W .any base t v:=hval0
  have hW':=hW
  obtain⟨p,q,hA0,hV,rfl,hfz,hnd⟩:=hW
  have hA:DataW.TrodAll enc Try.prog W 0 (fun _=>true) true Try.f3.params.toList args.toList ds p:=hA0
  rw[Try.params3]at hA hval
  obtain⟨v0,vs0,d0,ds0,p0,q0,hargs,rfl,rfl,h0,r0⟩:=trodAll_cons hA
  obtain⟨v1,vs1,d1,ds1,p1,q1,rfl,rfl,rfl,h1,r1⟩:=trodAll_cons r0
  obtain⟨v2,vs2,d2,ds2,p2,q2,rfl,rfl,rfl,h2,r2⟩:=trodAll_cons r1
  obtain⟨v3,vs3,d3,ds3,p3,q3,rfl,rfl,rfl,h3,r3⟩:=trodAll_cons r2
  obtain⟨rfl,rfl,rfl⟩:=trodAll_nil r3
  obtain rfl:args= #[v0,v1,v2,v3]:=by cases args;simp_all
  obtain⟨rfl,rfl⟩:=trodVars_none hV
  have hM0:0<W.heap.size:=(Ji6 (Try.laysM143.s1_3 W hsh)).1
  obtain⟨z0,o0⟩:=JiH (ρ:=(fun _=> .bool false)) rawTy hM0 (hval 0 25 v0 rfl rfl) h0
  obtain⟨z1,o1⟩:=JiH (ρ:=(fun _=> .bool false)) rawTy hM0 (hval 1 25 v1 rfl rfl) h1
  obtain⟨z2,o2⟩:=JiH (ρ:=(fun _=> .bool false)) rawTy hM0 (hval 2 25 v2 rfl rfl) h2
  obtain⟨a3,rfl,rfl,rfl,w3⟩:=open_int Try.underlying3 (hval 3 3 v3 rfl rfl) h3
  clear hA0 hval0
  simp only[List.append_nil,List.nil_append]at hW'
  refine(walk W v0 z0 o0 v1 z1 o1 v2 z2 o2 a3 w3 (Ji6 (Try.laysM143.s1_3 W hsh))).mono fun e W' ⟨he,hg⟩=> ?_
  subst he
  have hlt:∀x∈(p0++(p1++(p2)):List MemPlace),x.block<W.heap.size:=fun x hx=>hW'.lt x hx
  exact⟨_,rfl,Jer (pa:=p0++(p1++(p2))) (pv:=[]) hW' hg (fun _ _ _=>(trodAll_cons_mk (shut_bool Try.underlying4 _) trodAll_mk0))
    (fun sp hsp=>by
      have:=(trodAll_cons_mk (WideElems.Trod_stays laidOut (by kernel_rfl) (of_decide_eq_true (by kernel_rfl)) h0 (fun x hx=>hg.same (hlt x (List.mem_append.2 (.inl hx)))) (fun x hx=>hsp x (List.mem_append.2 (.inl hx)))) (trodAll_cons_mk (WideElems.Trod_stays laidOut (by kernel_rfl) (of_decide_eq_true (by kernel_rfl)) h1 (fun x hx=>hg.same (hlt x (List.mem_append.2 (.inr (List.mem_append.2 (.inl hx)))))) (fun x hx=>hsp x (List.mem_append.2 (.inr (List.mem_append.2 (.inl hx)))))) (trodAll_cons_mk (WideElems.Trod_stays laidOut (by kernel_rfl) (of_decide_eq_true (by kernel_rfl)) h2 (fun x hx=>hg.same (hlt x (List.mem_append.2 (.inr (List.mem_append.2 (.inr hx)))))) (fun x hx=>hsp x (List.mem_append.2 (.inr (List.mem_append.2 (.inr hx)))))) (trodAll_cons_mk (shut_int Try.underlying3 w3) trodAll_mk0))))
      simp only[List.append_nil,List.nil_append]at this
      exact this)
    (fun _ _=>rfl) (by simp) (ok_one (by kernel_rfl) rfl (okWide_bool_mk Try.underlying4 _))⟩
theorem over :Rows.kindsSigsRow.holds Try.pinned (OpenSpec.ofChange Rows.kindsSigsSpec):=
  OpenClaim.holds_of_wide 3 Try.f3 rfl rfl rfl rfl rfl rfl rfl ⟨rfl,rfl,rfl,rfl,rfl⟩ rfl rfl rfl rfl rfl (by kernel_rfl) Try.func3 (by kernel_rfl)
    (of_decide_eq_true (by kernel_rfl)) (by unfold Func.isWrapper;first|(rw[if_pos (by decide+kernel)];kernel_rfl)|(rw[if_neg (by decide+kernel)];exact⟨rfl,rfl⟩))
    (fun os started H enc _=>lifted os started H enc)
theorem proved :Rows.KindsSigsSaid:=
  over
end Go.Proofs.Ytcahllomeaimeaa.law
