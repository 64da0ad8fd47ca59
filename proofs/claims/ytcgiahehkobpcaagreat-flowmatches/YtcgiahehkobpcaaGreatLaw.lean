/- 'FlowMatches': for every input the law returns true, and each argument reads as it read before. No condition. -/
import Derived.Test.YtcgiahehkobpcaaGreatBind
import Derived.ProofKit
import Derived.OpenShut
import Derived.HandedShaped
set_option linter.unusedSimpArgs false
namespace Go.Proofs.YtcgiahehkobpcaaGreat.law
open Eva Go.RowKit Go.ChangeShapes Go.WideShapes Go.ChangeAt Go.ChangeMaps
set_option linter.unusedVariables false
theorem own :ownKnob Tryz.prog.godebug=none:=by kernel_rfl
theorem laidOut :laidOutB Tryz.prog=true:=by kernel_rfl
theorem cells3 :Tryz.prog.cellsOf 3=1:=by kernel_rfl
theorem walk (w:World)(a0:Int)(w0:(Lit.int .i64 a0).wf=true)(v1:Value)(z1:List Int)(h1:IntsIn w v1 z1)(b1:∀z∈z1,-9223372036854775808<=z/\z<9223372036854775808)(n1:z1.length<=maxLen)(a2:Bool)(a3:Int)(w3:(Lit.int .i64 a3).wf=true)(hm:hasM 0 w):Calls Tryz.prog 3 #[.int .i64 a0,v1, .bool a2, .int .i64 a3] w fun e w'=>e= .returned (.bool true)/\Below w.heap.size w w':=by
  obtain⟨lo1,hlo1,hrow1,hu1⟩:=JfL h1 hm.1
  obtain⟨u1,hu1a,hu1b⟩:=hu1 Pt.h
  obtain⟨L,hL⟩:∃L:List (List V),L=[z1.map (V.int .i64)]:=⟨_,rfl⟩
  have hr1:(rosR L).row Pt.h= .ro (z1.map (V.int .i64)):=by rw[hL,kg];rfl
  have hat1:IntsAt (rosR L) u1 z1:=by
    rcases hu1a with h|h
    ·exact .inl h
    ·exact .inr ⟨Pt.h,h,hr1⟩
  have c0: -9223372036854775808<=a0/\a0<9223372036854775808:=by
    have: -9223372036854775808<=a0/\a0<=9223372036854775807:=by simpa[Lit.wf,IntKind.min,IntKind.max,IntKind.bits,IntKind.signed]using w0
    omega
  have c3: -9223372036854775808<=a3/\a3<9223372036854775808:=by
    have: -9223372036854775808<=a3/\a3<=9223372036854775807:=by simpa[Lit.wf,IntKind.min,IntKind.max,IntKind.bits,IntKind.signed]using w3
    omega
  refine Jhd (ρ:=fun _=> .bool false) (Jsj (fun _=>rfl) hm) (L:=L) (locs:=fun i=>match i with
    |0=>lo1
    |_=>⟨0,0,0⟩) (fun i hi=> ?_) (law3 (rosR L) (Jia _) a0 c0.1 c0.2 u1 z1 hat1 b1 n1 a2 a3 c3.1 c3.2) (xs:=[.int .i64 a0,v1, .bool a2, .int .i64 a3]) ⟨_,_,rfl,rfl,⟨_,_,rfl,hu1b _ _ (by rw[hL];rfl),⟨_,_,rfl,rfl,⟨_,_,rfl,rfl,rfl⟩⟩⟩⟩
  have hi':i<1:=by rw[hL]at hi;simpa using hi
  subst hL
  obtain rfl:i=0:=by omega
  ·exact⟨hrow1 _ _,hlo1⟩
set_option maxRecDepth 100000 in
theorem lifted (os:Os)(started:os.Started)(H:Type)(enc:TypeId×Value->H):
    ReturnsInHanded {} Tryz.checked os 3 .any (Rows.flowMatchesSpec.pre6 enc Tryz.prog Tryz.f3 Rows.flowMatchesRow.domain false) (Rows.flowMatchesSpec.post enc Tryz.prog Tryz.f3 false true false false):=by
  refine returnsInHanded_of_change_shaped (C:=Tryz.checked) own started (by kernel_rfl) Tryz.func3
    (ChangeSpec.witness6 (enc:=enc) (C:=Tryz.checked) false ⟨#[], #[.int .i64 0, .slice none 0 0, .bool false, .int .i64 0],[]⟩ 8 (by kernel_rfl) (by kernel_rfl) (by kernel_rfl) (by kernel_rfl)) ?_
  intro W base args ds gs before hval0 hW hcnd0 _ hsh _
  have hval:∀(j:Nat) t v,Tryz.f3.params[j]? =some t->args[j]? =some v->Value.okWide Tryz.prog W .any base t v:=hval0
  have hW':=hW
  obtain⟨p,q,hA0,hV,rfl,hfz,hnd⟩:=hW
  have hA:DataW.TrodAll enc Tryz.prog W 0 (fun _=>true) true Tryz.f3.params.toList args.toList ds p:=hA0
  rw[Tryz.params3]at hA hval
  obtain⟨v0,vs0,d0,ds0,p0,q0,hargs,rfl,rfl,h0,r0⟩:=trodAll_cons hA
  obtain⟨v1,vs1,d1,ds1,p1,q1,rfl,rfl,rfl,h1,r1⟩:=trodAll_cons r0
  obtain⟨v2,vs2,d2,ds2,p2,q2,rfl,rfl,rfl,h2,r2⟩:=trodAll_cons r1
  obtain⟨v3,vs3,d3,ds3,p3,q3,rfl,rfl,rfl,h3,r3⟩:=trodAll_cons r2
  obtain⟨rfl,rfl,rfl⟩:=trodAll_nil r3
  obtain rfl:args= #[v0,v1,v2,v3]:=by cases args;simp_all
  obtain⟨rfl,rfl⟩:=trodVars_none hV
  obtain⟨a0,rfl,rfl,rfl,w0⟩:=open_int Tryz.underlying3 (hval 0 3 v0 rfl rfl) h0
  obtain⟨z1,hi1,hz1,hn1⟩:=JoB Tryz.underlying22 Tryz.underlying3 cells3 (hval 1 22 v1 rfl rfl) h1
  obtain⟨a2,rfl,rfl,rfl⟩:=open_bool Tryz.underlying4 (hval 2 4 v2 rfl rfl) h2
  obtain⟨a3,rfl,rfl,rfl,w3⟩:=open_int Tryz.underlying3 (hval 3 3 v3 rfl rfl) h3
  clear hA0 hval0
  simp only[List.append_nil,List.nil_append]at hW'
  refine(walk W a0 w0 v1 z1 hi1 hz1 hn1 a2 a3 w3 (Joy (Tryz.laysM143.s1_3 W hsh))).mono fun e W' ⟨he,hg⟩=> ?_
  subst he
  have hlt:∀x∈(p1:List MemPlace),x.block<W.heap.size:=fun x hx=>hW'.lt x hx
  exact⟨_,rfl,Jcr (pa:=p1) (pv:=[]) hW' hg (fun _ _ _=>(trodAll_cons_mk (shut_bool Tryz.underlying4 _) trodAll_mk0))
    (fun sp hsp=>by
      have:=(trodAll_cons_mk (shut_int Tryz.underlying3 w0) (trodAll_cons_mk (WideElems.Trod_stays laidOut (by kernel_rfl) (of_decide_eq_true (by kernel_rfl)) h1 (fun x hx=>hg.same (hlt x hx)) (fun x hx=>hsp x hx)) (trodAll_cons_mk (shut_bool Tryz.underlying4 a2) (trodAll_cons_mk (shut_int Tryz.underlying3 w3) trodAll_mk0))))
      simp only[List.append_nil,List.nil_append]at this
      exact this)
    (fun _ _=>rfl) (by simp) (ok_one (by kernel_rfl) rfl (okWide_bool_mk Tryz.underlying4 _))⟩
theorem over :Rows.flowMatchesRow.holds Tryz.pinned (OpenSpec.ofChange Rows.flowMatchesSpec):=
  OpenClaim.holds_of_wide 3 Tryz.f3 rfl rfl rfl rfl rfl rfl rfl ⟨rfl,rfl,rfl,rfl,rfl⟩ rfl rfl rfl rfl rfl (by kernel_rfl) Tryz.func3 (by kernel_rfl)
    (of_decide_eq_true (by kernel_rfl)) (by unfold Func.isWrapper;first|(rw[if_pos (by decide+kernel)];kernel_rfl)|(rw[if_neg (by decide+kernel)];exact⟨rfl,rfl⟩))
    (fun os started H enc _=>lifted os started H enc)
theorem proved :Rows.FlowMatchesSaid:=
  over
end Go.Proofs.YtcgiahehkobpcaaGreat.law
