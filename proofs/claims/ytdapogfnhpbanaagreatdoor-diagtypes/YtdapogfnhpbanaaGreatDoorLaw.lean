/- 'DiagTypes': for every input the law returns true, and each argument reads as it read before. No condition. -/
import Derived.Test.YtdapogfnhpbanaaGreatDoorBind
import Derived.ProofKit
import Derived.OpenShut
import Derived.HandedShaped
import Derived.LaidLaws
import Derived.Lay
import Derived.MakeChecks
import Derived.SevenTiedAt
import Derived.Test.YtdapogfnhpbanaaGreatDoorCards
import Derived.Test.YtdapogfnhpbanaaGreatDoorTie
set_option linter.unusedSimpArgs false
namespace Go.Proofs.YtdapogfnhpbanaaGreatDoor.law
open Eva Go.RowKit Go.ChangeShapes Go.WideShapes Go.ChangeAt Go.ChangeMaps
set_option linter.unusedVariables false
theorem own :ownKnob Tryz.prog.godebug=none:=by kernel_rfl
theorem laidOut :laidOutB Tryz.prog=true:=by kernel_rfl
theorem cells3 :Tryz.prog.cellsOf 3=1:=by kernel_rfl
theorem walk (w:World)(v0:Value)(z0:List Int)(h0:IntsIn w v0 z0)(b0:∀z∈z0,-9223372036854775808<=z/\z<9223372036854775808)(n0:z0.length<=maxLen)(hm:hasM 1 w):Calls Tryz.prog 3 #[v0] w fun e w'=>e= .returned (.bool true)/\Below w.heap.size w w':=by
  obtain⟨lo0,hlo0,hrow0,hu0⟩:=Jgs h0 (Nat.lt_of_le_of_lt (Nat.zero_le _) hm.1)
  obtain⟨u0,hu0a,hu0b⟩:=hu0 Pt.h
  obtain⟨L,hL⟩:∃L:List (List V),L=[z0.map (V.int .i64)]:=⟨_,rfl⟩
  have hr0:(rosR L).row Pt.h= .ro (z0.map (V.int .i64)):=by rw[hL,ku];rfl
  have hat0:IntsAt (rosR L) u0 z0:=by
    rcases hu0a with h|h
    ·exact .inl h
    ·exact .inr ⟨Pt.h,h,hr0⟩
  refine JhY (ρ:=fun _=> .bool false) (Js2 (fun _=>rfl) hm) (L:=L) (locs:=fun i=>match i with
    |0=>lo0
    |_=>⟨0,0,0⟩) (fun i hi=> ?_) (law3 (rosR L) (JiW _) u0 z0 hat0 b0 n0) (xs:=[v0]) ⟨_,_,rfl,hu0b _ _ (by rw[hL];rfl),rfl⟩
  have hi':i<1:=by rw[hL]at hi;simpa using hi
  subst hL
  obtain rfl:i=0:=by omega
  ·exact⟨hrow0 _ _,hlo0⟩
set_option maxRecDepth 100000 in
theorem lifted (os:Os)(started:os.Started)(H:Type)(enc:TypeId×Value->H):
    ReturnsInHanded {} Tryz.checked os 3 .any (fun w args=>(Rows.diagTypesSpec.pre enc Tryz.prog Tryz.f3 Rows.diagTypesRow.domain false w args/\laidMetH Tryz.prog Rows.diagTypesRow.laid w)/\sizedMet enc Tryz.prog Tryz.f3 (OpenSpec.ofChange Rows.diagTypesSpec) false w args) (Rows.diagTypesSpec.post enc Tryz.prog Tryz.f3 false true false false):=by
  refine Jau (C:=Tryz.checked) (X:=fun w _=>laidMetH Tryz.prog Rows.diagTypesRow.laid w) (fun _ _ _ hh h=>h.of_heap hh) own started (by kernel_rfl) Tryz.func3
    (ChangeSpec.witness_shaped (enc:=enc) (C:=Tryz.checked) (os:=os) (X:=fun w _=>laidMetH Tryz.prog Rows.diagTypesRow.laid w) false (World.laidAll Tryz.prog os Rows.diagTypesRow.laid) #[.slice none 0 0] 8 (World.laidAll_os _ _ _) (World.shaped_of_ZipB (by kernel_rfl) (by kernel_rfl)) (by kernel_rfl) (by kernel_rfl) (by kernel_rfl)
      (by rw[MakeChecks.laidMetH_plain _ _ _ (by kernel_rfl)];exact laidMet_laidAll _ (by kernel_rfl) (by kernel_rfl))) ?_
  intro W base args ds gs before hval0 hW hcnd0 _ hL hsh _
  have hval:∀(j:Nat) t v,Tryz.f3.params[j]? =some t->args[j]? =some v->Value.okWide Tryz.prog W .any base t v:=hval0
  have hW':=hW
  obtain⟨p,q,hA0,hV,rfl,hfz,hnd⟩:=hW
  have hA:DataW.TrodAll enc Tryz.prog W 0 (fun _=>true) true Tryz.f3.params.toList args.toList ds p:=hA0
  rw[Tryz.params3]at hA hval
  obtain⟨v0,vs0,d0,ds0,p0,q0,hargs,rfl,rfl,h0,r0⟩:=trodAll_cons hA
  obtain⟨rfl,rfl,rfl⟩:=trodAll_nil r0
  obtain rfl:args= #[v0]:=by cases args;simp_all
  obtain⟨rfl,rfl⟩:=trodVars_none hV
  obtain⟨z0,hi0,hz0,hn0⟩:=JpH Tryz.underlying22 Tryz.underlying3 cells3 (hval 0 22 v0 rfl rfl) h0
  clear hA0 hval0
  simp only[List.append_nil,List.nil_append]at hW'
  refine(walk W v0 z0 hi0 hz0 hn0 (JpE (Tryz.laysM143.s1_3 W hsh))).mono fun e W' ⟨he,hg⟩=> ?_
  subst he
  have hlt:∀x∈(p0:List MemPlace),x.block<W.heap.size:=fun x hx=>hW'.lt x hx
  exact⟨_,rfl,Jc0 (pa:=p0) (pv:=[]) hW' hg (fun _ _ _=>(trodAll_cons_mk (shut_bool Tryz.underlying4 _) trodAll_mk0))
    (fun sp hsp=>by
      have:=(trodAll_cons_mk (WideElems.Trod_stays laidOut (by kernel_rfl) (of_decide_eq_true (by kernel_rfl)) h0 (fun x hx=>hg.same (hlt x hx)) (fun x hx=>hsp x hx)) trodAll_mk0)
      simp only[List.append_nil,List.nil_append]at this
      exact this)
    (fun _ _=>rfl) (by simp) (ok_one (by kernel_rfl) rfl (okWide_bool_mk Tryz.underlying4 _))⟩
theorem over :Rows.diagTypesRow.holds Tryz.pinned (OpenSpec.ofChange Rows.diagTypesSpec):=
  OpenClaim.holds_of_wide 3 Tryz.f3 rfl rfl rfl rfl rfl rfl rfl ⟨rfl,rfl,rfl,rfl,rfl⟩ rfl rfl rfl rfl rfl (by kernel_rfl) Tryz.func3 (by kernel_rfl)
    (of_decide_eq_true (by kernel_rfl)) (by unfold Func.isWrapper;first|(rw[if_pos (by decide+kernel)];kernel_rfl)|(rw[if_neg (by decide+kernel)];exact⟨rfl,rfl⟩))
    (fun os started H enc _=>lifted os started H enc)
theorem proved :Rows.DiagTypesCardSaid:=
  Claim7.holds_tied_plain_at .later [] [.data, .data, .data] true (true, "e21a6fb38967617b9b397afc7d716166b311e769984b1b6ae3dd6e1abe1d725e") false
    over (fun _ h=>by cases h) (by kernel_rfl) (fun _ h=>by cases h) diagTypes_row_tie rfl ⟨rfl,rfl⟩ (by kernel_rfl) rfl
    (fun f fn hf hfn=>by
      obtain rfl:f=3:=Option.some.inj ((show Tryz.prog.funcNamed Rows.diagTypesRow.func=some 3 by kernel_rfl).symm.trans hf)|>.symm
      obtain rfl:fn=Tryz.f3:=(Option.some.inj (Tryz.func3.symm.trans hfn)).symm
      refine⟨by kernel_rfl,fun j t ht=> ?_⟩
      rw[Tryz.params3]at ht
      have hm:t∈[22]:=by
        have:=Array.mem_of_getElem? ht
        simpa using this
      simp only[List.mem_cons,List.not_mem_nil,or_false]at hm
      rcases hm with rfl
      ·exact(show Tryz.prog.wantsStandIn 22=false by kernel_rfl)
    )
    (by kernel_rfl)
end Go.Proofs.YtdapogfnhpbanaaGreatDoor.law
