/- The parser: calls, one behind the other. The end of the text: two templates, of a text and of nothing. The end of the text is read. The text is parsed. The schema's table, in a small memory. What was found in small memories, used. The check of the text, used. A template's signature. What the law's text calls: plain. The law. No condition. -/
import Derived.Test.YtdapogfnhpbanaaGreatDoorQ1
set_option linter.unusedVariables false
set_option linter.unusedSimpArgs false
set_option linter.unusedSectionVars false
set_option maxRecDepth 100000
namespace Go.Proofs.YtdapogfnhpbanaaGreatDoor
open Eva Go.RowKit
def NodeH (Sp S:St)(p:Pt)(mvv:V)(F:Str×Nat->St->V->Bool)(x:Str×Nat)(e:List V):Prop:=
 ∃(χ:Rn) (a:St) (r:Pt) (at_:Int) (u:Nat),e=ndN 9 at_ [] x.1 (.slx (χ r) 0 1 1 1)/\Hold χ a S/\F x a (.slx r 0 1 1 1)=true/\r.num<a.nx.num/\a.row .h= .dead u/\χ .h=p/\∀q:Pt,q≠ .h->a.row q≠ .none->Sp.row (χ q)= .none/\rowOf mvv≠some (χ q)
theorem NodeH.ch {Sp S S':St}{p:Pt}{mvv mv':V}{F:Str×Nat->St->V->Bool}{x:Str×Nat}{e:List V}(h:NodeH Sp S p mvv F x e)(C:Ch (fun r=>r=p\/rowOf mvv=some r) S S')(hv:∀q,rowOf mv'=some q->S.row q= .none):NodeH Sp S' p mv' F x e:=by
 obtain⟨χ,a,r,at_,u,e1,H,h2,h3,h4,h5,h6⟩:=h
 have live:∀q,a.row q≠ .none->S.row (χ q)≠ .none:=fun q hq=>Y5 (H.row q (H.none hq)) hq
 refine⟨χ,a,r,at_,u,e1,H.keep' C.mono fun q hq hd=> ?_,h2,h3,h4,h5,fun q q0 hq=>⟨(h6 q q0 hq).1,fun e=>live q hq (hv _ e)⟩⟩
 have q0:q≠ .h:=fun e=>hd u (by rw[e];exact h4)
 refine C.same _ (live q hq) fun w=> ?_
 rcases w with w|w
 ·exact q0 (H.inj q .h (by rw[w,h5]))
 ·exact(h6 q q0 hq).2 w
theorem NodeH.gr {Sp S S':St}{p:Pt}{mvv:V}{F:Str×Nat->St->V->Bool}{x:Str×Nat}{e:List V}(h:NodeH Sp S p mvv F x e)(g:Gr S S'):NodeH Sp S' p mvv F x e:=by
 obtain⟨χ,a,r,at_,u,e1,H,h2⟩:=h
 exact⟨χ,a,r,at_,u,e1,H.gr g,h2⟩
def Nodes (Sp S:St)(p:Pt)(mvv:V)(F:Str×Nat->St->V->Bool)(xs:List (Str×Nat))(es:List (List V)):Prop:=es.length=xs.length/\∀i (h:i<es.length) (h':i<xs.length),NodeH Sp S p mvv F xs[i] es[i]
structure SegOk (F:Str×Nat->St->V->Bool) (x:Prt) (y:Str×Nat):Prop where
 act:x.1=true
 ok:actB (ofL x.2.1) (ofL [116,101,109,112,108,97,116,101]) 9 (ofL y.1) (pf1 (F y))=true
 id:pureB (tabT tabD) YQ [ofL y.1] (.bool true)=true
theorem segC {Sp Sb S:St}{p:Pt}{mvv:V}{main:List (List V)}{F:Str×Nat->St->V->Bool}{xs:List (Str×Nat)}{x:Prt}{y:Str×Nat}(h:Ps Sb S p mvv main)(hsp:∀r,Sp.row r≠ .none->Sb.row r≠ .none)(hN:Nodes Sp S p mvv F xs main)(hx:SegOk F x y)(hn:main.length<10000):
  Does (tabT tabD) KW [.ptr p 0, .agg [.bool true,ofL x.2.1, .int .i64 x.2.2]] S fun v S'=>v= .int .i64 0/\∃mv' e,Ps Sb S' p mv' (main++[e])/\Nodes Sp S' p mv' F (xs++[y]) (main++[e]):=by
 obtain⟨tp,rp⟩:=h.c
 refine actC hx.ok rfl rfl rfl h.g.wf (Jj rp) fun S1 χ a pv g eh Ha fr hx0 hpv=> ?_
 obtain⟨hpf,r,tr,l,u,rfl,hrl,har,hah⟩:=JsI hpv
 have h1:=h.gr g
 refine(placeT (nm:=y.1) (at_:=x.2.2) (pv:=mv χ (.slx r 0 1 1 1)) h1 rfl hn hx.id).mono fun v S' ⟨C,e0,mv',P',fm⟩=>⟨e0,mv',_,P', ?_⟩
 have hmr:∀q,rowOf mvv=some q->S.row q≠ .none:=fun q hq=>by
  obtain⟨_,t,c⟩:=h.m.row hq
  exact Jj c
 have pos:∀q:Pt,q≠ .h->1<=q.num:=fun q e=>by
  cases hq:q.num with
  |zero=>exact absurd (Pt.num_inj (by rw[hq];rfl)) e
  |succ n=>omega
 have new:NodeH Sp S1 p mvv F y (ndN 9 x.2.2 [] y.1 (mv χ (.slx r 0 1 1 1))):=by
  refine⟨χ,a,r,x.2.2,u,by simp only[mv],Ha,hpf,hrl,hah,eh,fun q q0 hq=> ?_⟩
  have f:=fr q (pos q q0)
  refine⟨Classical.byContradiction fun c=> ?_,fun e=>hmr _ e f⟩
  exact(by rw[h.g.same _ (hsp _ c)];exact hsp _ c:S.row (χ q)≠ .none) f
 refine⟨by simp[hN.1],fun i hi hi'=> ?_⟩
 by_cases c:i<main.length
 ·have c':i<xs.length:=by rw[<-hN.1];exact c
  rw[List.getElem_append_left c,List.getElem_append_left c']
  exact((hN.2 i c c').gr g).ch C fm
 ·have c1:i=main.length:=by
   rw[List.length_append]at hi
   simp at hi
   omega
  subst c1
  have e2:(xs++[y])[main.length]=y:=by simp[hN.1]
  rw[List.getElem_append_right (Nat.le_refl _),e2]
  simp only[Nat.sub_self,List.getElem_cons_zero]
  exact new.ch C fm
def SegsOk (F:Str×Nat->St->V->Bool):List Prt->List (Str×Nat)->Prop
 |[],[]=>True
 |x::r,y::t=>SegOk F x y/\SegsOk F r t
 |_,_=>False
theorem segsC {Sp Sb:St}{p:Pt}{F:Str×Nat->St->V->Bool}(hsp:∀r,Sp.row r≠ .none->Sb.row r≠ .none){tail:List Prt}{Q:St->Prop}:∀{ps:List Prt} {ys:List (Str×Nat)} {S:St} {mvv:V} {main:List (List V)} {xs:List (Str×Nat)},Ps Sb S p mvv main->Nodes Sp S p mvv F xs main->SegsOk F ps ys->main.length+ps.length<10000->
  (∀S' mv' main',Ps Sb S' p mv' main'->Nodes Sp S' p mv' F (xs++ys) main'->StepsD Sb p tail S' Q)->StepsD Sb p (ps++tail) S Q
 |[],[],S,mvv,main,xs,h,hN,_,_,k=>k S mvv main h (by simpa using hN)
 | x::r,y::t,S,mvv,main,xs,h,hN,hs,hn,k=>by
   obtain⟨h1,h2⟩:=hs
   simp only[List.length_cons]at hn
   rw[List.cons_append,StepsD,h1.act]
   refine(segC h hsp hN h1 (by omega)).mono fun v S' ⟨e0,mv',e,P',N'⟩=>⟨e0,P'.g.wf,fun q hq=>by rw[P'.g.same q hq,h.g.same q hq], ?_⟩
   exact segsC hsp P' N' h2 (by simp;omega) fun S2 mv2 m2 P2 N2=>k S2 mv2 m2 P2 (by simpa using N2)
 |[],_::_,_,_,_,_,_,_,hs,_,_=>hs.elim
 |_::_,[],_,_,_,_,_,_,hs,_,_=>hs.elim
abbrev sDef :V:=ofL [100,101,102,105,110,101]
abbrev sEnd :V:=ofL [101,110,100]
abbrev sDt :V:=ofL [100,101,102,105,110,101,32,34,116,34]
abbrev sDu :V:=ofL [100,101,102,105,110,101,32,34,117,34]
def ndV (k:Int)(i:Nat)(name pv:V):V:= .agg [.int .i64 k, .opq i, .str 0 0,name,pv, .snil, .snil, .bool false, .snil]
noncomputable def plc (pp:Pt)(w:V)(k:Int)(i:Nat)(name pv:V)(b:St):St:=match run (tabT tabD) 60 Jr [.ptr pp 0,w,ndV k i name pv] b with
 |some (.int .i64 0,b')=>b'
 |_=>b
noncomputable def txt (pp:Pt)(i:Nat)(s:V)(b:St):St:=match run (tabT tabD) 60 Ky [.ptr pp 0, .agg [.bool false,s, .opq i]] b with
 |some (.int .i64 0,b')=>b'
 |_=>b
theorem JsJ :actB sDt sDef 9 (ofL [116]) pfNil=true:=by kernel_rfl
theorem JsK :actB sDu sDef 9 (ofL [117]) pfNil=true:=by kernel_rfl
theorem Jj2 :actB sEnd sEnd 2 (ofL []) pfNil=true:=by kernel_rfl
def pp1 :Pt:=(St.start.new fun t=> .dead t).nx
def b0n (w:V):St:=(St.start.new fun t=> .dead t).new fun t=> .cells t [.snil,w, .snil, .int .i64 0]
noncomputable def b1 (w:V):St:=plc pp1 sDef 9 0 (ofL [116]) .snil (b0n w)
noncomputable def b2 (w:V):St:=txt pp1 1 (ofL [120]) (b1 w)
noncomputable def b3 (w:V):St:=plc pp1 sEnd 2 2 (ofL []) .snil (b2 w)
noncomputable def b4 (w:V):St:=plc pp1 sDef 9 3 (ofL [117]) .snil (b3 w)
noncomputable def b5 (w:V):St:=plc pp1 sEnd 2 4 (ofL []) .snil (b4 w)
structure TailOk (w:V):Prop where
 h0:inT (b0n w).nx.num (b0n w).h=true
 r1:run (tabT tabD) 60 Jr [.ptr pp1 0,sDef,ndV 9 0 (ofL [116]) .snil] (b0n w)=some (.int .i64 0,b1 w)
 i1:inT (b1 w).nx.num (b1 w).h=true
 r2:run (tabT tabD) 60 Ky [.ptr pp1 0, .agg [.bool false,ofL [120], .opq 1]] (b1 w)=some (.int .i64 0,b2 w)
 i2:inT (b2 w).nx.num (b2 w).h=true
 r3:run (tabT tabD) 60 Jr [.ptr pp1 0,sEnd,ndV 2 2 (ofL []) .snil] (b2 w)=some (.int .i64 0,b3 w)
 i3:inT (b3 w).nx.num (b3 w).h=true
 r4:run (tabT tabD) 60 Jr [.ptr pp1 0,sDef,ndV 9 3 (ofL [117]) .snil] (b3 w)=some (.int .i64 0,b4 w)
 i4:inT (b4 w).nx.num (b4 w).h=true
 r5:run (tabT tabD) 60 Jr [.ptr pp1 0,sEnd,ndV 2 4 (ofL []) .snil] (b4 w)=some (.int .i64 0,b5 w)
 i5:inT (b5 w).nx.num (b5 w).h=true
 d0:(b0n w).row .h= .dead 0
 d1:(b1 w).row .h= .dead 0
 d2:(b2 w).row .h= .dead 0
 d3:(b3 w).row .h= .dead 0
 d4:(b4 w).row .h= .dead 0
 d5:(b5 w).row .h= .dead 0
 n1:Nat.ble 2 (b1 w).nx.num=true
 n2:Nat.ble (b1 w).nx.num (b2 w).nx.num=true
 n3:Nat.ble (b2 w).nx.num (b3 w).nx.num=true
 n4:Nat.ble (b3 w).nx.num (b4 w).nx.num=true
 n5:Nat.ble (b4 w).nx.num (b5 w).nx.num=true
 p5:(b5 w).row (.a .h)= .cells 35 [.sl (.b (.d .h)) 0 0 12,w, .sl (.b (.a (.a .h))) 0 2 2, .int .i64 0]
 l5:(b5 w).row (.b (.a (.a .h)))= .cells 34 [ofL [116], .sl (.b (.b .h)) 0 1 9,ofL [117], .snil]
 o5:(b5 w).row (.b (.b .h))= .cells 13 [.int .i64 1, .opq 1,ofL [120],ofL [], .snil, .snil, .snil, .bool false, .snil]
theorem Jqc (n:Nat):TailOk (.sl .h 0 n 9):=⟨by kernel_rfl,by kernel_rfl,by kernel_rfl,by kernel_rfl,by kernel_rfl,by kernel_rfl,by kernel_rfl,by kernel_rfl,by kernel_rfl,by kernel_rfl,by kernel_rfl,by kernel_rfl,by kernel_rfl,by kernel_rfl,by kernel_rfl,by kernel_rfl,by kernel_rfl,by kernel_rfl,by kernel_rfl,by kernel_rfl,by kernel_rfl,by kernel_rfl,by kernel_rfl,by kernel_rfl,by kernel_rfl⟩
theorem Jnz (n:Nat):TailOk (.slx .h 0 n 9 n):=⟨by kernel_rfl,by kernel_rfl,by kernel_rfl,by kernel_rfl,by kernel_rfl,by kernel_rfl,by kernel_rfl,by kernel_rfl,by kernel_rfl,by kernel_rfl,by kernel_rfl,by kernel_rfl,by kernel_rfl,by kernel_rfl,by kernel_rfl,by kernel_rfl,by kernel_rfl,by kernel_rfl,by kernel_rfl,by kernel_rfl,by kernel_rfl,by kernel_rfl,by kernel_rfl,by kernel_rfl,by kernel_rfl⟩
theorem JnA :TailOk .snil:=⟨by kernel_rfl,by kernel_rfl,by kernel_rfl,by kernel_rfl,by kernel_rfl,by kernel_rfl,by kernel_rfl,by kernel_rfl,by kernel_rfl,by kernel_rfl,by kernel_rfl,by kernel_rfl,by kernel_rfl,by kernel_rfl,by kernel_rfl,by kernel_rfl,by kernel_rfl,by kernel_rfl,by kernel_rfl,by kernel_rfl,by kernel_rfl,by kernel_rfl,by kernel_rfl,by kernel_rfl,by kernel_rfl⟩
attribute [irreducible] b1 b2 b3 b4 b5
theorem stepX {φ:Rn}{b b' S:St}(H:Hold φ b S){pp:Pt}{i:Nat}{at_:Int}{s:V}(hpr:b.row pp≠ .none)(hat:φ.s i= .int .i64 at_)(hs:closed s=true)
  (hr:run (tabT tabD) 60 Ky [.ptr pp 0, .agg [.bool false,s, .opq i]] b=some (.int .i64 0,b')) (hi:inT b'.nx.num b'.h=true):
  Does (tabT tabD) Ky [.ptr (φ pp) 0, .agg [.bool false,s, .int .i64 at_]] S fun v S'=>v= .int .i64 0/\Fr7 φ b b' S S'/\∃ψ,Agr b.nx.num φ ψ/\Hold ψ b' S'/\∀q:Pt,b.nx.num<=q.num->S.row (ψ q)= .none:=by
 have hp:=H.none hpr
 have:=H.goW tabE tabM tabU (args:=[.ptr pp 0, .agg [.bool false,s, .opq i]]) (by simp only[inVs,inV,kA _ s hs,decide_eq_true hp];rfl) hr hi
 simp only[List.map_cons,List.map_nil,mv,mvs,JA φ s hs,hat]at this
 exact this.mono fun v S' ⟨m,fr,ψ,ag,e,H',fh⟩=>⟨e.trans (by simp only[mv]),⟨m.mono,fr⟩,ψ,ag,H',fh⟩
structure TEnd (S S':St) (p:Pt) (w:V) (φ:Rn):Prop where
 mono:Mono S S'
 keep:∀s,S.row s≠ .none->s≠p->S'.row s=S.row s
 ex:∃ψ:Rn,Hold ψ (b5 w) S'/\ψ .h=φ .h/\ψ (.a .h)=p/\ψ.s=φ.s/\∀q:Pt,2<=q.num->(b5 w).row q≠ .none->S.row (ψ q)= .none
theorem num0 {q:Pt}(h:q.num=0):q= .h:=Pt.num_inj h
theorem Je3 {q:Pt}(h:q.num<2):q= .h\/q= .a .h:=by
 rcases(by omega:q.num=0\/q.num=1)with e|e
 ·exact .inl (Pt.num_inj e)
 ·exact .inr (Pt.num_inj e)
theorem stepGo {Sb S S1:St}{p:Pt}{φ:Rn}{b b':St}{f:Nat}{args:List V}{rest:List Prt}{Q:St->Prop}(T:TS (fun s=>s=p) 2 S φ b S1)(hz:φ (.a .h)=p)(hn:Nat.ble b.nx.num b'.nx.num=true)(d0:b.row .h= .dead 0)(d1:b'.row .h= .dead 0)(hSb:∀q,Sb.row q≠ .none->S.row q≠ .none/\q≠p)
  (st:Does (tabT tabD) f args S1 fun v S'=>v= .int .i64 0/\Fr7 φ b b' S1 S'/\∃ψ,Agr b.nx.num φ ψ/\Hold ψ b' S'/\∀q:Pt,b.nx.num<=q.num->S1.row (ψ q)= .none)
  (k:∀S' ψ,TS (fun s=>s=p) 2 S ψ b' S'->ψ (.a .h)=p->ψ .h=φ .h->ψ.s=φ.s->StepsD Sb p rest S' Q):
  Does (tabT tabD) f args S1 fun v S'=>v= .int .i64 0/\WF S'/\(∀q,Sb.row q≠ .none->S'.row q=S1.row q)/\StepsD Sb p rest S' Q:=by
 refine st.mono fun v S' ⟨e,F,ψ,ag,H,fr⟩=> ?_
 have T':=T.next F (Nat.le_of_ble_eq_true hn) ag H fr fun q hq hb hc=>by
  rcases Je3 hq with rfl|rfl
  ·exact absurd (d1.trans d0.symm) hc
  ·exact hz
 have l2:=T.le
 refine⟨e,H.wf,fun q hq=>by rw[T'.keep q (hSb q hq).1 (hSb q hq).2,T.keep q (hSb q hq).1 (hSb q hq).2],k S' ψ T' (by rw[ag.f _ (by show 1<_;omega),hz]) (ag.f _ (by show 0<_;omega)) ag.s⟩
theorem tailC {Sb S:St}{p:Pt}{w:V}{c0 c1 c2 c3 c4:Nat}{φ:Rn}{Q:St->Prop}(H:Hold φ (b0n w) S)(hp:φ (.a .h)=p)(hT:TailOk w)(h0:φ.s 0= .int .i64 c0)(h1:φ.s 1= .int .i64 c1)(h2:φ.s 2= .int .i64 c2)(h3:φ.s 3= .int .i64 c3)(h4:φ.s 4= .int .i64 c4)
  (hSb:∀q,Sb.row q≠ .none->S.row q≠ .none/\q≠p) (k:∀S',TEnd S S' p w φ->Q S'):StepsD Sb p (tx5 c0 c1 c2 c3 c4) S Q:=by
 have hb0:(b0n w).nx.num=2:=rfl
 have T0:TS (fun s=>s=p) 2 S φ (b0n w) S:=TS.start H
 have pr0:(b0n w).row pp1≠ .none:=by intro e;cases e
 have l0:=Y5 (H.row pp1 (by rw[hb0];decide)) pr0
 rw[show φ pp1=p from hp]at l0
 have liveK:∀{b:St} {ψ:Rn} {S2:St},TS (fun s=>s=p) 2 S ψ b S2->ψ (.a .h)=p->b.row pp1≠ .none:=fun{b ψ S2} T z e=>by
  have:=T.H.row pp1 (by have:=T.le;show 1<_;omega)
  rw[e]at this
  have this:S2.row (ψ pp1)= .none:=this
  rw[show ψ pp1=p from z]at this
  exact T.live _ l0 this
 unfold tx5
 rw[StepsD]
 have st1:=stepT (i:=0) (pp:=pp1) H pr0 h0 JsJ rfl rfl rfl hT.r1 hT.i1
 rw[show φ pp1=p from hp]at st1
 refine stepGo T0 hp hT.n1 hT.d0 hT.d1 hSb st1 ?_
 intro S1 ψ1 T1 z1 y1 x1
 rw[StepsD]
 have st2:=stepX (i:=1) (pp:=pp1) T1.H (liveK T1 z1) (by rw[x1];exact h1) rfl hT.r2 hT.i2
 rw[show ψ1 pp1=p from z1]at st2
 refine stepGo T1 z1 hT.n2 hT.d1 hT.d2 hSb st2 ?_
 intro S2 ψ2 T2 z2 y2 x2
 rw[x1]at x2;rw[y1]at y2
 rw[StepsD]
 have st3:=stepT (i:=2) (pp:=pp1) T2.H (liveK T2 z2) (by rw[x2];exact h2) Jj2 rfl rfl rfl hT.r3 hT.i3
 rw[show ψ2 pp1=p from z2]at st3
 refine stepGo T2 z2 hT.n3 hT.d2 hT.d3 hSb st3 ?_
 intro S3 ψ3 T3 z3 y3 x3
 rw[x2]at x3;rw[y2]at y3
 rw[StepsD]
 have st4:=stepT (i:=3) (pp:=pp1) T3.H (liveK T3 z3) (by rw[x3];exact h3) JsK rfl rfl rfl hT.r4 hT.i4
 rw[show ψ3 pp1=p from z3]at st4
 refine stepGo T3 z3 hT.n4 hT.d3 hT.d4 hSb st4 ?_
 intro S4 ψ4 T4 z4 y4 x4
 rw[x3]at x4;rw[y3]at y4
 rw[StepsD]
 have st5:=stepT (i:=4) (pp:=pp1) T4.H (liveK T4 z4) (by rw[x4];exact h4) Jj2 rfl rfl rfl hT.r5 hT.i5
 rw[show ψ4 pp1=p from z4]at st5
 refine stepGo T4 z4 hT.n5 hT.d4 hT.d5 hSb st5 ?_
 intro S5 ψ5 T5 z5 y5 x5
 rw[x4]at x5;rw[y4]at y5
 rw[StepsD]
 exact k S5 ⟨T5.mono,fun s a b=>T5.keep s a b,ψ5,T5.H,y5,z5,x5,T5.fresh⟩
theorem startB {Sb S:St}{p q0:Pt}{mvv:V}{main:List (List V)}(h:Ps Sb S p mvv main)(hq:Sb.row q0≠ .none)(s:Nat->V)(hs:∀i,∃k n,s i= .int k n):
  ∃(φ:Rn) (w:V),Hold φ (b0n w) S/\φ (.a .h)=p/\φ.s=s/\TailOk w/\∀ψ:Rn,ψ .h=φ .h->mv ψ w=mvv:=by
 obtain⟨tp,rp⟩:=h.c
 have hw:=h.g.wf
 have key:∀(r:Pt) (w:V),S.row r≠ .none->r≠p->TailOk w->(∀ψ:Rn,ψ .h=r->mv ψ w=mvv)->inV 1 w=true->∃(φ:Rn) (w:V),Hold φ (b0n w) S/\φ (.a .h)=p/\φ.s=s/\TailOk w/\∀ψ:Rn,ψ .h=φ .h->mv ψ w=mvv:=fun r w hr hrp hT hm hin=>by
  have H0:=Hold.start (S:=S) s hs hw
  obtain⟨φ1,ag1,e1,H1⟩:=H0.add (q:=r) (f:=fun t=> .dead t) (fun u=>⟨rfl,by intro e;cases e⟩) hr (fun p h=>absurd h (Nat.not_lt_zero _)) ⟨hr,trivial⟩ rfl rfl
  have e1:φ1 .h=r:=e1
  obtain⟨φ2,ag2,e2,H2⟩:=H1.add (q:=p) (f:=fun t=> .cells t [.snil,w, .snil, .int .i64 0]) (Jh _) (Jj rp) (fun q hq=>by
   have:q= .h:=num0 (by have:q.num<1:=hq;omega)
   rw[this,e1];exact hrp) ⟨tp,by rw[rp];simp only[List.map_cons,List.map_nil,mv,hm φ1 e1],trivial⟩ (by
   show inVs 1 [.snil,w, .snil, .int .i64 0]=true
   simp only[inVs,inV,hin];rfl) hT.h0
  refine⟨φ2,w,H2,e2,by rw[ag2.s,ag1.s],hT,fun ψ e=>hm ψ ?_⟩
  rw[e,ag2.f .h (by decide),e1]
 rcases h.m.2 with⟨e,_⟩|⟨r,t,e1,e2,e3⟩
 ·refine key q0 .snil (by rw[h.g.same q0 hq];exact hq) (fun e=>hq (by rw[e];exact h.pn)) JnA (fun ψ _=>by rw[e];simp only[mv]) rfl
 ·have hrp:r≠p:=fun e=>h.am (by rcases e3 with e3|e3<;>(rw[e3,e];rfl))
  rcases e3 with e3|e3
  ·exact key r (.sl .h 0 main.length 9) (Jj e2) hrp (Jqc _) (fun ψ e=>by rw[e3];simp only[mv,e]) rfl
  ·exact key r (.slx .h 0 main.length 9 main.length) (Jj e2) hrp (Jnz _) (fun ψ e=>by rw[e3];simp only[mv,e]) rfl
def NodeE (Sp S:St)(F:Str×Nat->St->V->Bool)(x:Str×Nat)(e:List V):Prop:=
 ∃(χ:Rn) (a:St) (r:Pt) (at_:Int),e=ndN 9 at_ [] x.1 (.slx (χ r) 0 1 1 1)/\Hold χ a S/\F x a (.slx r 0 1 1 1)=true/\r.num<a.nx.num/\∀q:Pt,a.row q≠ .none->Sp.row (χ q)= .none
def txtE (at_:Int):List V:=[.int .i64 1, .int .i64 at_,ofL [120],ofL [], .snil, .snil, .snil, .bool false, .snil]
structure ParseR (Sp S:St) (F:Str×Nat->St->V->Bool) (xs:List (Str×Nat)) (mvv bt:V):Prop where
 main:∃es,SlAt (fun _=>True) S mvv 9 es/\es.length=xs.length/\∀i (h:i<es.length) (h':i<xs.length),NodeE Sp S F xs[i] es[i]
 txt:∃(rb:Pt) (at_:Int),bt= .sl rb 0 1 9/\(∃t,S.row rb= .cells t (txtE at_))/\Sp.row rb= .none
theorem ParseR.fz {Sp S S':St}{F:Str×Nat->St->V->Bool}{xs:List (Str×Nat)}{mvv bt:V}(h:ParseR Sp S F xs mvv bt)(g:Fz S S'):ParseR Sp S' F xs mvv bt:=by
 obtain⟨⟨es,h1,h2,h3⟩,rb,at_,d1,⟨t,d2⟩,d3⟩:=h
 refine⟨⟨es, ?_,h2,fun i a b=> ?_⟩,rb,at_,d1,⟨t,by rw[g.same rb (Jj d2),d2]⟩,d3⟩
 ·refine⟨h1.1, ?_⟩
  rcases h1.2 with h|⟨r,o,k1,k2,l,k3,k4⟩
  ·exact .inl h
  ·refine .inr ⟨r,o,k1,k2,l, ?_,k4⟩
   rcases k3 with⟨t,k3⟩|k3
   ·exact .inl ⟨t,by rw[g.same r (Jj k3),k3]⟩
   ·exact .inr (by rw[g.same r (by rw[k3];exact fun e=>by cases e),k3])
 ·obtain⟨χ,a,r,at_,e1,H,h⟩:=h3 i a b
  exact⟨χ,a,r,at_,e1,H.fz g,h⟩
theorem parseO {ks:List Nat}{xs:List (Str×Nat)}{F:Str×Nat->St->V->Bool}{S:St}{q0:Pt}(hw:WF S)(hq:S.row q0≠ .none)(hlen:ks.length<=20)(hF:SegsOk F (partsK ks 0) xs):
  Does (tabT tabD) kJ [ofL (mkT ks++txS)] S fun v S'=>Gr S S'/\∃lv mvv bt,v= .tup [lv, .int .i64 0, .int .i64 0]/\SlAt (fun r=>S.row r= .none) S' lv 2 [[ofL [],mvv],[ofL [116],bt],[ofL [117], .snil]]/\ParseR S S' F xs mvv bt:=by
 refine Does.gr tabM hw ((parseC (R:=fun S2 mvv tp=>∃bt,tp=[[ofL [116],bt],[ofL [117], .snil]]/\ParseR S S2 F xs mvv bt/\∀r,S.row r≠ .none->S2.row r≠ .none) hw (Jik hlen) (by rw[List.length_append,qb];simp[tx5];omega) ?_).mono ?_)
 rotate_left
 ·rintro v S' ⟨same,mvv,tp,S2,lv,⟨bt,rfl,hR,h2⟩,g,rfl,hl⟩
  exact⟨same,lv,mvv,bt,rfl,hl.imp fun r e n=>⟨Classical.byContradiction fun c=>h2 r c e,rfl⟩,hR.fz (Fz.ofGr g)⟩
 intro Sb S1 p gb g1 pn rp
 have hsp:∀r,S.row r≠ .none->Sb.row r≠ .none:=fun r e=>by rw[gb.same r e];exact e
 refine segsC (Sp:=S) hsp (xs:=[]) (main:=[]) ⟨g1,pn,rp,SlF.nil _ _ _,fun e=>by cases e⟩ ⟨rfl,fun i h=>absurd h (Nat.not_lt_zero _)⟩ hF (by rw[qb];simp;omega) ?_
 intro S2 mvv main P N
 rw[List.nil_append]at N
 obtain⟨s,hs⟩:∃s:Nat->V,∀i,s i= .int .i64 (match i with
  |0=>(19*ks.length:Nat)
  |1=>(19*ks.length+14:Nat)
  |2=>(19*ks.length+15:Nat)
  |3=>(19*ks.length+22:Nat)
  |_=>(19*ks.length+36:Nat)):=⟨_,fun _=>rfl⟩
 obtain⟨φ,w,H,hp,es,hT,hm⟩:=startB P (hsp q0 hq) s fun i=>⟨_,_,hs i⟩
 have sb:∀r,Sb.row r≠ .none->S2.row r≠ .none:=fun r e=>by rw[P.g.same r e];exact e
 have nP:S.row p= .none:=Classical.byContradiction fun c=>hsp p c pn
 refine tailC (Sb:=Sb) H hp hT (by rw[es];exact hs 0) (by rw[es];exact hs 1) (by rw[es];exact hs 2) (by rw[es];exact hs 3) (by rw[es];exact hs 4) (fun q hq=>⟨sb q hq,fun e=>hq (by rw[e];exact pn)⟩) ?_
 intro S3 T
 obtain⟨ψ,H3,y3,z3,x3,fr⟩:=T.ex
 have ne:∀{q:Pt} {t:Nat} {l:List V},(b5 w).row q= .cells t l->(b5 w).row q≠ .none:=fun h e=>by rw[e]at h;cases h
 have rowP:=H3.row (.a .h) (H3.none (ne hT.p5))
 rw[hT.p5,z3]at rowP
 obtain⟨tp,rowP,_⟩:=rowP
 have rowL:=H3.row (.b (.a (.a .h))) (H3.none (ne hT.l5))
 rw[hT.l5]at rowL
 obtain⟨tl,rowL,_⟩:=rowL
 have rowO:=H3.row (.b (.b .h)) (H3.none (ne hT.o5))
 rw[hT.o5]at rowO
 obtain⟨to,rowO,_⟩:=rowO
 have cl:∀s:Str,mv ψ (ofL s)=ofL s:=fun s=>JA ψ _ rfl
 simp only[List.map_cons,List.map_nil,mv,hm ψ y3]at rowP
 simp only[List.map_cons,List.map_nil,mv,cl]at rowL
 simp only[List.map_cons,List.map_nil,mv,cl,x3,es,hs 1]at rowO
 have hsc:mvv.sc=true:=P.m.at.sc
 have old:∀s,S2.row s= .none->S.row s= .none:=fun s e=>Classical.byContradiction fun c=>sb s (hsp s c) e
 refine⟨mvv,[[ofL [116], .sl (ψ (.b (.b .h))) 0 1 9],[ofL [117], .snil]],⟨H3.wf,⟨tp,_,_,rowP,rfl, ?_⟩,hsc,by simp,by simp,fun e he=> ?_⟩,_,rfl,⟨⟨main, ?_,N.1,fun i h h'=> ?_⟩,_,_,rfl,⟨to,rowO⟩,old _ (fr _ (by decide) (ne hT.o5))⟩,fun r e=> ?_⟩
 ·refine⟨fun e he=> ?_, .inr ⟨_,0,trivial, .inl rfl,_, .inl ⟨tl,rowL⟩,by simp,rfl⟩⟩
  rcases List.mem_cons.1 he with rfl|he
  ·rfl
  ·rw[List.mem_singleton.1 he];rfl
 ·rcases List.mem_cons.1 he with rfl|he
  ·rfl
  ·rw[List.mem_singleton.1 he];rfl
 ·refine(P.m.keep (st':=S3) fun q hq=>T.keep q (P.m.some hq) fun e=>P.am (by rw[hq,e])).at.imp fun _ _ _=>⟨trivial,rfl⟩
 ·obtain⟨χ,a,r,at_,u,e1,Hn,f1,f2,f3,f4,f5⟩:=N.2 i h h'
  refine⟨χ,a,r,at_,e1,Hn.keep' T.mono fun q hq hd=> ?_,f1,f2,fun q hq=> ?_⟩
  ·have q0:q≠ .h:=fun e=>hd u (by rw[e];exact f3)
   exact T.keep _ (Y5 (Hn.row q (Hn.none hq)) hq) fun e=>q0 (Hn.inj q .h (by rw[e,f4]))
  ·by_cases q0:q= .h
   ·rw[q0,f4];exact nP
   ·exact(f5 q q0 hq).1
 ·rw[T.keep r (sb r (hsp r e)) fun e1=>e (by rw[e1];exact nP)]
  exact sb r (hsp r e)
def names3 :List V:=[ofL [97],ofL [98],ofL [99]]
def kidB :List V:=[.int .i64 2,ofL [], .snil, .snil]
def kidC :List V:=[.int .i64 3,ofL [], .snil, .snil]
def kids3 (pb pc:Pt):List V:=[.int .i64 2,ofL [], .snil, .snil, .int .i64 4,ofL [], .snil, .slx pb 0 1 4 1, .int .i64 6,ofL [], .snil, .slx pc 0 1 4 1]
def aS :St:=(((St.start.new fun t=> .cells t names3).new fun t=> .cells t kidB).new fun t=> .cells t kidC).new fun t=> .cells t (kids3 (.a .h) (.b .h))
def schV :V:= .agg [.int .i64 7,ofL [], .slx .h 0 3 1 3, .slx (.c .h) 0 3 4 3, .snil, .snil]
noncomputable def aT :St:=match run (tabT tabD) 60 qM [schV] {aS with low:=aS.t}with
 |some (_,a)=>a
 |_=>aS
def tt :Pt:= .c (.a (.c .h))
theorem new11 :run (tabT tabD) 60 qM [schV] {aS with low:=aS.t}=some (.tup [.ptr tt 0, .int .i64 0],aT):=by kernel_rfl
theorem Jtl :inT aT.nx.num aT.h=true:=by kernel_rfl
theorem JsL :Nat.ble aS.t aT.low=true:=by kernel_rfl
theorem Jtw :Nat.blt 0 aT.t=true:=by kernel_rfl
theorem JnB :noQt aT.h=true:=by kernel_rfl
theorem Jtm :Nat.blt tt.num aT.nx.num=true:=by kernel_rfl
theorem Jtn :nodeB aT tt 0=true:=by kernel_rfl
theorem Jto :nodeB aT tt 1=true:=by kernel_rfl
theorem Jtp :nodeB aT tt 3=true:=by kernel_rfl
noncomputable def mrgT (a:St):St:=mrg aT a
noncomputable def callB (id:Nat)(a:St)(r:Pt):Bool:=match run (tabT tabD) 60 Jeo [.ptr tt 0, .agg [.int .i64 4, .snil, .snil], .slx (up aT.nx.num r) 0 1 1 1] {mrgT a with low:=(mrgT a).t}with
 |some (.tup [.int .i64 x, .int .i64 0],a1)=>decide (x=id)&&(Nat.ble (mrgT a).t a1.low&&inT a1.nx.num a1.h)
 |_=>false
noncomputable def copyB (a:St)(r:Pt):Bool:=match run (tabT tabD) 60 Y9 [.slx r 0 1 1 1] {a with low:=a.t}with
 |some (.slx _ _ _ _ _,a1)=>Nat.ble a.t a1.low&&inT a1.nx.num a1.h
 |some (.sl _ _ _ _,a1)=>Nat.ble a.t a1.low&&inT a1.nx.num a1.h
 |_=>false
noncomputable def FO (x:Str×Nat)(a:St)(pv:V):Bool:=match pv with
 | .slx r 0 1 1 1=>fullB a a.nx.num&&(inT (mrgT a).nx.num (mrgT a).h&&(callB x.2 a r&&copyB a r))
 |_=>false
abbrev sTpl :V:=ofL [116,101,109,112,108,97,116,101]
theorem act0 :actB (ofL (segS 0)) sTpl 9 (ofL [116]) (pf1 (FO ([116],0)))=true:=by kernel_rfl
theorem act1 :actB (ofL (segS 1)) sTpl 9 (ofL [116]) (pf1 (FO ([116],1)))=true:=by kernel_rfl
theorem act2 :actB (ofL (segS 2)) sTpl 9 (ofL [116]) (pf1 (FO ([116],3)))=true:=by kernel_rfl
theorem Jqd :fullB aT aT.nx.num=true:=by kernel_rfl
def nmRow :List V:=[ofL [116],ofL [117]]
noncomputable def flB (c:St)(q:Pt)(bv:V)(id:Nat):Bool:=match run (tabT tabD) 60 Yj [.ptr tt 0, .sl q 0 2 1, .int .i64 id,bv] {c with low:=c.t}with
 |some (.tup [.snil, .int .i64 0, .int .i64 0],a1)=>Nat.ble c.t a1.low&&inT a1.nx.num a1.h
 |_=>false
noncomputable def rowB (c:St)(bv:V):Bool:=match run (tabT tabD) 60 YA [bv] {c with low:=c.t}with
 |some (.slx _ _ _ _ _,a1)=>Nat.ble c.t a1.low&&inT a1.nx.num a1.h
 |some (.sl _ _ _ _,a1)=>Nat.ble c.t a1.low&&inT a1.nx.num a1.h
 |some (.snil,a1)=>Nat.ble c.t a1.low&&inT a1.nx.num a1.h
 |_=>false
def txtR :List V:=[.int .i64 1, .opq 0,ofL [120],ofL [], .snil, .snil, .snil, .bool false, .snil]
noncomputable def c10 :St:=aT.new fun t=> .cells t txtR
noncomputable def c11 :St:=c10.new fun t=> .cells t nmRow
theorem JsM :inT c10.nx.num c10.h=true:=by kernel_rfl
theorem JsN :inT c11.nx.num c11.h=true:=by kernel_rfl
theorem flT0 :flB c11 c10.nx (.sl aT.nx 0 1 9) 0=true:=by kernel_rfl
theorem flT1 :flB c11 c10.nx (.sl aT.nx 0 1 9) 1=true:=by kernel_rfl
theorem flT3 :flB c11 c10.nx (.sl aT.nx 0 1 9) 3=true:=by kernel_rfl
def d11 :St:=St.start.new fun t=> .cells t txtR
theorem rowX :rowB d11 (.sl .h 0 1 9)=true:=by kernel_rfl
noncomputable def mainB (c:St):Bool:=match run (tabT tabD) 60 kK [.ptr tt 0] {c with low:=c.t}with
 |some (.int .i64 x,a1)=>decide (x=4)&&(Nat.ble c.t a1.low&&inT a1.nx.num a1.h)
 |_=>false
theorem main11 :mainB aT=true:=by kernel_rfl
noncomputable def schB :Bool:=match run (tabT tabD) 60 qt [schV] {aS with low:=aS.t}with
 |some (.agg [a,b,c,d,e,f],a1)=>(a.sc&&(b.sc&&(c.sc&&(d.sc&&(e.sc&&f.sc)))))&&(Nat.ble aS.t a1.low&&inT a1.nx.num a1.h)
 |_=>false
theorem sch11 :schB=true:=by kernel_rfl
noncomputable def textB (id:Nat)(s:Str):Bool:=match run (tabT tabD) 60 kL [.ptr tt 0, .int .i64 id] {aT with low:=aT.t}with
 | some (v,a1)=>(Nat.ble aT.t a1.low&&(inT a1.nx.num a1.h&&inV a1.nx.num v))&&(match run (tabT tabD) 60 jR [v] {a1 with low:=a1.t}with
   |some (u,a2)=>vsame1 u (ofL s)&&(Nat.ble a1.t a2.low&&inT a2.nx.num a2.h)
   |_=>false)
 |_=>false
def tInt :Str:=[73,110,116]
def tList :Str:=[76,105,115,116,60,73,110,116,62]
def tOpt :Str:=[79,112,116,60,84,101,120,116,62]
def tMain :Str:=[123,97,58,32]++(tInt++([44,32,98,58,32]++(tList++([44,32,99,58,32]++(tOpt++[125])))))
theorem text0 :textB 0 tInt=true:=by kernel_rfl
theorem text1 :textB 1 tList=true:=by kernel_rfl
theorem text3 :textB 3 tOpt=true:=by kernel_rfl
theorem text4 :textB 4 tMain=true:=by kernel_rfl
attribute [irreducible] aT
theorem htt :tt.num<aT.nx.num:=Nat.le_of_ble_eq_true Jtm
theorem mergeT {φ χ:Rn}{a S:St}(HT:Hold φ aT S)(Ha:Hold χ a S)(hf:fullB a a.nx.num=true)(hi:inT (mrgT a).nx.num (mrgT a).h=true)(hd:∀p:Pt,p.num<aT.nx.num->∀q:Pt,a.row q≠ .none->φ p≠χ q):
  ∃ω:Rn,Hold ω (mrgT a) S/\(∀p:Pt,p.num<aT.nx.num->ω p=φ p)/\(∀p:Pt,p.num<a.nx.num->ω (up aT.nx.num p)=χ p)/\ω.s=χ.s:=by
 have HT':=HT.sig JnB χ.s Ha.num
 obtain⟨ω,ag,h1,h2,h3⟩:=HT'.mrg Ha rfl (fun p q hp hq=>hd p hp q (Jav hf q hq)) hf hi (HT.pos (Nat.le_of_ble_eq_true Jtw))
 exact⟨ω,h3,fun p hp=>ag.f p hp,h1,h2⟩
def Apart (Sp S1:St)(φ:Rn):Prop:=∀p:Pt,p.num<aT.nx.num->∀q:Pt,S1.row q≠ .none->Sp.row q= .none->φ p≠q
theorem callN11 {Sp S1 S:St}{φ:Rn}{x:Str×Nat}{e:List V}(HT:Hold φ aT S)(g:Fz S1 S)(hN:NodeE Sp S1 FO x e)(hd:Apart Sp S1 φ):CallN S (.ptr (φ tt) 0) 4 e x:=by
 obtain⟨χ,a,r,at_,e1,Ha,hF,hr,hfr⟩:=hN
 simp only[FO,Bool.and_eq_true]at hF
 obtain⟨f1,f2,f3,f4⟩:=hF
 obtain⟨ω,Hω,w1,w2,w3⟩:=mergeT HT (Ha.fz g) f1 f2 fun p hp q hq=>hd p hp _ (Y5 (Ha.row q (Ha.none hq)) hq) (hfr q hq)
 refine⟨at_,χ r,e1,fun S' k=> ?_⟩
 unfold callB at f3
 split at f3
 rotate_left
 ·cases f3
 rename_i y a1 hrun
 rw[Bool.and_eq_true,Bool.and_eq_true]at f3
 obtain⟨g1,g2,g3⟩:=f3
 have g1:y=x.2:=of_decide_eq_true g1
 have hin:inVs (mrgT a).nx.num [.ptr tt 0, .agg [.int .i64 4, .snil, .snil], .slx (up aT.nx.num r) 0 1 1 1]=true:=by
  have e2:(mrgT a).nx.num=a.nx.num+aT.nx.num:=by show(up a.nx.num aT.nx).num=_;rw[KV,Nat.add_comm]
  have e3:(up aT.nx.num r).num=r.num+aT.nx.num:=by rw[KV]
  have:=htt
  simp only[inVs,inV,e2,e3,decide_eq_true (show tt.num<a.nx.num+aT.nx.num by omega),decide_eq_true (show r.num+aT.nx.num<a.nx.num+aT.nx.num by omega)]
  rfl
 have:=(Hω.fz k).go tabE tabM tabU hin hrun (Nat.le_of_ble_eq_true g2) g3
 simp only[List.map_cons,List.map_nil,mv,mvs,w1 tt htt,w2 r hr]at this
 refine this.mono fun v S'' ⟨gg,ψ,_,ev,_⟩=>⟨gg, ?_⟩
 rw[ev,g1]
theorem copyN11 {Sp S1 S:St}{x:Str×Nat}{e:List V}(g:Fz S1 S)(hN:NodeE Sp S1 FO x e):∃at_ nm pr,e=ndN 9 at_ [] nm (.slx pr 0 1 1 1)/\∀S',Fz S S'->Does (tabT tabD) Y9 [.slx pr 0 1 1 1] S' fun v S''=>Gr S' S''/\One v:=by
 obtain⟨χ,a,r,at_,e1,Ha,hF,hr,hfr⟩:=hN
 simp only[FO,Bool.and_eq_true]at hF
 obtain⟨f1,f2,f3,f4⟩:=hF
 refine⟨at_,x.1,χ r,e1,fun S' k=> ?_⟩
 have hin:inVs a.nx.num [.slx r 0 1 1 1]=true:=by simp only[inVs,inV,decide_eq_true hr];rfl
 unfold copyB at f4
 split at f4
 ·rename_i hrun
  rw[Bool.and_eq_true]at f4
  have:=((Ha.fz g).fz k).go tabE tabM tabU hin hrun (Nat.le_of_ble_eq_true f4.1) f4.2
  simp only[List.map_cons,List.map_nil,mv]at this
  exact this.mono fun v S'' ⟨gg,ψ,_,ev,_⟩=>⟨gg,by rw[ev];exact One.of rfl⟩
 ·rename_i hrun
  rw[Bool.and_eq_true]at f4
  have:=((Ha.fz g).fz k).go tabE tabM tabU hin hrun (Nat.le_of_ble_eq_true f4.1) f4.2
  simp only[List.map_cons,List.map_nil,mv]at this
  exact this.mono fun v S'' ⟨gg,ψ,_,ev,_⟩=>⟨gg,by rw[ev];exact One.of rfl⟩
 ·cases f4
theorem Jqe {c:St}{q:Pt}{bv:V}{id:Nat}(h:flB c q bv id=true){ω:Rn}{S:St}(H:Hold ω c S)(ht:tt.num<c.nx.num)(hq:q.num<c.nx.num)(hb:inV c.nx.num bv=true):
  Does (tabT tabD) Yj [.ptr (ω tt) 0, .sl (ω q) 0 2 1, .int .i64 (id:Nat),mv ω bv] S fun v S'=>Fz S S'/\∃cv,v= .tup [cv, .int .i64 0, .int .i64 0]/\SlF S S' cv 2 []:=by
 unfold flB at h
 split at h
 ·rename_i a1 hrun
  rw[Bool.and_eq_true]at h
  have:=H.go tabE tabM tabU (args:=[.ptr tt 0, .sl q 0 2 1, .int .i64 id,bv]) (by simp only[inVs,inV,decide_eq_true ht,decide_eq_true hq,hb];rfl) hrun (Nat.le_of_ble_eq_true h.1) h.2
  simp only[List.map_cons,List.map_nil,mv]at this
  refine this.mono fun v S'' ⟨gg,ψ,_,ev,_⟩=>⟨Fz.ofGr gg, .snil, ?_,SlF.nil _ _ _⟩
  rw[ev];simp only[mv,mvs]
 ·cases h
theorem JnC {c:St}{bv:V}(h:rowB c bv=true){ω:Rn}{S:St}(H:Hold ω c S)(hb:inV c.nx.num bv=true):Does (tabT tabD) YA [mv ω bv] S fun v S'=>Gr S S'/\One v:=by
 have hin:inVs c.nx.num [bv]=true:=by simp only[inVs,hb];rfl
 unfold rowB at h
 split at h
 all_goals first
  |(cases h;done)
  | (rename_i hrun
     rw[Bool.and_eq_true]at h
     have:=H.go tabE tabM tabU hin hrun (Nat.le_of_ble_eq_true h.1) h.2
     simp only[List.map_cons,List.map_nil]at this
     exact this.mono fun v S'' ⟨gg,ψ,_,ev,_⟩=>⟨gg,by rw[ev];exact One.of rfl⟩)
theorem flT {id:Nat}(h:id=0\/id=1\/id=3):flB c11 c10.nx (.sl aT.nx 0 1 9) id=true:=by
 rcases h with rfl|rfl|rfl
 ·exact flT0
 ·exact flT1
 ·exact flT3
theorem txtFlow {S1 S:St}{φ:Rn}{q rb:Pt}{id:Nat}{at_:Int}(HT:Hold φ aT S)(hid:id=0\/id=1\/id=3)(hq:∃t,S.row q= .cells t nmRow)(hqa:∀p:Pt,p.num<aT.nx.num->φ p≠q)(hq1:S1.row q= .none)(g:Fz S1 S)
  (hrb:∃t,S1.row rb= .cells t (txtE at_)) (hra:∀p:Pt,p.num<aT.nx.num->φ p≠rb):
  Does (tabT tabD) Yj [.ptr (φ tt) 0, .sl q 0 2 1, .int .i64 (id:Nat), .sl rb 0 1 9] S fun v S'=>Fz S S'/\∃cv,v= .tup [cv, .int .i64 0, .int .i64 0]/\SlF S S' cv 2 []:=by
 obtain⟨tr,hrb⟩:=hrb
 obtain⟨t,hq⟩:=hq
 have hrbS:S.row rb= .cells tr (txtE at_):=by rw[g.same rb (Jj hrb),hrb]
 have HT':=HT.sig JnB (fun _=> .int .i64 at_) fun _=>⟨_,_,rfl⟩
 have cl:∀(ψ:Rn) (s:Str),mv ψ (ofL s)=ofL s:=fun ψ s=>JA ψ _ rfl
 obtain⟨ω1,ag1,e1,H1⟩:=HT'.add (q:=rb) (f:=fun t=> .cells t txtR) (Jh _) (Jj hrbS) hra ⟨tr,by rw[hrbS];simp only[txtR,txtE,List.map_cons,List.map_nil,mv,cl],trivial⟩ rfl JsM
 have n10:c10.nx.num=aT.nx.num+1:=by show aT.nx.suc.num=_;rw[Pt.num_suc]
 obtain⟨ω2,ag2,e22,H2⟩:=H1.add (q:=q) (f:=fun t=> .cells t nmRow) (Jh _) (Jj hq) (fun p hp=>by
  have hp:p.num<aT.nx.num+1:=by rw[<-n10];exact hp
  by_cases c:p.num<aT.nx.num
  ·rw[ag1.f p c];exact hqa p c
  ·have:p=aT.nx:=Pt.num_inj (by omega)
   rw[this,e1]
   exact fun e=>Jj hrb (by rw[e];exact hq1)) ⟨t,by rw[hq];rfl,trivial⟩ rfl JsN
 have n11:c11.nx.num=aT.nx.num+2:=by show c10.nx.suc.num=_;rw[Pt.num_suc,n10]
 have:=Jqe (flT hid) H2 (by rw[n11];have:=htt;omega) (by rw[n11,n10];omega) (by simp only[inV,n11];exact decide_eq_true (by omega))
 have et:ω2 tt=φ tt:=by
  rw[ag2.f tt (by show _<c10.nx.num;have:=htt;omega),ag1.f tt htt]
 have eb:ω2 aT.nx=rb:=by rw[ag2.f _ (by show _<c10.nx.num;omega),e1]
 have eq2:ω2 c10.nx=q:=e22
 simp only[mv,et,eb,eq2]at this
 exact this
theorem txtRow {S1 S:St}{rb:Pt}{at_:Int}(g:Fz S1 S)(hw:WF S)(hrb:∃t,S1.row rb= .cells t (txtE at_)):
  Does (tabT tabD) YA [.sl rb 0 1 9] S fun v S'=>Gr S S'/\One v:=by
 obtain⟨tr,hrb⟩:=hrb
 have hrbS:S.row rb= .cells tr (txtE at_):=by rw[g.same rb (Jj hrb),hrb]
 have cl:∀(ψ:Rn) (s:Str),mv ψ (ofL s)=ofL s:=fun ψ s=>JA ψ _ rfl
 have H0:=Hold.start (S:=S) (fun _=> .int .i64 at_) (fun _=>⟨_,_,rfl⟩) hw
 obtain⟨ω1,ag1,e1,H1⟩:=H0.add (q:=rb) (f:=fun t=> .cells t txtR) (Jh _) (Jj hrbS) (fun p h=>absurd h (Nat.not_lt_zero _)) ⟨tr,by rw[hrbS];simp only[txtR,txtE,List.map_cons,List.map_nil,mv,cl],trivial⟩ rfl rfl
 have:=JnC rowX H1 rfl
 have e1:ω1 .h=rb:=e1
 simp only[mv,e1]at this
 exact this
def names2 :List Str:=[[116],[117]]
theorem Jtx :namesB names2 [116]=true:=by kernel_rfl
theorem Jj3 :pureB (tabT tabD) YA [.snil] .snil=true:=by kernel_rfl
theorem JnD :pureB (tabT tabD) ka [.snil] .snil=true:=by kernel_rfl
def PT (Sp S1 S0 S:St)(tb:V):Prop:=Fz S1 S0/\∃φ:Rn,Hold φ aT S/\tb= .ptr (φ tt) 0/\∀q:Pt,q.num<aT.nx.num->S0.row (φ q)= .none\/Sp.row (φ q)≠ .none
theorem jJ {ψ:Rn}(h:ψ.ok){v:V}(hv:v.sc=true):(mv ψ v).sc=true:=by
 cases v
 case opq i=>obtain⟨k,n,e⟩:=h i;rw[mv,e];rfl
 all_goals first
  |(rw[mv];rfl)
  |rfl
  |(cases hv;done)
theorem PT.off {Sp S1 S0 SN:St}{φ:Rn}{q:Pt}(H:Hold φ aT SN)(hq:SN.row q= .none):∀p:Pt,p.num<aT.nx.num->φ p≠q:=fun p hp e=>by
 have h1:=Jav Jqd p hp
 exact Y5 (H.row p hp) h1 (by rw[e];exact hq)
theorem PT.apart {Sp S1 S0 S:St}{φ:Rn}(h:Fz S1 S0)(hs:∀q:Pt,q.num<aT.nx.num->S0.row (φ q)= .none\/Sp.row (φ q)≠ .none):Apart Sp S1 φ:=fun p hp q h1 h2 e=>by
 rcases hs p hp with c|c
 ·rw[e,h.same q h1]at c;exact h1 c
 ·rw[e]at c;exact c h2
theorem nodeO {id:Nat}(h:id=0\/id=1\/id=3):nodeB aT tt id=true:=by
 rcases h with rfl|rfl|rfl
 ·exact Jtn
 ·exact Jto
 ·exact Jtp
theorem Jqf {q:Pt}(h:q.num<4):q= .h\/q= .a .h\/q= .b .h\/q= .c .h:=by
 rcases(by omega:q.num=0\/q.num=1\/q.num=2\/q.num=3)with e|e|e|e
 ·exact .inl (Pt.num_inj e)
 ·exact .inr (.inl (Pt.num_inj e))
 ·exact .inr (.inr (.inl (Pt.num_inj e)))
 ·exact .inr (.inr (.inr (Pt.num_inj e)))
theorem check12 {Sp S1:St}{φS:Rn}(HS:Hold φS aS S1)(h0:∀q:Pt,q.num<4->Sp.row (φS q)≠ .none)(hgr:∀r,Sp.row r≠ .none->S1.row r≠ .none){lv mvv bt:V}{xs:List (Str×Nat)}
  (hl:SlAt (fun r=>S1.row r≠ .none) S1 lv 2 [[ofL [],mvv],[ofL [116],bt],[ofL [117], .snil]]) (hR:ParseR Sp S1 FO xs mvv bt) (hxs:∀x∈xs,x.1=[116]/\(x.2=0\/x.2=1\/x.2=3)) (hlen:xs.length<=20):
  Does (tabT tabD) Jaz [.agg [.int .i64 7,ofL [], .slx (φS .h) 0 3 1 3, .slx (φS (.c .h)) 0 3 4 3, .snil, .snil],lv] S1 fun v S'=>Gr S1 S'/\∃r S0 y0 y1 y2 y3 y4 y5 tv tb pv,v= .tup [.ptr r 0, .agg [.int .i64 0,ofL [], .int .i64 0]]/\(∃t,S'.row r= .cells t [y0,y1,y2,y3,y4,y5,tv,tb,pv])/\Fz S1 S0/\PT Sp S1 S0 S' tb/\SlF S1 S' pv 2 ((dedS [([],4)] xs).map clE):=by
 obtain⟨⟨es,m1,m2,m3⟩,rb,at_,hbt,hrb,hrn⟩:=hR
 have smv:mvv.sc=true:=m1.sc
 have sbt:bt.sc=true:=by rw[hbt];rfl
 have slv:lv.sc=true:=hl.sc
 have hlow:aS.t<=aT.low:=Nat.le_of_ble_eq_true JsL
 refine checkC (ts:=[([],mvv),([116],bt),([117], .snil)]) (P:=PT Sp S1) (m0:=4) HS.wf ⟨One.of rfl,One.of rfl,One.of rfl,One.of rfl,One.of rfl,One.of rfl⟩ (One.of slv) hl (fun i h=> ?_) (by simp) (by simp) (fun x hx=> ?_) (by omega) ?_ ?_ ?_ ?_ ?_ ?_ ?_ ?_ ?_
 ·have h:i<3:=h
  rcases(by omega:i=0\/i=1\/i=2)with rfl|rfl|rfl<;>rfl
 ·simp only[List.mem_cons,List.not_mem_nil,or_false]at hx
  rcases hx with rfl|rfl|rfl
  ·exact One.of smv
  ·exact One.of sbt
  ·exact One.of rfl
 ·rintro S0 A B tb ⟨f,φ,H,e,s⟩ g
  exact⟨f,φ,H.fz g,e,s⟩
 ·rintro S0 A B tb W ⟨f,φ,H,e,s⟩ C hW
  refine⟨f,φ,H.keep C.mono fun q hq=>C.same _ (Y5 (H.row q (H.none hq)) hq) fun w=> ?_,e,s⟩
  obtain⟨w1,w2⟩:=hW _ w
  rcases s q (H.none hq)with c|c
  ·exact w2 c
  ·exact hgr _ c w1
 ·rintro S0 A tb ⟨f,φ,H,rfl,s⟩
  exact One.of rfl
 ·intro S' g
  have:=(HS.fz g).go tabE tabM tabU (args:=[schV]) rfl new11 hlow Jtl
  simp only[List.map_cons,List.map_nil,schV,mv,mvs,show mv φS (ofL [])=ofL []from JA φS _ rfl]at this
  refine this.mono fun v S'' ⟨gg,ψ,ag,ev,H,fr⟩=>⟨gg, .ptr (ψ tt) 0,by rw[ev],g,ψ,H,rfl,fun q hq=> ?_⟩
  by_cases c:q.num<4
  ·exact .inr (by rw[ag.f q (by show _<4;exact c)];exact h0 q c)
  ·exact .inl (fr q (by show 4<=_;omega))
 ·intro S' g
  have hB:=sch11
  unfold schB at hB
  split at hB
  rotate_left
  ·cases hB
  rename_i z0 z1 z2 z3 z4 z5 a1 hrun
  simp only[Bool.and_eq_true]at hB
  obtain⟨⟨s0,s1,s2,s3,s4,s5⟩,k1,k2⟩:=hB
  have:=(HS.fz g).go tabE tabM tabU (args:=[schV]) rfl hrun (Nat.le_of_ble_eq_true k1) k2
  simp only[List.map_cons,List.map_nil,schV,mv,mvs,show mv φS (ofL [])=ofL []from JA φS _ rfl]at this
  refine this.mono fun v S'' ⟨gg,ψ,ag,ev,H,fr⟩=>⟨gg,mv ψ z0,mv ψ z1,mv ψ z2,mv ψ z3,mv ψ z4,mv ψ z5,by rw[ev],One.of (jJ H.num s0),One.of (jJ H.num s1),One.of (jJ H.num s2),One.of (jJ H.num s3),One.of (jJ H.num s4),One.of (jJ H.num s5)⟩
 ·intro S' g
  refine(Jny (es:=[[ofL [],mvv],[ofL [116],bt],[ofL [117], .snil]]) g.wf (hl.imp fun r e _=>⟨trivial,g.same r e⟩) (by simp) fun i h=> ?_).mono fun v S'' h=>h
  have h:i<3:=h
  rcases(by omega:i=0\/i=1\/i=2)with rfl|rfl|rfl
  ·refine⟨[],mvv,rfl,smv,fun S2 g2=> ?_⟩
   have g02:=g.trans g2
   have hb:SlAt (fun _=>True) S2 mvv 9 es:=by
    refine⟨m1.1, ?_⟩
    rcases m1.2 with h|⟨r,o,k1,k2,l,k3,k4⟩
    ·exact .inl h
    ·refine .inr ⟨r,o,k1,k2,l, ?_,k4⟩
     rcases k3 with⟨t,k3⟩|k3
     ·exact .inl ⟨t,by rw[g02.same r (Jj k3),k3]⟩
     ·exact .inr (by rw[g02.same r (by rw[k3];exact fun e=>by cases e),k3])
   exact rowCopy g2.wf hb (by omega) Jj3 JnD fun i hi=>copyN11 g02 (m3 i hi (by omega))
  ·refine⟨[116],bt,rfl,sbt,fun S2 g2=> ?_⟩
   rw[hbt]
   exact txtRow (g.trans g2) g2.wf hrb
  ·refine⟨[117], .snil,rfl,rfl,fun S2 g2=> ?_⟩
   exact(pureC tabE tabM tabU Jj3 rfl rfl g2.wf).mono fun v S'' ⟨gg,e⟩=>⟨gg,by rw[e];exact One.of rfl⟩
 ·rintro S0 S' tb ⟨f,φ,H,rfl,s⟩
  have hB:=main11
  unfold mainB at hB
  split at hB
  rotate_left
  ·cases hB
  rename_i x a1 hrun
  simp only[Bool.and_eq_true]at hB
  obtain⟨k0,k1,k2⟩:=hB
  have:=H.go tabE tabM tabU (args:=[.ptr tt 0]) (by simp only[inVs,inV,decide_eq_true htt];rfl) hrun (Nat.le_of_ble_eq_true k1) k2
  simp only[List.map_cons,List.map_nil,mv]at this
  exact this.mono fun v S'' ⟨gg,ψ,ag,ev,_⟩=>⟨gg,by rw[ev,of_decide_eq_true k0];rfl⟩
 ·refine⟨mvv,rfl,One.of smv, ?_⟩
  rintro S0 SN S' tb q g ⟨f,φ,HN,rfl,s⟩ gN qN qS hq
  have H:=HN.fz gN
  have hb:SlAt (fun _=>True) S' mvv 9 es:=by
   refine⟨m1.1, ?_⟩
   rcases m1.2 with h|⟨r,o,k1,k2,l,k3,k4⟩
   ·exact .inl h
   ·refine .inr ⟨r,o,k1,k2,l, ?_,k4⟩
    rcases k3 with⟨t,k3⟩|k3
    ·exact .inl ⟨t,by rw[g.same r (Jj k3),k3]⟩
    ·exact .inr (by rw[g.same r (by rw[k3];exact fun e=>by cases e),k3])
  refine bodyT (ns:=names2) (d:=4) H htt hq hb m2 (by omega) fun i hi hi'=>⟨callN11 H g (m3 i hi hi') (PT.apart (S:=SN) f s),nodeO (hxs _ (List.getElem_mem hi')).2, ?_⟩
  rw[(hxs _ (List.getElem_mem hi')).1];exact Jtx
 ·intro x hxm
  obtain⟨hx1,hx2⟩:=hxs x hxm
  refine⟨bt,by rw[hx1];rfl,One.of sbt, ?_⟩
  rintro S0 SN S' tb q g ⟨f,φ,HN,rfl,s⟩ gN qN qS hq
  have H:=HN.fz gN
  rw[hbt]
  obtain⟨tr,hrb'⟩:=hrb
  exact txtFlow (S1:=S1) H hx2 hq (PT.off (Sp:=Sp) (S1:=S1) (S0:=S0) HN qN) qS g ⟨tr,hrb'⟩ fun p hp=>PT.apart (S:=SN) f s p hp rb (Jj hrb') hrn
def sep3 :Str:=[32,124,32]
def sigF (tx:Nat->Str)(name:Str)(ps:List (Str×Nat)):Str:=ps.foldl (fun w p=>if p.1=name then(if w=[]then tx p.2 else w++(sep3++tx p.2))else w) []
theorem Jeg (tx:Nat->Str)(name:Str)(ps:List (Str×Nat))(p:Str×Nat):sigF tx name (ps++[p])=if p.1=name then(if sigF tx name ps=[]then tx p.2 else sigF tx name ps++(sep3++tx p.2))else sigF tx name ps:=by
 unfold sigF;rw[List.foldl_append];rfl
theorem Jeh (tx:Nat->Str)(name:Str):∀(ps:List (Str×Nat)) (w:Str),(∀p∈ps,(tx p.2).length<=60)->(ps.foldl (fun w p=>if p.1=name then(if w=[]then tx p.2 else w++(sep3++tx p.2))else w) w).length<=w.length+63*ps.length
 |[],w,_=>Nat.le_refl _
 | p::r,w,h=>by
   have h2:=h p (List.mem_cons_self ..)
   have h3:sep3.length=3:=rfl
   rw[List.foldl_cons]
   refine Nat.le_trans (Jeh tx name r _ fun q hq=>h q (List.mem_cons_of_mem _ hq)) ?_
   rw[List.length_cons]
   split
   ·split
    ·omega
    ·rw[List.length_append,List.length_append];omega
   ·omega
theorem Jhg (tx:Nat->Str)(name:Str)(ps:List (Str×Nat))(h:∀p∈ps,(tx p.2).length<=60):(sigF tx name ps).length<=63*ps.length:=by
 have:=Jeh tx name ps [] h
 simpa[sigF]using this
theorem pairsC {S:St}{r:Pt}{t:Nat}{y0 y1 y2 y3 y4 y5 tv tb pv:V}{es:List (List V)}(hw:WF S)(hr:S.row r= .cells t [y0,y1,y2,y3,y4,y5,tv,tb,pv])(hp:SlAt (fun _=>True) S pv 2 es)(hok:okC es)(hn:es.length<1000):Does (tabT tabD) Ja1 [.ptr r 0] S fun v S'=>Gr S S'/\SlF S S' v 2 es:=by
 refine kU tabM JaD rfl hw fun K fin=> ?_
 simp only[KF,XZ,simprocAttr,hr]
 refine Ju (Jhb hw hp hok (by omega)) ?_
 rintro v S' ⟨g,h⟩
 simp only[XZ,simprocAttr]
 exact fin _ _ g.same fun _=>h
theorem tableC {S:St}{r:Pt}{t:Nat}{y0 y1 y2 y3 y4 y5 tv tb pv:V}(hr:S.row r= .cells t [y0,y1,y2,y3,y4,y5,tv,tb,pv]):Does (tabT tabD) Ja2 [.ptr r 0] S fun v S'=>v=tb/\S=S':=by
 refine Ym JaE rfl ?_
 simp only[KG,XZ,simprocAttr,hr]
theorem textsC {S:St}{φ:Rn}{id:Nat}{s:Str}(HT:Hold φ aT S)(h:textB id s=true):Does (tabT tabD) kL [.ptr (φ tt) 0, .int .i64 (id:Nat)] S fun v S'=>Gr S S'/\∀S2,Gr S' S2->∀lo,Does (tabT tabD) jR [v] {S2 with low:=lo} fun u S3=>Gr {S2 with low:=lo} S3/\u=ofL s:=by
 unfold textB at h
 split at h
 rotate_left
 ·cases h
 rename_i v a1 hrun
 simp only[Bool.and_eq_true]at h
 obtain⟨⟨k1,k2,k3⟩,h⟩:=h
 have:=HT.go tabE tabM tabU (args:=[.ptr tt 0, .int .i64 (id:Nat)]) (by simp only[inVs,inV,decide_eq_true htt];rfl) hrun (Nat.le_of_ble_eq_true k1) k2
 simp only[List.map_cons,List.map_nil,mv]at this
 refine this.mono fun u S' ⟨gg,ψ,ag,ev,H',_⟩=>⟨gg,fun S2 g2 lo=> ?_⟩
 rw[ev]
 split at h
 rotate_left
 ·cases h
 rename_i w a2 hrun2
 simp only[Bool.and_eq_true]at h
 obtain⟨j1,j2,j3⟩:=h
 have:=((H'.gr g2).low lo).go tabE tabM tabU (args:=[v]) (by simp only[inVs,k3];rfl) hrun2 (Nat.le_of_ble_eq_true j2) j3
 simp only[List.map_cons,List.map_nil]at this
 refine this.mono fun u S'' ⟨g2,ψ2,_,e2,_⟩=>⟨g2, ?_⟩
 rw[e2,ki j1,JA ψ2 _ rfl]
set_option maxHeartbeats 4000000 in
theorem signC {S:St}{r:Pt}{t:Nat}{φ:Rn}{y0 y1 y2 y3 y4 y5 tv pv:V}{ps:List (Str×Nat)}(tx:Nat->Str)(name:Str)(hw:WF S)(hr:S.row r= .cells t [y0,y1,y2,y3,y4,y5,tv, .ptr (φ tt) 0,pv])(HT:Hold φ aT S)(hp:SlAt (fun _=>True) S pv 2 (ps.map clE))(hn:ps.length<=30)
  (ht:∀p∈ps,textB p.2 (tx p.2)=true/\tx p.2≠[]/\(tx p.2).length<=60):Does (tabT tabD) jb [.ptr r 0,ofL name] S fun v S'=>Gr S S'/\v=ofL (sigF tx name ps):=by
 refine kU tabM JaA rfl hw fun K fin=> ?_
 simp only[KE,XY,simprocAttr]
 rw[Jk];simp only[XY,simprocAttr]
 rw[Jk];simp only[XY,simprocAttr]
 rw[Jq,Jk];simp only[XY,simprocAttr]
 refine Ju (pairsC hw hr hp (fun e he=>by
  obtain⟨x,_,rfl⟩:=List.mem_map.1 he
  rfl) (by simp only[List.length_map];omega)) ?_
 rintro lv S1 ⟨G1,h1⟩
 have ll:=h1.at.len
 simp only[List.length_map]at ll
 simp only[XY,simprocAttr,ll]
 obtain⟨L,hL⟩:∃L:Nat->Fr->St->Prop,∀j fr S',L j fr S'<->∃(i:Nat) (ov:V),j+i=ps.length/\fr 0= .ptr r 0/\fr 1=ofL name/\fr 5=ov/\fr 11=lv/\fr 12= .int .i64 (ps.length:Nat)/\fr 13= .int .i64 i/\Gr S1 S'/\BytesAt S' ov (sigF tx name (ps.take i)):=⟨_,fun _ _ _=>Iff.rfl⟩
 refine Yw L ps.length (by omega) ((hL _ _ _).2 ⟨0, .snil,by omega,by simp only[XZ,simprocAttr],by simp only[XZ,simprocAttr],by simp only[XZ,simprocAttr],by simp only[XZ,simprocAttr],by simp only[XZ,simprocAttr],by simp only[XZ,simprocAttr]<;>rfl,Gr.refl G1.wf, .inl ⟨rfl,rfl⟩⟩) ?_
 intro j fr S2 hLj
 obtain⟨i,ov,hj,f0,f1,f5,f11,f12,f13,G2,hb⟩:=(hL _ _ _).1 hLj
 have G12:=G1.trans G2
 have lo:=hb.len
 have so:=hb.sc
 by_cases hi:i<ps.length
 rotate_left
 ·have hi':¬(i:Int)<ps.length:=by omega
  rw[List.take_of_length_le (by omega)]at hb
  rw[Jk];simp only[XY,simprocAttr,f12,f13,hi']
  rw[Jq];simp only[XZ,simprocAttr,f5,Js9,hb.bts]
  exact fin _ _ G12.same fun _=>rfl
 have hi':(i:Int)<ps.length:=by omega
 have hadd1:IntKind.i64.wrap ((i:Int)+1)=((i+1:Nat):Int):=by rw[QL (by omega) (by omega)];rfl
 obtain⟨p,hpi⟩:∃p,p=ps[i]:=⟨_,rfl⟩
 have htk:ps.take (i+1)=ps.take i++[p]:=by rw[List.take_add_one,List.getElem?_eq_getElem hi,hpi];rfl
 obtain⟨ht1,ht2,ht3⟩:=ht p (by rw[hpi];exact List.getElem_mem hi)
 have hwl:=Jhg tx name (ps.take i) fun q hq=>(ht q (List.mem_of_mem_take hq)).2.2
 rw[List.length_take]at hwl
 have hsn:=Jeg tx name (ps.take i) p
 rw[<-htk]at hsn
 obtain⟨w,hw0⟩:∃w,w=sigF tx name (ps.take i):=⟨_,rfl⟩
 rw[<-hw0]at hb hwl hsn lo
 obtain⟨q,o,a1,_,a0,a2,_⟩:=(h1.gr G2).at.elem (i:=i) (by rw[List.length_map];exact hi)
 have a2:ldn (S2.row q) o 2=some (.agg [ofL p.1, .int .i64 (p.2:Nat)], .no):=by rw[a2];simp[clE,hpi]
 obtain⟨n2,hn2⟩:∃n,S2.nx=up 0 n:=⟨_,up0 _⟩
 rw[Jk];simp only[XY,simprocAttr,f12,f13,hi']
 rw[Jq];simp only[XY,simprocAttr]
 rw[Jq];simp only[XY,simprocAttr]
 rw[Jk];simp only[XY,simprocAttr,f11,f13,a1,a2,hn2]
 refine J8 ?_
 intro S3 hS3
 have G3:Gr S2 S3:=by rw[hS3];exact(Gr.refl G2.wf).nw hn2 (Jh _) (Jh _)
 obtain⟨p7,hp7⟩:∃b,b=up 0 n2:=⟨_,rfl⟩
 obtain⟨t7,r7⟩:∃t,S3.row p7= .cells t [ofL p.1, .int .i64 (p.2:Nat)]:=⟨_,by rw[hS3,hp7];simp only[XZ,simprocAttr,hn2];rfl⟩
 rw[<-hp7]
 clear hS3
 have G13:=G12.trans G3
 have hb3:=hb.gr G3
 have back:∀(fr':Fr) (S':St) (ov':V),fr' 0= .ptr r 0->fr' 1=ofL name->fr' 5=ov'->fr' 11=lv->fr' 12= .int .i64 (ps.length:Nat)->fr' 13= .int .i64 ((i+1:Nat):Int)->Gr S3 S'->BytesAt S' ov' (sigF tx name (ps.take (i+1)))->∃j',j'<j/\L j' fr' S':=fun fr' S' ov' b0 b1 b5 b11 b12 b13 g hb'=>⟨ps.length-(i+1),by omega,(hL _ _ _).2 ⟨i+1,ov',by omega,b0,b1,b5,b11,b12,b13,(G2.trans G3).trans g,hb'⟩⟩
 rw[Jq,Jk];simp only[XY,simprocAttr,r7,f1]
 by_cases hnm:p.1=name
 rotate_left
 ·rw[if_neg hnm]at hsn
  simp only[XZ,simprocAttr,hnm,f0,f1,f5,f11,f12,f13,hadd1]
  exact back _ _ ov (by simp only[XZ,simprocAttr,f0]) (by simp only[XZ,simprocAttr,f1]) (by simp only[XZ,simprocAttr,f5]) (by simp only[XZ,simprocAttr,f11]) (by simp only[XZ,simprocAttr,f12]) (by simp only[XZ,simprocAttr]) (Gr.refl G3.wf) (by rw[hsn];exact hb3)
 rw[if_pos hnm]at hsn
 have r3:=G13.cells hr
 simp only[XY,simprocAttr,hnm]
 rw[Jk];simp only[XY,simprocAttr,f0]
 refine Qr ((tableC (S:={S3 with low:=S3.t}) r3).mono fun v S' ⟨a,b⟩=>⟨b▸Gr.refl (Ys G13.wf _),a⟩) ?_
 rintro _ S4 G4 rfl
 have r74:=G4.cells r7
 simp only[XY,simprocAttr,r74]
 refine Qr (textsC (((HT.gr G13).gr G4).low _) ht1) ?_
 rintro v5 S5 G5 hT5
 simp only[XY,simprocAttr]
 refine Qr (P:=fun u _=>u=ofL (tx p.2)) ?_ ?_
 ·have:=hT5 _ (Gr.refl (Ys G5.wf S4.t)) S5.t
  exact this
 rintro _ S6 G6 rfl
 have G36:=(G4.trans G5).trans G6
 have hb6:=hb3.gr G36
 simp only[XY,simprocAttr]
 obtain⟨n6,hn6⟩:∃n,S6.nx=up 0 n:=⟨_,up0 _⟩
 obtain⟨one,hone⟩:∃one:Str,one=tx p.2:=⟨_,rfl⟩
 rw[<-hone]at ht2 ht3 hsn⊢
 have w6:=G6.wf
 obtain⟨p9,hp9⟩:∃b,b=up 0 n6:=⟨_,rfl⟩
 rcases hb6 with⟨rfl,hw1⟩|⟨q9,u9,hw1,rfl,hq9⟩
 ·subst hw1
  rw[if_pos rfl]at hsn
  have hc20:one.length<2^20:=by omega
  have hmk:=Jj1 (st:=S6) hc20
  have hadd:IntKind.i64.wrap ((0:Int)+(one.length:Nat))=((one.length:Nat):Int):=by rw[QL (by omega) (by omega)];omega
  have l0:lenLV .snil=some (.int .i64 0, .no):=rfl
  have ng:¬(0:Int)>0:=by omega
  rw[hn6,<-hp9]at hmk
  rw[Jq,Jk];simp only[XY,simprocAttr,f5,l0,ng]
  rw[Jk];simp only[XY,simprocAttr,f5,l0,hadd,hmk]
  obtain⟨S7,hS7⟩:∃S7,S7=S6.new fun t=>Row.cells t (List.replicate one.length (V.int .u8 0)):=⟨_,rfl⟩
  have g7:Gr S6 S7:=by rw[hS7];exact Gr.new w6 (Jh _)
  have r9:S7.row p9= .cells S6.t (List.replicate one.length (V.int .u8 0)):=by rw[hS7,hp9,<-hn6,YO,if_pos rfl]
  rw[<-hS7]
  have hcut:=cut9 (r:=p9) (Nat.zero_le one.length) S7
  simp only[Int.ofNat_zero,Nat.sub_zero]at hcut
  have hcp:=Jg8 (n:=one.length) (o:=0) (c:=one.length) (l:=one) r9 (by simp) (Nat.le_refl _) ht2
  rw[Jk];simp only[XM,simprocAttr,f5,JkS,JeF,hcut,hcp]
  simp only[XM,simprocAttr,f0,f1,f11,f12,f13,hadd1]
  have g8:Gr S6 (S7.wr p9 S6.t fun u=>Row.cells u (splice (List.replicate one.length (V.int .u8 0)) 0 (byL one))):=g7.wr (p:=p9) (by rw[hp9];exact nx0 w6 hn6 0) (by rw[r9];exact fun e=>by cases e) (by rw[r9];rfl) (Jh _)
  refine back _ _ (.slx p9 0 one.length 1 one.length) (by simp only[XZ,simprocAttr,f0]) (by simp only[XZ,simprocAttr,f1]) (by simp only[XZ,simprocAttr]) (by simp only[XZ,simprocAttr,f11]) (by simp only[XZ,simprocAttr,f12]) (by simp only[XZ,simprocAttr]) (G36.trans g8) ?_
  rw[hsn]
  refine .inr ⟨p9,S7.t,ht2,rfl, ?_⟩
  rw[JM,if_pos rfl]
  have:=JcF (a:=[]) (b:=byL one) (n:=one.length) (by simp[ke])
  simp[Yy,ke]
 ·rw[if_neg hw1]at hsn
  obtain⟨two,htwo⟩:∃two:Str,two=32::124::32::one:=⟨_,rfl⟩
  have hsep:sep3++one=two:=by rw[htwo];rfl
  have hl2:two.length=one.length+3:=by rw[htwo];rfl
  have h2ne:two≠[]:=by rw[htwo];exact fun e=>by cases e
  rw[hsep]at hsn
  have hc20:w.length+two.length<2^20:=by omega
  have hmk:=Jj1 (st:=S6) hc20
  have hadd:IntKind.i64.wrap ((w.length:Int)+(two.length:Nat))=((w.length+two.length:Nat):Int):=by rw[QL (by omega) (by omega)];omega
  have pos:0<w.length:=List.length_pos_iff.2 hw1
  have ng:(w.length:Int)>0:=by omega
  rw[hn6,<-hp9]at hmk
  rw[Jq,Jk];simp only[XY,simprocAttr,f5,lo,ng]
  refine⟨by omega, ?_⟩
  simp only[<-htwo]
  rw[Jk];simp only[XY,simprocAttr,f5,lo,hadd,hmk]
  obtain⟨S7,hS7⟩:∃S7,S7=S6.new fun t=>Row.cells t (List.replicate (w.length+two.length) (V.int .u8 0)):=⟨_,rfl⟩
  have g7:Gr S6 S7:=by rw[hS7];exact Gr.new w6 (Jh _)
  have r9:S7.row p9= .cells S6.t (List.replicate (w.length+two.length) (V.int .u8 0)):=by rw[hS7,hp9,<-hn6,YO,if_pos rfl]
  have q97:=g7.cells hq9
  rw[<-hS7]
  have hc1:=Jnw (r:=p9) (q:=q9) (n:=w.length+two.length) (c:=w.length) (l:=w) r9 q97 (by simp) (by omega) hw1
  obtain⟨S8,hS8⟩:∃S8,S8=S7.wr p9 S6.t fun u=>Row.cells u (splice (List.replicate (w.length+two.length) (V.int .u8 0)) 0 (byL w)):=⟨_,rfl⟩
  have g8:Gr S6 S8:=by rw[hS8];exact g7.wr (p:=p9) (by rw[hp9];exact nx0 w6 hn6 0) (by rw[r9];exact fun e=>by cases e) (by rw[r9];rfl) (Jh _)
  have r98:S8.row p9= .cells S7.t (splice (List.replicate (w.length+two.length) (V.int .u8 0)) 0 (byL w)):=by rw[hS8,JM,if_pos rfl]
  have hcut:=cut9 (r:=p9) (k:=w.length) (n:=w.length+two.length) (by omega) S8
  rw[Nat.add_sub_cancel_left]at hcut
  have hcp:=Jg8 (n:=two.length) (o:=w.length) (c:=two.length) (l:=two) r98 (by simp[Yy,ke]) (Nat.le_refl _) h2ne
  rw[Jk];simp only[XM,simprocAttr,f5,hc1]
  rw[<-hS8]
  simp only[XM,simprocAttr,JeF,hcut,hcp]
  simp only[XM,simprocAttr,f0,f1,f11,f12,f13,hadd1]
  have g9:Gr S6 (S8.wr p9 S7.t fun u=>Row.cells u (splice (splice (List.replicate (w.length+two.length) (V.int .u8 0)) 0 (byL w)) w.length (byL two))):=g8.wr (p:=p9) (by rw[hp9];exact nx0 w6 hn6 0) (by rw[r98];exact fun e=>by cases e) (by rw[r98];rfl) (Jh _)
  refine back _ _ (.slx p9 0 (w.length+two.length) 1 (w.length+two.length)) (by simp only[XZ,simprocAttr,f0]) (by simp only[XZ,simprocAttr,f1]) (by simp only[XZ,simprocAttr]) (by simp only[XZ,simprocAttr,f11]) (by simp only[XZ,simprocAttr,f12]) (by simp only[XZ,simprocAttr]) (G36.trans g9) ?_
  rw[hsn]
  refine .inr ⟨p9,S8.t,by simp[hw1],by rw[List.length_append], ?_⟩
  rw[JM,if_pos rfl]
  have:=JcF (a:=byL w) (b:=byL two) (n:=w.length+two.length) (by simp[ke])
  rw[ke]at this
  rw[this]
  simp[byL]
def idk (k:Nat):Nat:=if k=2 then 3 else k
def xk (k:Nat):Str×Nat:=([116],idk k)
theorem Jqg {a b:Nat}(ha:a<3)(hb:b<3)(h:idk a=idk b):a=b:=by
 unfold idk at h
 split at h<;>split at h<;>omega
theorem JsO {k:Nat}(h:k<3):idk k=0\/idk k=1\/idk k=3:=by
 unfold idk;split<;>omega
theorem JsP {a b:Nat}(ha:a<3)(hb:b<3)(h:xk a=xk b):a=b:=Jqg ha hb (Prod.mk.inj h).2
theorem Jtq (k:Nat):xk k≠([],4):=fun h=>by cases (Prod.mk.inj h).1
theorem Jim :∀(ks acc:List Nat),(∀k∈ks,k<3)->(∀k∈acc,k<3)->dedS (([],4)::acc.map xk) (ks.map xk)=([],4)::(dedS acc ks).map xk
 |[],acc,_,_=>rfl
 | x::r,acc,h1,h2=>by
   have hx:=h1 x (List.mem_cons_self ..)
   have hr:=fun k hk=>h1 k (List.mem_cons_of_mem _ hk)
   by_cases h:x∈acc
   ·have h':xk x∈([],4)::acc.map xk:=List.mem_cons_of_mem _ (List.mem_map.2 ⟨x,h,rfl⟩)
    rw[List.map_cons,dedS,if_pos h',dedS,if_pos h]
    exact Jim r acc hr h2
   ·have h':xk x∉([],4)::acc.map xk:=fun c=>by
     rcases List.mem_cons.1 c with c|c
     ·exact Jtq x c
     ·obtain⟨y,y1,y2⟩:=List.mem_map.1 c
      exact h (JsP (h2 y y1) hx y2▸y1)
    rw[List.map_cons,dedS,if_neg h',dedS,if_neg h,List.cons_append]
    have:=Jim r (acc++[x]) hr fun k hk=>by
     rcases List.mem_append.1 hk with hk|hk
     ·exact h2 k hk
     ·rw[List.mem_singleton.1 hk];exact hx
    rw[List.map_append]at this
    exact this
theorem JcG {α:Type}[DecidableEq α](acc ks:List α)(k:α):dedS acc (ks++[k])=if k∈dedS acc ks then dedS acc ks else dedS acc ks++[k]:=by
 induction ks generalizing acc with
 |nil=>rfl
 | cons x r ih=>
   rw[List.cons_append,dedS,dedS]
   split
   ·exact ih acc
   ·exact ih (acc++[x])
theorem JsQ :pureB (tabT tabD) YQ [ofL [116]] (.bool true)=true:=by kernel_rfl
theorem segOk {k n:Nat}(h:k<3):SegOk FO (true,segS k,n) (xk k):=by
 rcases(by omega:k=0\/k=1\/k=2)with rfl|rfl|rfl
 ·exact⟨rfl,act0,JsQ⟩
 ·exact⟨rfl,act1,JsQ⟩
 ·exact⟨rfl,act2,JsQ⟩
theorem segsOk :∀(ks:List Nat) (n:Nat),(∀k∈ks,k<3)->SegsOk FO (partsK ks n) (ks.map xk)
 |[],_,_=>trivial
 |k::r,n,h=>⟨segOk (h k (List.mem_cons_self ..)),segsOk r _ fun x hx=>h x (List.mem_cons_of_mem _ hx)⟩
def kOf (z:Int):Nat:=(z%3).toNat
theorem JnE (z:Int):kOf z<3:=by unfold kOf;omega
theorem Jqh (z:Int):((kOf z:Nat):Int)=z%3:=by unfold kOf;omega
def ksOf (zs:List Int)(i:Nat):List Nat:=(zs.take i).map kOf
theorem Jj4 {zs:List Int}{i:Nat}:∀k∈ksOf zs i,k<3:=fun k hk=>by
 obtain⟨z,_,rfl⟩:=List.mem_map.1 hk
 exact JnE z
theorem JkU {zs:List Int}{i:Nat}(h:i<zs.length):ksOf zs (i+1)=ksOf zs i++[kOf zs[i]]:=by
 unfold ksOf
 rw[List.take_add_one,List.getElem?_eq_getElem h,List.map_append]
 rfl
theorem Jin :pureB (tabT tabD) qJ [] (.bool true)=true:=by kernel_rfl
theorem JnF {ks:List Nat}(h:∀k∈ks,k<3):∀k∈dedS [] ks,k<3:=by
 obtain⟨t,a,b,_⟩:=kZ ks []
 rw[a]
 exact fun k hk=>h k (b k (by simpa using hk))
theorem Jj5 (ks:List Nat):(dedS [] ks).length<=ks.length:=by
 obtain⟨t,a,_,b⟩:=kZ ks []
 rw[a];simpa using b
def tx12 (id:Nat):Str:=if id=0 then tInt else if id=1 then tList else if id=3 then tOpt else tMain
theorem Jr5 {k:Nat}(h:k<3):textB (idk k) (tx12 (idk k))=true/\tx12 (idk k)≠[]/\(tx12 (idk k)).length<=60:=by
 rcases(by omega:k=0\/k=1\/k=2)with rfl|rfl|rfl
 ·exact⟨text0,by decide,by decide⟩
 ·exact⟨text1,by decide,by decide⟩
 ·exact⟨text3,by decide,by decide⟩
theorem Jqi :textB 4 (tx12 4)=true/\tx12 4≠[]/\(tx12 4).length<=60:=⟨text4,by decide,by decide⟩
def wantS (ks:List Nat):Str:=sigF tx12 [116] ((dedS [] ks).map xk)
theorem Je4 (tx:Nat->Str)(name:Str):∀(ps:List (Str×Nat)) (w:Str),(∀p∈ps,p.1≠name)->ps.foldl (fun w p=>if p.1=name then(if w=[]then tx p.2 else w++(sep3++tx p.2))else w) w=w
 |[],_,_=>rfl
 |p::r,w,h=>by rw[List.foldl_cons,if_neg (h p (List.mem_cons_self ..))];exact Je4 tx name r w fun q hq=>h q (List.mem_cons_of_mem _ hq)
theorem Jtr (ds:List Nat):sigF tx12 [116] (([],4)::ds.map xk)=sigF tx12 [116] (ds.map xk):=rfl
theorem Jts (ds:List Nat):sigF tx12 [117] (([],4)::ds.map xk)=[]:=Je4 _ _ _ _ fun p hp=>by
 rcases List.mem_cons.1 hp with rfl|hp
 ·exact fun e=>by cases e
 ·obtain⟨k,_,rfl⟩:=List.mem_map.1 hp
  exact fun e=>by cases e
theorem Jtt (ds:List Nat):sigF tx12 [] (([],4)::ds.map xk)=tMain:=Je4 tx12 [] (ds.map xk) tMain fun p hp=>by
 obtain⟨k,_,rfl⟩:=List.mem_map.1 hp
 exact fun e=>by cases e
theorem JkV (ks:List Nat)(k:Nat):wantS (ks++[k])=if k∈dedS [] ks then wantS ks else if wantS ks=[]then tx12 (idk k)else wantS ks++(sep3++tx12 (idk k)):=by
 unfold wantS
 rw[JcG]
 split
 ·rfl
 ·rw[List.map_append,List.map_cons,List.map_nil,Jeg,if_pos (show(xk k).1=[116]from rfl)];rfl
theorem JnG {ks:List Nat}(h:ks.length<=12)(hk:∀k∈ks,k<3):(wantS ks).length<=756:=by
 have:=Jhg tx12 [116] ((dedS [] ks).map xk) fun p hp=>by
  obtain⟨k,h1,rfl⟩:=List.mem_map.1 hp
  exact(Jr5 (JnF hk k h1)).2.2
 rw[List.length_map]at this
 have:=Jj5 ks
 unfold wantS
 omega
def seenR (ks:List Nat):List V:=[.bool (decide (0∈dedS [] ks)), .bool (decide (1∈dedS [] ks)), .bool (decide (2∈dedS [] ks))]
theorem JkW (ks:List Nat){k:Nat}(h:k<3):seenR (ks++[k])=(seenR ks).set k (.bool true):=by
 unfold seenR
 have e:∀x,(decide (x∈dedS [] (ks++[k])))=(decide (x=k)||decide (x∈dedS [] ks)):=fun x=>by
  rw[JcG]
  split
  ·rename_i hk
   by_cases c:x=k
   ·subst c;simp[hk]
   ·simp[c]
  ·rename_i hk
   by_cases c:x=k
   ·subst c;simp
   ·simp[c]
 rw[e,e,e]
 rcases(by omega:k=0\/k=1\/k=2)with rfl|rfl|rfl<;>simp
theorem JkX (a n:Int)(st:St)(h0:0<n)(h1:n<4611686018427387904):Does (tabT tabD) qc [.int .i64 a, .int .i64 n] st fun v st'=>v= .int .i64 (a%n)/\st=st':=by
 refine Ym jQ rfl ?_
 have hn:n≠0:=by omega
 have e1:=Int.emod_nonneg a hn
 have e2:=Int.emod_lt_of_pos a h0
 rcases tmodC a h0 with⟨h3,h4⟩|⟨h3,h4⟩
 ·simp only[JU,XZ,simprocAttr,hn,h3]
  rw[h4]
 ·have hw:IntKind.i64.wrap (a.tmod n+n)=a%n:=by rw[h4,QL (by omega) (by omega)]
  simp only[JU,XZ,simprocAttr,hn,h3,hw]
theorem holdS {S:St}{p0 p1 p2 p3:Pt}(hw:WF S)(r0:∃t,S.row p0= .cells t names3)(r1:∃t,S.row p1= .cells t kidB)(r2:∃t,S.row p2= .cells t kidC)(r3:∃t,S.row p3= .cells t (kids3 p1 p2))(n01:p0≠p1)(n02:p0≠p2)(n12:p1≠p2)(n03:p0≠p3)(n13:p1≠p3)(n23:p2≠p3):∃φ:Rn,Hold φ aS S/\φ .h=p0/\φ (.a .h)=p1/\φ (.b .h)=p2/\φ (.c .h)=p3:=by
 obtain⟨t0,r0⟩:=r0
 obtain⟨t1,r1⟩:=r1
 obtain⟨t2,r2⟩:=r2
 obtain⟨t3,r3⟩:=r3
 have H0:=Hold.start (S:=S) (fun _=> .int .i64 0) (fun _=>⟨_,_,rfl⟩) hw
 obtain⟨φ1,ag1,e1,H1⟩:=H0.add (q:=p0) (f:=fun t=> .cells t names3) (Jh _) (Jj r0) (fun p h=>absurd h (Nat.not_lt_zero _)) ⟨t0,by rw[r0];rfl,trivial⟩ rfl rfl
 have e1:φ1 .h=p0:=e1
 obtain⟨φ2,ag2,e2,H2⟩:=H1.add (q:=p1) (f:=fun t=> .cells t kidB) (Jh _) (Jj r1) (fun p h=>by
  have:p= .h:=num0 (by have:p.num<1:=h;omega)
  rw[this,e1];exact n01) ⟨t1,by rw[r1];rfl,trivial⟩ rfl rfl
 have e2:φ2 (.a .h)=p1:=e2
 have a2:φ2 .h=p0:=by rw[ag2.f .h (by decide),e1]
 obtain⟨φ3,ag3,e3,H3⟩:=H2.add (q:=p2) (f:=fun t=> .cells t kidC) (Jh _) (Jj r2) (fun p h=>by
  rcases Je3 h with rfl|rfl
  ·rw[a2];exact n02
  ·rw[e2];exact n12) ⟨t2,by rw[r2];rfl,trivial⟩ rfl rfl
 have e3:φ3 (.b .h)=p2:=e3
 have a3:φ3 .h=p0:=by rw[ag3.f .h (by decide),a2]
 have b3:φ3 (.a .h)=p1:=by rw[ag3.f (.a .h) (by decide),e2]
 obtain⟨φ4,ag4,e4,H4⟩:=H3.add (q:=p3) (f:=fun t=> .cells t (kids3 (.a .h) (.b .h))) (Jh _) (Jj r3) (fun p h=>by
  have h:p.num<3:=h
  by_cases c:p.num<2
  ·rcases Je3 c with rfl|rfl
   ·rw[a3];exact n03
   ·rw[b3];exact n13
  ·have:p= .b .h:=Pt.num_inj (show p.num=2 by omega)
   rw[this,e3];exact n23) ⟨t3,by rw[r3];simp only[kids3,List.map_cons,List.map_nil,mv,b3,e3,show∀s,mv φ3 (ofL s)=ofL s from fun s=>JA φ3 _ rfl],trivial⟩ rfl rfl
 exact⟨φ4,H4,by rw[ag4.f .h (by decide),a3],by rw[ag4.f (.a .h) (by decide),b3],by rw[ag4.f (.b .h) (by decide),e3],e4⟩
set_option maxHeartbeats 4000000 in
theorem typesC (st:St)(hw:WF st)(v:V)(zs:List Int)(hv:IntsAt st v zs)(hz:∀z∈zs,-9223372036854775808<=z/\z<9223372036854775808)(hn:zs.length<=maxLen):
  Does (tabT tabD) ju [v] st fun v' _=>v'= .bool true:=by
 refine Ym ja rfl ?_
 have hlen:=hv.len
 simp only[JO,XY,simprocAttr]
 rw[Jk];simp only[XY,simprocAttr]
 rw[Jq,Jk];simp only[XY,simprocAttr]
 refine Ju (pureC tabE tabM tabU Jin rfl rfl hw) ?_
 rintro _ S1 ⟨G1,rfl⟩
 simp only[XY,simprocAttr]
 obtain⟨n1,hn1⟩:∃n,S1.nx=up 0 n:=⟨_,up0 _⟩
 rw[Jk];simp only[XY,simprocAttr,hn1]
 refine J8 ?_
 intro S2 hS2
 have G2:Gr S1 S2:=by rw[hS2];exact(Gr.refl G1.wf).nw hn1 (Jh _) (Jh _)
 obtain⟨p3,hp3⟩:∃b,b=up 0 n1:=⟨_,rfl⟩
 obtain⟨t3,r3⟩:∃t,S2.row p3= .cells t [.int .i64 2,ofL [], .snil, .snil]:=⟨_,by rw[hS2,hp3];simp only[XZ,simprocAttr,hn1];rfl⟩
 rw[<-hp3]
 clear hS2
 obtain⟨n2,hn2⟩:∃n,S2.nx=up 0 n:=⟨_,up0 _⟩
 have o3:=fun k=>nes (jI G2.wf hn2 (Jj r3) k)
 rw[Jk];simp only[XY,simprocAttr,hn2,r3,o3]
 refine J8 ?_
 intro S3 hS3
 have w2:=G2.wf
 have G3:Gr S2 S3:=by
  rw[hS3]
  exact(((((Gr.new w2 (Jh _)).nn (Jh _)).nn (Jh _)).nn (Jh _)).nn (Jh _)).wr (p:=up 4 n2) (nx0 w2 hn2 4) (by simp only[XZ,simprocAttr,hn2]<;>exact fun e=>by cases e) (by simp only[XZ,simprocAttr,hn2];rfl) (Jh _)
 obtain⟨q0,hq0⟩:∃b,b=up 0 n2:=⟨_,rfl⟩
 obtain⟨q1,hq1⟩:∃b,b=up 1 n2:=⟨_,rfl⟩
 obtain⟨q2,hq2⟩:∃b,b=up 2 n2:=⟨_,rfl⟩
 obtain⟨q3,hq3⟩:∃b,b=up 3 n2:=⟨_,rfl⟩
 obtain⟨p4,hp4⟩:∃b,b=up 4 n2:=⟨_,rfl⟩
 obtain⟨tn,rn⟩:∃t,S3.row q0= .cells t names3:=⟨_,by rw[hS3,hq0];simp only[XZ,simprocAttr,hn2];rfl⟩
 obtain⟨tb,rb⟩:∃t,S3.row q1= .cells t kidB:=⟨_,by rw[hS3,hq1];simp only[XZ,simprocAttr,hn2];rfl⟩
 obtain⟨tc,rc⟩:∃t,S3.row q2= .cells t kidC:=⟨_,by rw[hS3,hq2];simp only[XZ,simprocAttr,hn2];rfl⟩
 obtain⟨tk,rk⟩:∃t,S3.row q3= .cells t (kids3 q1 q2):=⟨_,by rw[hS3,hq3,hq1,hq2];simp only[XZ,simprocAttr,hn2];rfl⟩
 obtain⟨t4,r4⟩:∃t,S3.row p4= .cells t [.int .i64 7,ofL [], .slx q0 0 3 1 3, .slx q3 0 3 4 3, .snil, .snil]:=⟨_,by rw[hS3,hp4,hq0,hq3];simp only[XZ,simprocAttr,hn2];rfl⟩
 have ue:∀{a b:Nat},a≠b->up a n2≠up b n2:=fun{a b} h e=>h (by have:=congrArg Pt.num e;rw[KV,KV]at this;omega)
 have nn:q0≠q1/\q0≠q2/\q1≠q2/\q0≠q3/\q1≠q3/\q2≠q3:=by rw[hq0,hq1,hq2,hq3];exact⟨ue (by decide),ue (by decide),ue (by decide),ue (by decide),ue (by decide),ue (by decide)⟩
 rw[<-hp4]
 clear hS3
 have L13:=(G1.trans G2).trans G3
 obtain⟨n3,hn3⟩:∃n,S3.nx=up 0 n:=⟨_,up0 _⟩
 rw[Jk];simp only[XY,simprocAttr,hn3]
 refine J8 ?_
 intro S4 hS4
 have G4:Gr S3 S4:=by rw[hS4];exact Gr.new G3.wf (Jh _)
 obtain⟨p5,hp5⟩:∃b,b=up 0 n3:=⟨_,rfl⟩
 obtain⟨t5,r5⟩:∃t,S4.row p5= .cells t [ofL tInt,ofL tList,ofL tOpt]:=⟨_,by rw[hS4,hp5];simp only[XZ,simprocAttr,hn3];rfl⟩
 rw[<-hp5]
 clear hS4
 rw[Jk];simp only[XY,simprocAttr]
 obtain⟨n4,hn4⟩:∃n,S4.nx=up 0 n:=⟨_,up0 _⟩
 rw[Jk];simp only[XY,simprocAttr,hn4]
 refine J8 ?_
 intro S5 hS5
 have G5:Gr S4 S5:=by rw[hS5];exact Gr.new G4.wf (Jh _)
 obtain⟨p8,hp8⟩:∃b,b=up 0 n4:=⟨_,rfl⟩
 obtain⟨t8,r8⟩:∃t,S5.row p8= .cells t (seenR []):=⟨_,by rw[hS5,hp8];simp only[XZ,simprocAttr,hn4];rfl⟩
 have p8n:S4.row p8= .none:=by rw[hp8];exact nx0 G4.wf hn4 0
 rw[<-hp8]
 clear hS5
 have G35:=G4.trans G5
 obtain⟨J,hJ⟩:∃J:Fr->St->Prop,∀fr S,J fr S<->fr 4= .ptr p4 0/\fr 6=ofL (mkT (ksOf zs (min zs.length 12)))/\fr 7=ofL (wantS (ksOf zs (min zs.length 12)))/\Ch (fun r=>r=p8) S5 S:=⟨_,fun _ _=>Iff.rfl⟩
 refine JeH J ?_ ?_
 rotate_left
 ·intro fr S6 hJ6
  obtain⟨f4,f6,f7,C6⟩:=(hJ _ _).1 hJ6
  obtain⟨ks,hks⟩:∃ks,ks=ksOf zs (min zs.length 12):=⟨_,rfl⟩
  have hlt:∀k∈ks,k<3:=by rw[hks];exact Jj4
  have hkn:ks.length<=12:=by rw[hks];unfold ksOf;rw[List.length_map,List.length_take];omega
  rw[<-hks]at f6 f7
  have hml:=Je2 ks
  have w6:=C6.wf
  have old:∀{q:Pt},S3.row q≠ .none->S6.row q=S3.row q:=fun{q} h=>by
   have h4:S4.row q≠ .none:=by rw[G4.same q h];exact h
   rw[C6.same q (by rw[G5.same q h4];exact h4) (fun e=>by rw[e]at h4;exact h4 p8n),G5.same q h4,G4.same q h]
  obtain⟨φS,HS,es0,es1,es2,es3⟩:=holdS w6 ⟨_,(old (Jj rn)).trans rn⟩ ⟨_,(old (Jj rb)).trans rb⟩ ⟨_,(old (Jj rc)).trans rc⟩ ⟨_,(old (Jj rk)).trans rk⟩ nn.1 nn.2.1 nn.2.2.1 nn.2.2.2.1 nn.2.2.2.2.1 nn.2.2.2.2.2
  rw[Jk];simp only[XY,simprocAttr,f6]
  refine⟨by omega, ?_⟩
  refine Ju (parseO (xs:=ks.map xk) w6 (q0:=q0) (by rw[old (Jj rn)];exact Jj rn) (by omega) (segsOk ks 0 hlt)) ?_
  rintro _ S7 ⟨G7,lv,mvv,bt,rfl,hlv,hR⟩
  have r47:=G7.cells ((old (Jj r4)).trans r4)
  simp only[XY,simprocAttr]
  rw[Jk];simp only[XY,simprocAttr,f4,r47]
  have hck:=check12 (Sp:=S6) (HS.gr G7) (fun q hq=>by
   have:∀{p:Pt},S3.row p≠ .none->S6.row p≠ .none:=fun{p} h=>by rw[old h];exact h
   rcases Jqf hq with rfl|rfl|rfl|rfl
   ·rw[es0];exact this (Jj rn)
   ·rw[es1];exact this (Jj rb)
   ·rw[es2];exact this (Jj rc)
   ·rw[es3];exact this (Jj rk)) (fun r e=>by rw[G7.same r e];exact e) (hlv.imp fun r e n=>⟨n,rfl⟩) hR (fun x hx=>by
   obtain⟨k,hk,rfl⟩:=List.mem_map.1 hx
   exact⟨rfl,JsO (hlt k hk)⟩) (by rw[List.length_map];omega)
  rw[es0,es3]at hck
  refine Ju hck ?_
  rintro _ S8 ⟨G8,r,S0,y0,y1,y2,y3,y4,y5,tv,tb,pv,rfl,⟨tr,rr⟩,gS0,⟨_,φ,HT,rfl,hs⟩,hpv⟩
  obtain⟨n8,hn8⟩:∃n,S8.nx=up 0 n:=⟨_,up0 _⟩
  simp only[XY,simprocAttr,hn8]
  refine J8 ?_
  intro S9 hS9
  have G9:Gr S8 S9:=by rw[hS9];exact(Gr.refl G8.wf).nw hn8 (Jh _) (Jh _)
  obtain⟨pf,hpf⟩:∃b,b=up 0 n8:=⟨_,rfl⟩
  obtain⟨tf,rf⟩:∃t,S9.row pf= .cells t [.int .i64 0,ofL [], .int .i64 0]:=⟨_,by rw[hS9,hpf];simp only[XZ,simprocAttr,hn8];rfl⟩
  rw[<-hpf]
  clear hS9
  have rr9:=G9.cells rr
  have hpv9:=hpv.gr G9
  rw[show dedS [([],4)] (ks.map xk)=([],4)::(dedS [] ks).map xk from Jim ks [] hlt fun k h=>by cases h]at hpv9
  have hD:=JnF hlt
  have hDn:=Jj5 ks
  have hps:∀p∈(([],4):Str×Nat)::(dedS [] ks).map xk,textB p.2 (tx12 p.2)=true/\tx12 p.2≠[]/\(tx12 p.2).length<=60:=fun p hp=>by
   rcases List.mem_cons.1 hp with rfl|hp
   ·exact Jqi
   ·obtain⟨k,hk,rfl⟩:=List.mem_map.1 hp
    exact Jr5 (hD k hk)
  have sg:∀{S':St} (g:Gr S9 S') (name:Str),Does (tabT tabD) jb [.ptr r 0,ofL name] S' fun v S''=>Gr S' S''/\v=ofL (sigF tx12 name (([],4)::(dedS [] ks).map xk)):=fun{S'} g name=>signC tx12 name g.wf (g.cells rr9) ((HT.gr G9).gr g) (((hpv9.gr g).at).imp fun _ _ _=>⟨trivial,rfl⟩) (by simp only[List.length_cons,List.length_map];omega) hps
  rw[Jk];simp only[XY,simprocAttr,rf]
  refine Ju (sg (Gr.refl G9.wf) [116]) ?_
  rintro _ S10 ⟨G10,rfl⟩
  rw[Jtr]
  simp only[XY,simprocAttr,f7,show sigF tx12 [116] ((dedS [] ks).map xk)=wantS ks from rfl]
  refine Ju (sg G10 [117]) ?_
  rintro _ S11 ⟨G11,rfl⟩
  rw[Jts]
  simp only[XY,simprocAttr]
  refine Ju (sg (G10.trans G11) []) ?_
  rintro _ S12 ⟨G12,rfl⟩
  rw[Jtt]
  simp only[XZ,simprocAttr]
  exact congrArg V.bool (decide_eq_true rfl)
 rw[Jk];simp only[XY,simprocAttr]
 obtain⟨L,hL⟩:∃L:Nat->Fr->St->Prop,∀j fr S',L j fr S'<->∃i:Nat,j+i=min zs.length 12/\fr 0=v/\fr 4= .ptr p4 0/\fr 5= .slx p5 0 3 1 3/\fr 6=ofL (mkT (ksOf zs i))/\fr 7=ofL (wantS (ksOf zs i))/\fr 8= .ptr p8 0/\fr 9= .int .i64 i/\Ch (fun r=>r=p8) S5 S'/\∃t,S'.row p8= .cells t (seenR (ksOf zs i)):=⟨_,fun _ _ _=>Iff.rfl⟩
 refine Yw L (min zs.length 12) (by omega) ((hL _ _ _).2 ⟨0,by omega,by simp only[XZ,simprocAttr],by simp only[XZ,simprocAttr],by simp only[XZ,simprocAttr],by simp only[XZ,simprocAttr]<;>rfl,by simp only[XZ,simprocAttr]<;>rfl,by simp only[XZ,simprocAttr],by simp only[XZ,simprocAttr]<;>rfl,Ch.refl _ G5.wf,t8,r8⟩) ?_
 intro j fr S6 hLj
 obtain⟨i,hj,f0,f4,f5,f6,f7,f8,f9,C6,u8,r86⟩:=(hL _ _ _).1 hLj
 have old:∀{q:Pt},S4.row q≠ .none->S6.row q=S4.row q:=fun{q} h=>by
  rw[C6.same q (by rw[G5.same q h];exact h) (fun e=>by rw[e]at h;exact h p8n),G5.same q h]
 have hkl:(ksOf zs i).length<=i:=by unfold ksOf;rw[List.length_map,List.length_take];omega
 by_cases hi:i<min zs.length 12
 rotate_left
 ·have hie:i=min zs.length 12:=by omega
  rw[hie]at f6 f7
  by_cases h1:i<zs.length
  ·have h1':(i:Int)<zs.length:=by omega
   have h2':¬(i:Int)<12:=by omega
   rw[Jq,Jk];simp only[XY,simprocAttr,f0,f9,hlen,h1',h2']
   exact(hJ _ _).2 ⟨by simp only[XZ,simprocAttr,f4],by simp only[XZ,simprocAttr,f6],by simp only[XZ,simprocAttr,f7],C6⟩
  ·have h1':¬(i:Int)<zs.length:=by omega
   rw[Jq,Jk];simp only[XY,simprocAttr,f0,f9,hlen,h1']
   exact(hJ _ _).2 ⟨by simp only[XZ,simprocAttr,f4],by simp only[XZ,simprocAttr,f6],by simp only[XZ,simprocAttr,f7],C6⟩
 have h1':(i:Int)<zs.length:=by omega
 have h2':(i:Int)<12:=by omega
 have hi1:i<zs.length:=by omega
 have hadd1:IntKind.i64.wrap ((i:Int)+1)=((i+1:Nat):Int):=by rw[QL (by omega) (by omega)];rfl
 have hv6:∃q,iaddrSV 1 v (.int .i64 i)=some (.ptr q i, .no)/\S6.row q= .ro (zs.map (V.int .i64)):=by
  obtain⟨q,a1,a2⟩:=(hv.gr (L13.trans G4)).at hi1
  exact⟨q,a1,by rw[old (by rw[a2];exact fun e=>by cases e),a2]⟩
 obtain⟨q,a1,a2⟩:=hv6
 have a3:ld1 (S6.row q) i=some (.int .i64 zs[i], .no):=by rw[a2,JhW,Jmu hi1];rfl
 rw[Jq,Jk];simp only[XY,simprocAttr,f0,f9,hlen,h1',h2']
 rw[Jq];simp only[XY,simprocAttr]
 rw[Jk];simp only[XY,simprocAttr,f0,f9,a1,a3]
 refine Ju (JkX zs[i] 3 _ (by decide) (by decide)) ?_
 rintro _ _ ⟨rfl,rfl⟩
 rw[<-Jqh]
 have hk3:=JnE zs[i]
 have hks:=JkU hi1
 obtain⟨k,hk⟩:∃k,k=kOf zs[i]:=⟨_,rfl⟩
 rw[<-hk]at hk3 hks⊢
 have hwl:=JnG (ks:=ksOf zs i) (by omega) Jj4
 have hml:=Je2 (ksOf zs i)
 have hmk:mkT (ksOf zs (i+1))=mkT (ksOf zs i)++seg1 k:=by rw[hks,Jnt]
 have hwk:=JkV (ksOf zs i) k
 have hse:=JkW (ksOf zs i) hk3
 rw[<-hks]at hwk hse
 obtain⟨D,hD⟩:∃D,D=dedS [] (ksOf zs i):=⟨_,rfl⟩
 rw[<-hD]at hwk
 have hsr:seenR (ksOf zs i)=[.bool (decide (0∈D)), .bool (decide (1∈D)), .bool (decide (2∈D))]:=by rw[hD];rfl
 rw[hsr]at r86 hse
 obtain⟨ws,hws⟩:∃ws,ws=wantS (ksOf zs i):=⟨_,rfl⟩
 rw[<-hws]at f7 hwl hwk
 simp only[XY,simprocAttr]
 obtain⟨n6,hn6⟩:∃n,S6.nx=up 0 n:=⟨_,up0 _⟩
 obtain⟨I,hI⟩:∃I:Fr->St->Prop,∀fr S,I fr S<->(fr 0=v/\fr 4= .ptr p4 0/\fr 5= .slx p5 0 3 1 3/\fr 6=ofL (mkT (ksOf zs (i+1)))/\fr 7=ofL ws/\fr 8= .ptr p8 0/\fr 9= .int .i64 i/\fr 10= .int .i64 (k:Nat)/\Gr S6 S):=⟨_,fun _ _=>Iff.rfl⟩
 refine JpM I ?_ ?_
 ·rcases(by omega:k=0\/k=1\/k=2)with e|e|e
  all_goals
   rw[e]at hmk⊢
   simp only[XZ,simprocAttr,f6,hn6]
   refine⟨by omega,by simp only[List.length_append,List.length_cons,List.length_nil];omega,by simp only[List.length_append,List.length_cons,List.length_nil];omega,(hI _ _).2 ⟨by simp only[XZ,simprocAttr,f0],by simp only[XZ,simprocAttr,f4],by simp only[XZ,simprocAttr,f5], ?_,by simp only[XZ,simprocAttr,f7],by simp only[XZ,simprocAttr,f8],by simp only[XZ,simprocAttr,f9],by simp only[XZ,simprocAttr];rw[e];rfl, ?_⟩⟩
   ·simp only[XZ,simprocAttr]
    rw[hmk]
    simp only[seg1,segS,List.append_assoc,List.cons_append,List.nil_append]
   ·exact Gr.new C6.wf (Jh _)
 intro fr7 S7 hI7
 obtain⟨f0,f4,f5,f6,f7,f8,f9,f10,G7⟩:=(hI _ _).1 hI7
 have C7:=C6.gr G7
 have r87:=G7.cells r86
 have r57:S7.row p5= .cells t5 [ofL tInt,ofL tList,ofL tOpt]:=G7.cells ((old (Jj r5)).trans r5)
 have fin:∀(fr':Fr) (S':St),fr' 0=v->fr' 4= .ptr p4 0->fr' 5= .slx p5 0 3 1 3->fr' 6=ofL (mkT (ksOf zs (i+1)))->fr' 7=ofL (wantS (ksOf zs (i+1)))->fr' 8= .ptr p8 0->fr' 9= .int .i64 ((i+1:Nat):Int)->Ch (fun r=>r=p8) S7 S'->(∃t,S'.row p8= .cells t (seenR (ksOf zs (i+1))))->∃j',j'<j/\L j' fr' S':=fun fr' S' b0 b4 b5 b6 b7 b8 b9 c d=>⟨min zs.length 12-(i+1),by omega,(hL _ _ _).2 ⟨i+1,by omega,b0,b4,b5,b6,b7,b8,b9,C7.trans c fun _ w=> .inl w,d⟩⟩
 have lens:tInt.length=3/\tList.length=9/\tOpt.length=9:=⟨rfl,rfl,rfl⟩
 have cwr:∀l:List V,Ch (fun r=>r=p8) S7 (S7.wr p8 u8 fun u=> .cells u l):=fun l=>(Ch.refl (fun r=>r=p8) C7.wf).wr (Jj r87) (by rw[r87];rfl) (.inl rfl) (Jh _)
 by_cases hin:k∈D
 ·rw[if_pos hin]at hwk
  rcases(by omega:k=0\/k=1\/k=2)with e|e|e
  all_goals
   rw[e]at hse hin f10
   rw[Jq,Jk];simp only[XY,simprocAttr,f8,f9,f10,r87,hin,hadd1]
   exact fin _ _ (by simp only[XZ,simprocAttr,f0]) (by simp only[XZ,simprocAttr,f4]) (by simp only[XZ,simprocAttr,f5]) (by simp only[XZ,simprocAttr,f6]) (by simp only[XZ,simprocAttr,f7,hwk]) (by simp only[XZ,simprocAttr,f8]) (by simp only[XZ,simprocAttr]) (cwr _) ⟨_,by rw[JM,if_pos rfl,hse];rfl⟩
 rw[if_neg hin]at hwk
 by_cases hw0:ws=[]
 ·rw[if_pos hw0]at hwk
  subst hw0
  rcases(by omega:k=0\/k=1\/k=2)with e|e|e
  all_goals
   rw[e]at hse hin f10 hwk
   rw[Jq,Jk];simp only[XY,simprocAttr,f8,f9,f10,r87,hin,hadd1]
   rw[Jq,Jk];simp only[XZ,simprocAttr,f5,f7,f8,f9,f10,r57,r87,hadd1]
   refine⟨by first|omega|decide|(simp;done), ?_⟩
   exact fin _ _ (by simp only[XZ,simprocAttr,f0]) (by simp only[XZ,simprocAttr,f4]) (by simp only[XZ,simprocAttr,f5]) (by simp only[XZ,simprocAttr,f6]) (by simp only[XZ,simprocAttr,hwk]<;>rfl) (by simp only[XZ,simprocAttr,f8]) (by simp only[XZ,simprocAttr]) (cwr _) ⟨_,by rw[JM,if_pos rfl,hse];rfl⟩
 ·rw[if_neg hw0]at hwk
  rcases(by omega:k=0\/k=1\/k=2)with e|e|e
  all_goals
   rw[e]at hse hin f10 hwk
   rw[Jq,Jk];simp only[XY,simprocAttr,f8,f9,f10,r87,hin,hadd1]
   rw[Jq,Jk];simp only[XZ,simprocAttr,f5,f7,f8,f9,f10,r57,r87,hw0,hadd1]
   refine⟨by omega,by rw[List.length_append];simp only[List.length_cons,List.length_nil];omega, ?_⟩
   exact fin _ _ (by simp only[XZ,simprocAttr,f0]) (by simp only[XZ,simprocAttr,f4]) (by simp only[XZ,simprocAttr,f5]) (by simp only[XZ,simprocAttr,f6]) (by simp only[XZ,simprocAttr,hwk,List.append_assoc]<;>rfl) (by simp only[XZ,simprocAttr,f8]) (by simp only[XZ,simprocAttr]) (cwr _) ⟨_,by rw[JM,if_pos rfl,hse];rfl⟩
end Go.Proofs.YtdapogfnhpbanaaGreatDoor
