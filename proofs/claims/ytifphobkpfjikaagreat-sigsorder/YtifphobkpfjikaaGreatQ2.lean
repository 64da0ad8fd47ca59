/- The parser: calls, one behind the other. The end of the text: two templates, of a dot and of nothing. The end of the text is read. The text is parsed. The schema's table, in a small memory. A template of a dot, one of nothing: by small memories. What was found in small memories, used. The check of the text, used. What the law's text calls: plain. The law. No condition. -/
import Derived.Test.YtifphobkpfjikaaGreatQ1
set_option linter.unusedVariables false
set_option linter.unusedSimpArgs false
set_option linter.unusedSectionVars false
set_option maxRecDepth 100000
namespace Go.Proofs.YtifphobkpfjikaaGreat
open Eva Go.RowKit
def NodeH (Sp S:St)(p:Pt)(mvv:V)(F:Str×Nat->St->V->Bool)(x:Str×Nat)(e:List V):Prop:=
 ∃(χ:Rn) (a:St) (r:Pt) (at_:Int) (u:Nat),e=ndN 9 at_ [] x.1 (.slx (χ r) 0 1 1 1)/\Hold χ a S/\F x a (.slx r 0 1 1 1)=true/\r.num<a.nx.num/\a.row .h= .dead u/\χ .h=p/\∀q:Pt,q≠ .h->a.row q≠ .none->Sp.row (χ q)= .none/\rowOf mvv≠some (χ q)
theorem NodeH.ch {Sp S S':St}{p:Pt}{mvv mv':V}{F:Str×Nat->St->V->Bool}{x:Str×Nat}{e:List V}(h:NodeH Sp S p mvv F x e)(C:Ch (fun r=>r=p\/rowOf mvv=some r) S S')(hv:∀q,rowOf mv'=some q->S.row q= .none):NodeH Sp S' p mv' F x e:=by
 obtain⟨χ,a,r,at_,u,e1,H,h2,h3,h4,h5,h6⟩:=h
 have live:∀q,a.row q≠ .none->S.row (χ q)≠ .none:=fun q hq=>Qn (H.row q (H.none hq)) hq
 refine⟨χ,a,r,at_,u,e1,H.keep' C.mono fun q hq hd=> ?_,h2,h3,h4,h5,fun q q0 hq=>⟨(h6 q q0 hq).1,fun e=>live q hq (hv _ e)⟩⟩
 have q0:q≠ .h:=fun e=>hd u (by rw[e];exact h4)
 refine C.same _ (live q hq) fun w=> ?_
 rcases w with w|w
 ·exact q0 (H.inj q .h (by rw[w,h5]))
 ·exact(h6 q q0 hq).2 w
theorem NodeH.gr {Sp S S':St}{p:Pt}{mvv:V}{F:Str×Nat->St->V->Bool}{x:Str×Nat}{e:List V}(h:NodeH Sp S p mvv F x e)(g:Gr S S'):NodeH Sp S' p mvv F x e:=by
 obtain⟨χ,a,r,at_,u,e1,H,h2⟩:=h
 exact⟨χ,a,r,at_,u,e1,H.gr g,h2⟩
def Nodes (Sp S:St)(p:Pt)(mvv:V)(F:Str×Nat->St->V->Bool)(xs:List (Str×Nat))(es:List (List V)):Prop:=es.length=xs.length/\∀i (h:i<es.length) (h':i<xs.length),NodeH Sp S p mvv F xs[i] es[i]
structure SegOk (F:Str×Nat->St->V->Bool) (x:Prt) (y:Str×Nat):Prop where
 act:x.1=true
 ok:actB (ofL x.2.1) (ofL [116,101,109,112,108,97,116,101]) 9 (ofL y.1) (pf1 (F y))=true
 id:pureB (tabT tabD) Q8 [ofL y.1] (.bool true)=true
theorem segC {Sp Sb S:St}{p:Pt}{mvv:V}{main:List (List V)}{F:Str×Nat->St->V->Bool}{xs:List (Str×Nat)}{x:Prt}{y:Str×Nat}(h:Ps Sb S p mvv main)(hsp:∀r,Sp.row r≠ .none->Sb.row r≠ .none)(hN:Nodes Sp S p mvv F xs main)(hx:SegOk F x y)(hn:main.length<10000):
  Does (tabT tabD) Kk [.ptr p 0, .agg [.bool true,ofL x.2.1, .int .i64 x.2.2]] S fun v S'=>v= .int .i64 0/\∃mv' e,Ps Sb S' p mv' (main++[e])/\Nodes Sp S' p mv' F (xs++[y]) (main++[e]):=by
 obtain⟨tp,rp⟩:=h.c
 refine actC hx.ok rfl rfl rfl h.g.wf (Jk rp) fun S1 χ a pv g eh Ha fr hx0 hpv=> ?_
 obtain⟨hpf,r,tr,l,u,rfl,hrl,har,hah⟩:=JmH hpv
 have h1:=h.gr g
 refine(placeT (nm:=y.1) (at_:=x.2.2) (pv:=mv χ (.slx r 0 1 1 1)) h1 rfl hn hx.id).mono fun v S' ⟨C,e0,mv',P',fm⟩=>⟨e0,mv',_,P', ?_⟩
 have hmr:∀q,rowOf mvv=some q->S.row q≠ .none:=fun q hq=>by
  obtain⟨_,t,c⟩:=h.m.row hq
  exact Jk c
 have pos:∀q:Pt,q≠ .h->1<=q.num:=fun q e=>by
  cases hq:q.num with
  |zero=>exact absurd (Pt.num_inj (by rw[hq];rfl)) e
  |succ n=>omega
 have new:NodeH Sp S1 p mvv F y (ndN 9 x.2.2 [] y.1 (mv χ (.slx r 0 1 1 1))):=by
  refine⟨χ,a,r,x.2.2,u,by simp only[mv],Ha,hpf,hrl,hah,eh,fun q q0 hq=> ?_⟩
  have f:=fr q (pos q q0)
  refine⟨Classical.byContradiction fun c=> ?_,fun e=>hmr _ e f⟩
  exact(by rw[h.g.same _ (hsp _ c)];exact hsp _ c:S.row (χ q)≠ .none) f
 refine⟨by simp[hN.1],fun i hi hi'=> ?_⟩
 by_cases c:i<main.length
 ·have c':i<xs.length:=by rw[<-hN.1];exact c
  rw[List.getElem_append_left c,List.getElem_append_left c']
  exact((hN.2 i c c').gr g).ch C fm
 ·have c1:i=main.length:=by
   rw[List.length_append]at hi
   simp at hi
   omega
  subst c1
  have e2:(xs++[y])[main.length]=y:=by simp[hN.1]
  rw[List.getElem_append_right (Nat.le_refl _),e2]
  simp only[Nat.sub_self,List.getElem_cons_zero]
  exact new.ch C fm
def SegsOk (F:Str×Nat->St->V->Bool):List Prt->List (Str×Nat)->Prop
 |[],[]=>True
 |x::r,y::t=>SegOk F x y/\SegsOk F r t
 |_,_=>False
theorem segsC {Sp Sb:St}{p:Pt}{F:Str×Nat->St->V->Bool}(hsp:∀r,Sp.row r≠ .none->Sb.row r≠ .none){tail:List Prt}{Q:St->Prop}:∀{ps:List Prt} {ys:List (Str×Nat)} {S:St} {mvv:V} {main:List (List V)} {xs:List (Str×Nat)},Ps Sb S p mvv main->Nodes Sp S p mvv F xs main->SegsOk F ps ys->main.length+ps.length<10000->
  (∀S' mv' main',Ps Sb S' p mv' main'->Nodes Sp S' p mv' F (xs++ys) main'->StepsD Sb p tail S' Q)->StepsD Sb p (ps++tail) S Q
 |[],[],S,mvv,main,xs,h,hN,_,_,k=>k S mvv main h (by simpa using hN)
 | x::r,y::t,S,mvv,main,xs,h,hN,hs,hn,k=>by
   obtain⟨h1,h2⟩:=hs
   simp only[List.length_cons]at hn
   rw[List.cons_append,StepsD,h1.act]
   refine(segC h hsp hN h1 (by omega)).mono fun v S' ⟨e0,mv',e,P',N'⟩=>⟨e0,P'.g.wf,fun q hq=>by rw[P'.g.same q hq,h.g.same q hq], ?_⟩
   exact segsC hsp P' N' h2 (by simp;omega) fun S2 mv2 m2 P2 N2=>k S2 mv2 m2 P2 (by simpa using N2)
 |[],_::_,_,_,_,_,_,_,hs,_,_=>hs.elim
 |_::_,[],_,_,_,_,_,_,hs,_,_=>hs.elim
abbrev sDef :V:=ofL [100,101,102,105,110,101]
abbrev sEnd :V:=ofL [101,110,100]
abbrev sDt :V:=ofL [100,101,102,105,110,101,32,34,116,34]
abbrev sDu :V:=ofL [100,101,102,105,110,101,32,34,117,34]
abbrev sDot :V:=ofL [46]
def ndV (k:Int)(i:Nat)(name pv:V):V:= .agg [.int .i64 k, .opq i, .str 0 0,name,pv, .snil, .snil, .bool false, .snil]
noncomputable def plc (pp:Pt)(w:V)(k:Int)(i:Nat)(name pv:V)(b:St):St:=match run (tabT tabD) 60 Jp [.ptr pp 0,w,ndV k i name pv] b with
 |some (.int .i64 0,b')=>b'
 |_=>b
theorem Jrn :actB sDt sDef 9 (ofL [116]) pfNil=true:=by kernel_rfl
theorem Jro :actB sDu sDef 9 (ofL [117]) pfNil=true:=by kernel_rfl
theorem Jjn :actB sEnd sEnd 2 (ofL []) pfNil=true:=by kernel_rfl
def pp1 :Pt:=(St.start.new fun t=> .dead t).nx
def b0n (w:V):St:=(St.start.new fun t=> .dead t).new fun t=> .cells t [.snil,w, .snil, .int .i64 0]
noncomputable def b1 (w:V):St:=plc pp1 sDef 9 0 (ofL [116]) .snil (b0n w)
noncomputable def b2 (w:V):St:=plc pp1 (ofL []) 2 1 (ofL []) (.slx (b1 w).nx 0 1 1 1) ((b1 w).new fun t=> .dead t)
noncomputable def b3 (w:V):St:=plc pp1 sEnd 2 2 (ofL []) .snil (b2 w)
noncomputable def b4 (w:V):St:=plc pp1 sDef 9 3 (ofL [117]) .snil (b3 w)
noncomputable def b5 (w:V):St:=plc pp1 sEnd 2 4 (ofL []) .snil (b4 w)
structure TailOk (w:V):Prop where
 h0:inT (b0n w).nx.num (b0n w).h=true
 r1:run (tabT tabD) 60 Jp [.ptr pp1 0,sDef,ndV 9 0 (ofL [116]) .snil] (b0n w)=some (.int .i64 0,b1 w)
 i1:inT (b1 w).nx.num (b1 w).h=true
 s1:inT ((b1 w).new fun t=> .dead t).nx.num ((b1 w).new fun t=> .dead t).h=true
 r2:run (tabT tabD) 60 Jp [.ptr pp1 0,ofL [],ndV 2 1 (ofL []) (.slx (b1 w).nx 0 1 1 1)] ((b1 w).new fun t=> .dead t)=some (.int .i64 0,b2 w)
 i2:inT (b2 w).nx.num (b2 w).h=true
 r3:run (tabT tabD) 60 Jp [.ptr pp1 0,sEnd,ndV 2 2 (ofL []) .snil] (b2 w)=some (.int .i64 0,b3 w)
 i3:inT (b3 w).nx.num (b3 w).h=true
 r4:run (tabT tabD) 60 Jp [.ptr pp1 0,sDef,ndV 9 3 (ofL [117]) .snil] (b3 w)=some (.int .i64 0,b4 w)
 i4:inT (b4 w).nx.num (b4 w).h=true
 r5:run (tabT tabD) 60 Jp [.ptr pp1 0,sEnd,ndV 2 4 (ofL []) .snil] (b4 w)=some (.int .i64 0,b5 w)
 i5:inT (b5 w).nx.num (b5 w).h=true
 d0:(b0n w).row .h= .dead 0
 d1:(b1 w).row .h= .dead 0
 d2:(b2 w).row .h= .dead 0
 d3:(b3 w).row .h= .dead 0
 d4:(b4 w).row .h= .dead 0
 d5:(b5 w).row .h= .dead 0
 e2:(b2 w).row (.b (.a .h))= .dead 7
 e3:(b3 w).row (.b (.a .h))= .dead 7
 e4:(b4 w).row (.b (.a .h))= .dead 7
 e5:(b5 w).row (.b (.a .h))= .dead 7
 t1:(b1 w).t=7
 n1:(b1 w).nx= .b (.a .h)
 n2:(b2 w).nx.num=11
 n3:Nat.ble 11 (b3 w).nx.num=true
 n34:Nat.ble (b3 w).nx.num (b4 w).nx.num=true
 n45:Nat.ble (b4 w).nx.num (b5 w).nx.num=true
 f1:fullB (b1 w) 6=true
 p5:(b5 w).row (.a .h)= .cells 34 [.sl (.b (.d .h)) 0 0 12,w, .sl (.b (.a (.a .h))) 0 2 2, .int .i64 0]
 l5:(b5 w).row (.b (.a (.a .h)))= .cells 33 [ofL [116], .sl (.b (.b .h)) 0 1 9,ofL [117], .snil]
 o5:(b5 w).row (.b (.b .h))= .cells 12 [.int .i64 2, .opq 1,ofL [],ofL [], .slx (.b (.a .h)) 0 1 1 1, .snil, .snil, .bool false, .snil]
theorem Jph (n:Nat):TailOk (.sl .h 0 n 9):=⟨by kernel_rfl,by kernel_rfl,by kernel_rfl,by kernel_rfl,by kernel_rfl,by kernel_rfl,by kernel_rfl,by kernel_rfl,by kernel_rfl,by kernel_rfl,by kernel_rfl,by kernel_rfl,by kernel_rfl,by kernel_rfl,by kernel_rfl,by kernel_rfl,by kernel_rfl,by kernel_rfl,by kernel_rfl,by kernel_rfl,by kernel_rfl,by kernel_rfl,by kernel_rfl,by kernel_rfl,by kernel_rfl,by kernel_rfl,by kernel_rfl,by kernel_rfl,by kernel_rfl,by kernel_rfl,by kernel_rfl,by kernel_rfl⟩
theorem JmJ (n:Nat):TailOk (.slx .h 0 n 9 n):=⟨by kernel_rfl,by kernel_rfl,by kernel_rfl,by kernel_rfl,by kernel_rfl,by kernel_rfl,by kernel_rfl,by kernel_rfl,by kernel_rfl,by kernel_rfl,by kernel_rfl,by kernel_rfl,by kernel_rfl,by kernel_rfl,by kernel_rfl,by kernel_rfl,by kernel_rfl,by kernel_rfl,by kernel_rfl,by kernel_rfl,by kernel_rfl,by kernel_rfl,by kernel_rfl,by kernel_rfl,by kernel_rfl,by kernel_rfl,by kernel_rfl,by kernel_rfl,by kernel_rfl,by kernel_rfl,by kernel_rfl,by kernel_rfl⟩
theorem JmK :TailOk .snil:=⟨by kernel_rfl,by kernel_rfl,by kernel_rfl,by kernel_rfl,by kernel_rfl,by kernel_rfl,by kernel_rfl,by kernel_rfl,by kernel_rfl,by kernel_rfl,by kernel_rfl,by kernel_rfl,by kernel_rfl,by kernel_rfl,by kernel_rfl,by kernel_rfl,by kernel_rfl,by kernel_rfl,by kernel_rfl,by kernel_rfl,by kernel_rfl,by kernel_rfl,by kernel_rfl,by kernel_rfl,by kernel_rfl,by kernel_rfl,by kernel_rfl,by kernel_rfl,by kernel_rfl,by kernel_rfl,by kernel_rfl,by kernel_rfl⟩
attribute [irreducible] b1 b2 b3 b4 b5
structure TEnd (S S':St) (p:Pt) (w:V) (a1:Int) (Fd:St->V->Bool) (φ:Rn):Prop where
 mono:Mono S S'
 keep:∀s,S.row s≠ .none->s≠p->S'.row s=S.row s
 ex:∃(ψ χ:Rn) (a:St) (r:Pt),Hold ψ (b5 w) S'/\ψ .h=φ .h/\ψ (.a .h)=p/\ψ.s=φ.s/\(∀q:Pt,2<=q.num->(b5 w).row q≠ .none->S.row (ψ q)= .none)/\Hold χ a S'/\Fd a (.slx r 0 1 1 1)=true/\ψ (.b (.a .h))=χ r/\r.num<a.nx.num/\χ.s 0= .int .i64 a1/\χ .h=p/\(∃u,a.row .h= .dead u)/\(∀q:Pt,1<=q.num->a.row q≠ .none->S.row (χ q)= .none)/\∀q':Pt,a.row q'≠ .none->ψ (.b (.b .h))≠χ q'
theorem num0 {q:Pt}(h:q.num=0):q= .h:=Pt.num_inj h
theorem Jjo {q:Pt}(h:q.num<2):q= .h\/q= .a .h:=by
 rcases(by omega:q.num=0\/q.num=1)with e|e
 ·exact .inl (Pt.num_inj e)
 ·exact .inr (Pt.num_inj e)
theorem TS.nx {W:Pt->Prop}{n0 n:Nat}{S0 S:St}{φ:Rn}{b:St}(T:TS W n0 S0 φ b S)(h:b.nx.num=n):n0<=n:=h▸T.le
theorem tailC {Sb S:St}{p:Pt}{w:V}{c0 c1 c2 c3 c4:Nat}{Fd:St->V->Bool}{φ:Rn}{Q:St->Prop}(H:Hold φ (b0n w) S)(hp:φ (.a .h)=p)(hT:TailOk w)(h0:φ.s 0= .int .i64 c0)(h1:φ.s 1= .int .i64 c1)(h2:φ.s 2= .int .i64 c2)(h3:φ.s 3= .int .i64 c3)(h4:φ.s 4= .int .i64 c4)
  (hdot:actB sDot (ofL []) 2 (ofL []) (pf1 Fd)=true) (hSb:∀q,Sb.row q≠ .none->S.row q≠ .none/\q≠p) (k:∀S',TEnd S S' p w c1 Fd φ->Q S'):StepsD Sb p (tl5 c0 c1 c2 c3 c4) S Q:=by
 have hb0:(b0n w).nx.num=2:=rfl
 have T0:TS (fun s=>s=p) 2 S φ (b0n w) S:=TS.start H
 have pr0:(b0n w).row pp1≠ .none:=by intro e;cases e
 unfold tl5
 rw[StepsD]
 have st1:=stepT (i:=0) (pp:=pp1) H pr0 h0 Jrn rfl rfl rfl hT.r1 hT.i1
 rw[show φ pp1=p from hp]at st1
 refine st1.mono fun v S1 ⟨e,F1,ψ1,ag1,H1,fr1⟩=>⟨e,H1.wf, ?_⟩
 clear st1
 have n1:(b1 w).nx.num=6:=by rw[hT.n1];rfl
 have low:∀{b b':St} {ψ:Rn} {d:Nat},b.row .h= .dead d->b'.row .h= .dead d->ψ (.a .h)=p->∀q:Pt,q.num<2->b.row q≠ .none->b'.row q≠b.row q->ψ q=p:=fun{b b' ψ d} x y z q hq _ hc=>by
  rcases Jjo hq with rfl|rfl
  ·exact absurd (y.trans x.symm) hc
  ·exact z
 have T1:TS (fun s=>s=p) 2 S ψ1 (b1 w) S1:=T0.next F1 (by rw[hb0,n1];decide) ag1 H1 fr1 (low hT.d0 hT.d1 hp)
 have kSb:∀{φ ψ:Rn} {b b' S1 S2:St},TS (fun s=>s=p) 2 S φ b S1->TS (fun s=>s=p) 2 S ψ b' S2->∀q,Sb.row q≠ .none->S2.row q=S1.row q:=fun{φ ψ b b' S1 S2} A B q hq=>by rw[B.keep q (hSb q hq).1 (hSb q hq).2,A.keep q (hSb q hq).1 (hSb q hq).2]
 have z1:ψ1 (.a .h)=p:=by rw[ag1.f _ (by rw[hb0];decide),hp]
 have y1:ψ1 .h=φ .h:=ag1.f _ (by rw[hb0];decide)
 have x1:ψ1.s=φ.s:=ag1.s
 refine⟨kSb T0 T1, ?_⟩
 rw[StepsD]
 have pr:∀{φ ψ:Rn} {b b' S1 S2:St},True:=trivial
 have live1:∀q:Pt,q.num<6->(b1 w).row q≠ .none:=YW hT.f1
 have st2:=stepP (i:=1) (pp:=pp1) (pf:=Fd) H1 (live1 pp1 (by decide)) (by rw[x1];exact h1) hdot rfl rfl rfl hT.s1 hT.r2 hT.i2 (by rw[hT.n1,hT.t1];exact hT.e2)
 rw[show ψ1 pp1=p from z1]at st2
 refine st2.mono fun v S2 ⟨e,F2,ψ2,χ,a,r,ag2,H2,Ha,hF,er,hr,hx0,eh,hu,fx,fr2,fd⟩=>⟨e,H2.wf, ?_⟩
 clear st2
 rw[n1]at fr2 fd ag2
 rw[hT.n1]at er
 have T2:TS (fun s=>s=p) 2 S ψ2 (b2 w) S2:=T1.next F2 (by rw[n1,hT.n2];decide) (by rw[n1];exact ag2) H2 (by rw[n1];exact fr2) (low hT.d1 hT.d2 z1)
 refine⟨kSb T1 T2, ?_⟩
 have z2:ψ2 (.a .h)=p:=by rw[ag2.f _ (by decide),z1]
 have y2:ψ2 .h=φ .h:=by rw[ag2.f _ (by decide),y1]
 have x2:ψ2.s=φ.s:=by rw[ag2.s,x1]
 obtain⟨W,hW⟩:∃W:Pt->Prop,∀s,W s<->∃q:Pt,q.num<11/\q≠ .h/\q.num≠6/\ψ2 q=s:=⟨_,fun _=>Iff.rfl⟩
 have U2:TS W 11 S2 ψ2 (b2 w) S2:=by have:=TS.start (W:=W) H2;rwa [hT.n2]at this
 have lowU:∀{b b':St} {ψ:Rn},b.row .h= .dead 0->b'.row .h= .dead 0->b.row (.b (.a .h))= .dead 7->b'.row (.b (.a .h))= .dead 7->Agr 11 ψ2 ψ->∀q:Pt,q.num<11->b.row q≠ .none->b'.row q≠b.row q->W (ψ q):=fun{b b' ψ} x y x' y' g q hq _ hc=>by
  refine(hW _).2 ⟨q,hq,fun e=> ?_,fun e=> ?_,(g.f q hq).symm⟩
  ·rw[e,x,y]at hc;exact hc rfl
  ·have:q= .b (.a .h):=Pt.num_inj e
   rw[this,x',y']at hc;exact hc rfl
 have hxW:∀q':Pt,q'≠ .h->a.row q'≠ .none->¬W (χ q'):=fun q' h0 hq' w=>by
  obtain⟨q,q1,q2,q3,q4⟩:=(hW _).1 w
  have p1:1<=q'.num:=by
   cases h:q'.num with
   |zero=>exact absurd (num0 h) h0
   |succ n=>omega
  by_cases c:q.num<6
  ·have l1:=live1 q c
   have:=Qn (H1.row q (H1.none l1)) l1
   rw[<-ag2.f q c,q4]at this
   exact this (fx q' p1)
  ·exact fd q q' (by omega) hq' q4
 rw[StepsD]
 have live2:(b2 w).row pp1≠ .none:=fun e=>by
  have:=H2.row pp1 (by rw[hT.n2];decide)
  rw[e]at this
  have this:S2.row (ψ2 pp1)= .none:=this
  rw[show ψ2 pp1=p from z2]at this
  have l0:=Qn (H.row pp1 (by rw[hb0];decide)) pr0
  rw[show φ pp1=p from hp]at l0
  exact T2.live _ l0 this
 have st3:=stepT (i:=2) (pp:=pp1) H2 live2 (by rw[x2];exact h2) Jjn rfl rfl rfl hT.r3 hT.i3
 rw[show ψ2 pp1=p from z2]at st3
 refine st3.mono fun v S3 ⟨e,F3,ψ3,ag3,H3,fr3⟩=>⟨e,H3.wf, ?_⟩
 clear st3
 have l23:(b2 w).nx.num<=(b3 w).nx.num:=by rw[hT.n2];exact Nat.le_of_ble_eq_true hT.n3
 have T3:=T2.next F3 l23 ag3 H3 fr3 (low hT.d2 hT.d3 z2)
 have U3:=U2.next F3 l23 ag3 H3 fr3 (lowU hT.d2 hT.d3 hT.e2 hT.e3 (Agr.refl _ _))
 rw[hT.n2]at ag3
 refine⟨kSb T2 T3, ?_⟩
 have z3:ψ3 (.a .h)=p:=by rw[ag3.f _ (by decide),z2]
 have x3:ψ3.s=φ.s:=by rw[ag3.s,x2]
 have l0:=Qn (H.row pp1 (by rw[hb0];decide)) pr0
 rw[show φ pp1=p from hp]at l0
 have liveK:∀{b:St} {ψ:Rn} {S2:St},TS (fun s=>s=p) 2 S ψ b S2->ψ (.a .h)=p->b.row pp1≠ .none:=fun{b ψ S2} T z e=>by
  have:=T.H.row pp1 (by have:=T.le;show 1<_;omega)
  rw[e]at this
  have this:S2.row (ψ pp1)= .none:=this
  rw[show ψ pp1=p from z]at this
  exact T.live _ l0 this
 rw[StepsD]
 have st4:=stepT (i:=3) (pp:=pp1) H3 (liveK T3 z3) (by rw[x3];exact h3) Jro rfl rfl rfl hT.r4 hT.i4
 rw[show ψ3 pp1=p from z3]at st4
 refine st4.mono fun v S4 ⟨e,F4,ψ4,ag4,H4,fr4⟩=>⟨e,H4.wf, ?_⟩
 clear st4
 have l34:=Nat.le_of_ble_eq_true hT.n34
 have T4:=T3.next F4 l34 ag4 H4 fr4 (low hT.d3 hT.d4 z3)
 have U4:=U3.next F4 l34 ag4 H4 fr4 (lowU hT.d3 hT.d4 hT.e3 hT.e4 ag3)
 have g4:Agr 11 ψ2 ψ4:=ag3.trans ag4 (by have:=l23;rw[hT.n2]at this;exact this)
 refine⟨kSb T3 T4, ?_⟩
 have z4:ψ4 (.a .h)=p:=by rw[g4.f _ (by decide),z2]
 have x4:ψ4.s=φ.s:=by rw[g4.s,x2]
 rw[StepsD]
 have st5:=stepT (i:=4) (pp:=pp1) H4 (liveK T4 z4) (by rw[x4];exact h4) Jjn rfl rfl rfl hT.r5 hT.i5
 rw[show ψ4 pp1=p from z4]at st5
 refine st5.mono fun v S5 ⟨e,F5,ψ5,ag5,H5,fr5⟩=>⟨e,H5.wf, ?_⟩
 clear st5
 have l45:=Nat.le_of_ble_eq_true hT.n45
 have T5:=T4.next F5 l45 ag5 H5 fr5 (low hT.d4 hT.d5 z4)
 have U5:=U4.next F5 l45 ag5 H5 fr5 (lowU hT.d4 hT.d5 hT.e4 hT.e5 g4)
 have g5:Agr 11 ψ2 ψ5:=g4.trans ag5 (by have:=l23;rw[hT.n2]at this;exact Nat.le_trans this l34)
 refine⟨kSb T4 T5, ?_⟩
 rw[StepsD]
 refine k S5 ⟨T5.mono,fun s a b=>T5.keep s a b,ψ5,χ,a,r,H5,by rw[g5.f _ (by decide),y2],by rw[g5.f _ (by decide),z2],by rw[g5.s,x2],T5.fresh, ?_,hF,by rw[g5.f _ (by decide),er],hr,hx0,eh,hu,fun q hq hn=> ?_,fun q' hq'=> ?_⟩
 ·obtain⟨u,hu⟩:=hu
  refine Ha.keep' U5.mono fun q hq hd=> ?_
  have q0:q≠ .h:=fun e=>hd u (by rw[e];exact hu)
  exact U5.keep _ (Qn (Ha.row q (Ha.none hq)) hq) (hxW q q0 hq)
 ·exact Classical.byContradiction fun c=>T1.live _ c (fx q hq)
 ·rw[g5.f _ (by decide)]
  exact fd _ q' (by decide) hq'
theorem startB {Sb S:St}{p q0:Pt}{mvv:V}{main:List (List V)}(h:Ps Sb S p mvv main)(hq:Sb.row q0≠ .none)(s:Nat->V)(hs:∀i,∃k n,s i= .int k n):
  ∃(φ:Rn) (w:V),Hold φ (b0n w) S/\φ (.a .h)=p/\φ.s=s/\TailOk w/\∀ψ:Rn,ψ .h=φ .h->mv ψ w=mvv:=by
 obtain⟨tp,rp⟩:=h.c
 have hw:=h.g.wf
 have key:∀(r:Pt) (w:V),S.row r≠ .none->r≠p->TailOk w->(∀ψ:Rn,ψ .h=r->mv ψ w=mvv)->inV 1 w=true->∃(φ:Rn) (w:V),Hold φ (b0n w) S/\φ (.a .h)=p/\φ.s=s/\TailOk w/\∀ψ:Rn,ψ .h=φ .h->mv ψ w=mvv:=fun r w hr hrp hT hm hin=>by
  have H0:=Hold.start (S:=S) s hs hw
  obtain⟨φ1,ag1,e1,H1⟩:=H0.add (q:=r) (f:=fun t=> .dead t) (fun u=>⟨rfl,by intro e;cases e⟩) hr (fun p h=>absurd h (Nat.not_lt_zero _)) ⟨hr,trivial⟩ rfl rfl
  have e1:φ1 .h=r:=e1
  obtain⟨φ2,ag2,e2,H2⟩:=H1.add (q:=p) (f:=fun t=> .cells t [.snil,w, .snil, .int .i64 0]) (Jh _) (Jk rp) (fun q hq=>by
   have:q= .h:=num0 (by have:q.num<1:=hq;omega)
   rw[this,e1];exact hrp) ⟨tp,by rw[rp];simp only[List.map_cons,List.map_nil,mv,hm φ1 e1],trivial⟩ (by
   show inVs 1 [.snil,w, .snil, .int .i64 0]=true
   simp only[inVs,inV,hin];rfl) hT.h0
  refine⟨φ2,w,H2,e2,by rw[ag2.s,ag1.s],hT,fun ψ e=>hm ψ ?_⟩
  rw[e,ag2.f .h (by decide),e1]
 rcases h.m.2 with⟨e,_⟩|⟨r,t,e1,e2,e3⟩
 ·refine key q0 .snil (by rw[h.g.same q0 hq];exact hq) (fun e=>hq (by rw[e];exact h.pn)) JmK (fun ψ _=>by rw[e];simp only[mv]) rfl
 ·have hrp:r≠p:=fun e=>h.am (by rcases e3 with e3|e3<;>(rw[e3,e];rfl))
  rcases e3 with e3|e3
  ·exact key r (.sl .h 0 main.length 9) (Jk e2) hrp (Jph _) (fun ψ e=>by rw[e3];simp only[mv,e]) rfl
  ·exact key r (.slx .h 0 main.length 9 main.length) (Jk e2) hrp (JmJ _) (fun ψ e=>by rw[e3];simp only[mv,e]) rfl
def NodeE (Sp S:St)(F:Str×Nat->St->V->Bool)(x:Str×Nat)(e:List V):Prop:=
 ∃(χ:Rn) (a:St) (r:Pt) (at_:Int),e=ndN 9 at_ [] x.1 (.slx (χ r) 0 1 1 1)/\Hold χ a S/\F x a (.slx r 0 1 1 1)=true/\r.num<a.nx.num/\∀q:Pt,a.row q≠ .none->Sp.row (χ q)= .none
def dotE (at_:Int)(pv:V):List V:=[.int .i64 2, .int .i64 at_,ofL [],ofL [],pv, .snil, .snil, .bool false, .snil]
structure ParseR (Sp S:St) (F:Str×Nat->St->V->Bool) (Fd:St->V->Bool) (xs:List (Str×Nat)) (mvv bt:V):Prop where
 main:∃es,SlAt (fun _=>True) S mvv 9 es/\es.length=xs.length/\∀i (h:i<es.length) (h':i<xs.length),NodeE Sp S F xs[i] es[i]
 dot:∃(χ:Rn) (a:St) (r rb:Pt) (at_:Int),bt= .sl rb 0 1 9/\(∃t,S.row rb= .cells t (dotE at_ (.slx (χ r) 0 1 1 1)))/\Hold χ a S/\Fd a (.slx r 0 1 1 1)=true/\r.num<a.nx.num/\χ.s 0= .int .i64 at_/\Sp.row rb= .none/\∀q:Pt,a.row q≠ .none->Sp.row (χ q)= .none/\rb≠χ q
theorem ParseR.fz {Sp S S':St}{F:Str×Nat->St->V->Bool}{Fd:St->V->Bool}{xs:List (Str×Nat)}{mvv bt:V}(h:ParseR Sp S F Fd xs mvv bt)(g:Fz S S'):ParseR Sp S' F Fd xs mvv bt:=by
 obtain⟨⟨es,h1,h2,h3⟩,χ,a,r,rb,at_,d1,⟨t,d2⟩,d3,d4⟩:=h
 refine⟨⟨es, ?_,h2,fun i a b=> ?_⟩,χ,a,r,rb,at_,d1,⟨t,by rw[g.same rb (Jk d2),d2]⟩,d3.fz g,d4⟩
 ·refine⟨h1.1, ?_⟩
  rcases h1.2 with h|⟨r,o,k1,k2,l,k3,k4⟩
  ·exact .inl h
  ·refine .inr ⟨r,o,k1,k2,l, ?_,k4⟩
   rcases k3 with⟨t,k3⟩|k3
   ·exact .inl ⟨t,by rw[g.same r (Jk k3),k3]⟩
   ·exact .inr (by rw[g.same r (by rw[k3];exact fun e=>by cases e),k3])
 ·obtain⟨χ,a,r,at_,e1,H,h⟩:=h3 i a b
  exact⟨χ,a,r,at_,e1,H.fz g,h⟩
theorem parseO {ks:List Nat}{xs:List (Str×Nat)}{F:Str×Nat->St->V->Bool}{Fd:St->V->Bool}{S:St}{q0:Pt}(hw:WF S)(hq:S.row q0≠ .none)(hlen:ks.length<=20)(hF:SegsOk F (partsK ks 0) xs)(hd:actB sDot (ofL []) 2 (ofL []) (pf1 Fd)=true):
  Does (tabT tabD) ku [ofL (mkT ks++tlS)] S fun v S'=>Gr S S'/\∃lv mvv bt,v= .tup [lv, .int .i64 0, .int .i64 0]/\SlAt (fun r=>S.row r= .none) S' lv 2 [[ofL [],mvv],[ofL [116],bt],[ofL [117], .snil]]/\ParseR S S' F Fd xs mvv bt:=by
 refine Does.gr tabM hw ((parseC (R:=fun S2 mvv tp=>∃bt,tp=[[ofL [116],bt],[ofL [117], .snil]]/\ParseR S S2 F Fd xs mvv bt/\∀r,S.row r≠ .none->S2.row r≠ .none) hw (Jka hlen) (by rw[List.length_append,jV];simp[tl5];omega) ?_).mono ?_)
 rotate_left
 ·rintro v S' ⟨same,mvv,tp,S2,lv,⟨bt,rfl,hR,h2⟩,g,rfl,hl⟩
  exact⟨same,lv,mvv,bt,rfl,hl.imp fun r e n=>⟨Classical.byContradiction fun c=>h2 r c e,rfl⟩,hR.fz (Fz.ofGr g)⟩
 intro Sb S1 p gb g1 pn rp
 have hsp:∀r,S.row r≠ .none->Sb.row r≠ .none:=fun r e=>by rw[gb.same r e];exact e
 refine segsC (Sp:=S) hsp (xs:=[]) (main:=[]) ⟨g1,pn,rp,SlF.nil _ _ _,fun e=>by cases e⟩ ⟨rfl,fun i h=>absurd h (Nat.not_lt_zero _)⟩ hF (by rw[jV];simp;omega) ?_
 intro S2 mvv main P N
 rw[List.nil_append]at N
 obtain⟨s,hs⟩:∃s:Nat->V,∀i,s i= .int .i64 (match i with
  |0=>(19*ks.length:Nat)
  |1=>(19*ks.length+14:Nat)
  |2=>(19*ks.length+19:Nat)
  |3=>(19*ks.length+26:Nat)
  |_=>(19*ks.length+40:Nat)):=⟨_,fun _=>rfl⟩
 obtain⟨φ,w,H,hp,es,hT,hm⟩:=startB P (hsp q0 hq) s fun i=>⟨_,_,hs i⟩
 have sb:∀r,Sb.row r≠ .none->S2.row r≠ .none:=fun r e=>by rw[P.g.same r e];exact e
 have nP:S.row p= .none:=Classical.byContradiction fun c=>hsp p c pn
 refine tailC (Sb:=Sb) H hp hT (by rw[es];exact hs 0) (by rw[es];exact hs 1) (by rw[es];exact hs 2) (by rw[es];exact hs 3) (by rw[es];exact hs 4) hd (fun q hq=>⟨sb q hq,fun e=>hq (by rw[e];exact pn)⟩) ?_
 intro S3 T
 obtain⟨ψ,χ,a,r,H3,y3,z3,x3,fr,Ha,hFd,er,hr,hx0,eh,⟨u,hu⟩,fx,fd⟩:=T.ex
 have big:23<=(b5 w).nx.num:=by
  have:=H3.none (p:= .b (.a (.a .h))) (by rw[hT.l5];exact fun e=>by cases e)
  exact this
 have rowP:=H3.row (.a .h) (H3.none (by rw[hT.p5];exact fun e=>by cases e))
 rw[hT.p5,z3]at rowP
 obtain⟨tp,rowP,_⟩:=rowP
 have rowL:=H3.row (.b (.a (.a .h))) (H3.none (by rw[hT.l5];exact fun e=>by cases e))
 rw[hT.l5]at rowL
 obtain⟨tl,rowL,_⟩:=rowL
 have od:(b5 w).row (.b (.b .h))≠ .none:=by rw[hT.o5];exact fun e=>by cases e
 have rowO:=H3.row (.b (.b .h)) (H3.none od)
 rw[hT.o5]at rowO
 obtain⟨to,rowO,_⟩:=rowO
 have cl:∀s:Str,mv ψ (ofL s)=ofL s:=fun s=>JC ψ _ rfl
 simp only[List.map_cons,List.map_nil,mv,hm ψ y3]at rowP
 simp only[List.map_cons,List.map_nil,mv,cl]at rowL
 simp only[List.map_cons,List.map_nil,mv,cl,er,x3,es,hs 1]at rowO
 have hsc:mvv.sc=true:=P.m.at.sc
 have old:∀s,S2.row s= .none->S.row s= .none:=fun s e=>Classical.byContradiction fun c=>sb s (hsp s c) e
 refine⟨mvv,[[ofL [116], .sl (ψ (.b (.b .h))) 0 1 9],[ofL [117], .snil]],⟨H3.wf,⟨tp,_,_,rowP,rfl, ?_⟩,hsc,by simp,by simp,fun e he=> ?_⟩,_,rfl,⟨⟨main, ?_,N.1,fun i h h'=> ?_⟩,χ,a,r,_,_,rfl,⟨to,rowO⟩,Ha,hFd,hr,hx0,old _ (fr _ (by decide) od),fun q hq=> ?_⟩,fun r e=> ?_⟩
 ·refine⟨fun e he=> ?_, .inr ⟨_,0,trivial, .inl rfl,_, .inl ⟨tl,rowL⟩,by simp,rfl⟩⟩
  rcases List.mem_cons.1 he with rfl|he
  ·rfl
  ·rw[List.mem_singleton.1 he];rfl
 ·rcases List.mem_cons.1 he with rfl|he
  ·rfl
  ·rw[List.mem_singleton.1 he];rfl
 ·refine(P.m.keep (st':=S3) fun q hq=>T.keep q (P.m.some hq) fun e=>P.am (by rw[hq,e])).at.imp fun _ _ _=>⟨trivial,rfl⟩
 ·obtain⟨χ,a,r,at_,u,e1,Hn,f1,f2,f3,f4,f5⟩:=N.2 i h h'
  refine⟨χ,a,r,at_,e1,Hn.keep' T.mono fun q hq hd=> ?_,f1,f2,fun q hq=> ?_⟩
  ·have q0:q≠ .h:=fun e=>hd u (by rw[e];exact f3)
   exact T.keep _ (Qn (Hn.row q (Hn.none hq)) hq) fun e=>q0 (Hn.inj q .h (by rw[e,f4]))
  ·by_cases q0:q= .h
   ·rw[q0,f4];exact nP
   ·exact(f5 q q0 hq).1
 ·by_cases q0:q= .h
  ·exact⟨by rw[q0,eh];exact nP,fd q hq⟩
  ·refine⟨old _ (fx q ?_ hq),fd q hq⟩
   cases h:q.num with
   |zero=>exact absurd (num0 h) q0
   |succ n=>omega
 ·rw[T.keep r (sb r (hsp r e)) fun e1=>e (by rw[e1];exact nP)]
  exact sb r (hsp r e)
def names3 :List V:=[ofL [97],ofL [98],ofL [99]]
def kids3 :List V:=[.int .i64 2,ofL [], .snil, .snil, .int .i64 3,ofL [], .snil, .snil, .int .i64 1,ofL [], .snil, .snil]
def aS :St:=(St.start.new fun t=> .cells t names3).new fun t=> .cells t kids3
def schV :V:= .agg [.int .i64 7,ofL [], .slx .h 0 3 1 3, .slx (.a .h) 0 3 4 3, .snil, .snil]
noncomputable def aT :St:=match run (tabT tabD) 60 qA [schV] {aS with low:=aS.t}with
 |some (_,a)=>a
 |_=>aS
def tt :Pt:= .c (.a (.b .h))
theorem new11 :run (tabT tabD) 60 qA [schV] {aS with low:=aS.t}=some (.tup [.ptr tt 0, .int .i64 0],aT):=by kernel_rfl
theorem JrS :inT aT.nx.num aT.h=true:=by kernel_rfl
theorem Jrp :Nat.ble aS.t aT.low=true:=by kernel_rfl
theorem Jr2 :Nat.blt 0 aT.t=true:=by kernel_rfl
theorem Jrq :noQt aT.h=true:=by kernel_rfl
theorem JrT :Nat.blt tt.num aT.nx.num=true:=by kernel_rfl
theorem JrU :nodeB aT tt 0=true:=by kernel_rfl
theorem JrV :nodeB aT tt 1=true:=by kernel_rfl
theorem JrW :nodeB aT tt 2=true:=by kernel_rfl
noncomputable def mrgT (a:St):St:=mrg aT a
noncomputable def callB (id:Nat)(a:St)(r:Pt):Bool:=match run (tabT tabD) 60 JdY [.ptr tt 0, .agg [.int .i64 3, .snil, .snil], .slx (up aT.nx.num r) 0 1 1 1] {mrgT a with low:=(mrgT a).t}with
 |some (.tup [.int .i64 x, .int .i64 0],a1)=>decide (x=id)&&(Nat.ble (mrgT a).t a1.low&&inT a1.nx.num a1.h)
 |_=>false
noncomputable def copyB (a:St)(r:Pt):Bool:=match run (tabT tabD) 60 YY [.slx r 0 1 1 1] {a with low:=a.t}with
 |some (.slx _ _ _ _ _,a1)=>Nat.ble a.t a1.low&&inT a1.nx.num a1.h
 |some (.sl _ _ _ _,a1)=>Nat.ble a.t a1.low&&inT a1.nx.num a1.h
 |_=>false
noncomputable def FO (x:Str×Nat)(a:St)(pv:V):Bool:=match pv with
 | .slx r 0 1 1 1=>fullB a a.nx.num&&(inT (mrgT a).nx.num (mrgT a).h&&(callB x.2 a r&&copyB a r))
 |_=>false
abbrev sTpl :V:=ofL [116,101,109,112,108,97,116,101]
theorem act0 :actB (ofL (segS 0)) sTpl 9 (ofL [116]) (pf1 (FO ([116],0)))=true:=by kernel_rfl
theorem act1 :actB (ofL (segS 1)) sTpl 9 (ofL [116]) (pf1 (FO ([116],1)))=true:=by kernel_rfl
theorem act2 :actB (ofL (segS 2)) sTpl 9 (ofL [116]) (pf1 (FO ([116],2)))=true:=by kernel_rfl
theorem act3 :actB (ofL (segS 3)) sTpl 9 (ofL [117]) (pf1 (FO ([117],0)))=true:=by kernel_rfl
theorem act4 :actB (ofL (segS 4)) sTpl 9 (ofL [117]) (pf1 (FO ([117],1)))=true:=by kernel_rfl
theorem act5 :actB (ofL (segS 5)) sTpl 9 (ofL [117]) (pf1 (FO ([117],2)))=true:=by kernel_rfl
attribute [irreducible] aT
def nmRow :List V:=[ofL [116],ofL [117]]
def dotR (pv:V):List V:=[.int .i64 2, .opq 0,ofL [],ofL [],pv, .snil, .snil, .bool false, .snil]
noncomputable def c10 (a:St)(r:Pt):St:=(mrgT a).new fun t=> .cells t (dotR (.slx (up aT.nx.num r) 0 1 1 1))
noncomputable def c11 (a:St)(r:Pt):St:=(c10 a r).new fun t=> .cells t nmRow
noncomputable def flB (c:St)(q:Pt)(bv:V)(id:Nat):Bool:=match run (tabT tabD) 60 QR [.ptr tt 0, .sl q 0 2 1, .int .i64 id,bv] {c with low:=c.t}with
 |some (.tup [.snil, .int .i64 0, .int .i64 0],a1)=>Nat.ble c.t a1.low&&inT a1.nx.num a1.h
 |_=>false
noncomputable def rowB (c:St)(bv:V):Bool:=match run (tabT tabD) 60 Yr [bv] {c with low:=c.t}with
 |some (.slx _ _ _ _ _,a1)=>Nat.ble c.t a1.low&&inT a1.nx.num a1.h
 |some (.sl _ _ _ _,a1)=>Nat.ble c.t a1.low&&inT a1.nx.num a1.h
 |some (.snil,a1)=>Nat.ble c.t a1.low&&inT a1.nx.num a1.h
 |_=>false
noncomputable def d11 (a:St)(r:Pt):St:=a.new fun t=> .cells t (dotR (.slx r 0 1 1 1))
noncomputable def FdO (a:St)(pv:V):Bool:=match pv with
 | .slx r 0 1 1 1=>fullB a a.nx.num&&(inT (mrgT a).nx.num (mrgT a).h&&(inT (c10 a r).nx.num (c10 a r).h&&(inT (c11 a r).nx.num (c11 a r).h&&(inT (d11 a r).nx.num (d11 a r).h&&
   (flB (c11 a r) (c10 a r).nx (.sl (mrgT a).nx 0 1 9) 0&&(flB (c11 a r) (c10 a r).nx (.sl (mrgT a).nx 0 1 9) 1&&(flB (c11 a r) (c10 a r).nx (.sl (mrgT a).nx 0 1 9) 2&&rowB (d11 a r) (.sl a.nx 0 1 9))))))))
 |_=>false
theorem Jpi :actB sDot (ofL []) 2 (ofL []) (pf1 FdO)=true:=by kernel_rfl
noncomputable def cU :St:=aT.new fun t=> .cells t nmRow
theorem JrX :inT cU.nx.num cU.h=true:=by kernel_rfl
theorem flU0 :flB cU aT.nx .snil 0=true:=by kernel_rfl
theorem flU1 :flB cU aT.nx .snil 1=true:=by kernel_rfl
theorem flU2 :flB cU aT.nx .snil 2=true:=by kernel_rfl
noncomputable def mainB (c:St):Bool:=match run (tabT tabD) 60 kw [.ptr tt 0] {c with low:=c.t}with
 |some (.int .i64 x,a1)=>decide (x=3)&&(Nat.ble c.t a1.low&&inT a1.nx.num a1.h)
 |_=>false
theorem main11 :mainB aT=true:=by kernel_rfl
noncomputable def kindB (id:Nat)(k:Int):Bool:=match run (tabT tabD) 60 YF [.ptr tt 0, .int .i64 id] {aT with low:=aT.t}with
 |some (.tup [.agg [.int .i64 x,a,b,c], .bool true],a1)=>decide (x=k)&&((a.sc&&(b.sc&&c.sc))&&(Nat.ble aT.t a1.low&&inT a1.nx.num a1.h))
 |_=>false
theorem kind0 :kindB 0 2=true:=by kernel_rfl
theorem kind1 :kindB 1 3=true:=by kernel_rfl
theorem kind2 :kindB 2 1=true:=by kernel_rfl
noncomputable def schB :Bool:=match run (tabT tabD) 60 qd [schV] {aS with low:=aS.t}with
 |some (.agg [a,b,c,d,e,f],a1)=>(a.sc&&(b.sc&&(c.sc&&(d.sc&&(e.sc&&f.sc)))))&&(Nat.ble aS.t a1.low&&inT a1.nx.num a1.h)
 |_=>false
theorem sch11 :schB=true:=by kernel_rfl
theorem htt :tt.num<aT.nx.num:=Nat.le_of_ble_eq_true JrT
theorem mergeT {φ χ:Rn}{a S:St}(HT:Hold φ aT S)(Ha:Hold χ a S)(hf:fullB a a.nx.num=true)(hi:inT (mrgT a).nx.num (mrgT a).h=true)(hd:∀p:Pt,p.num<aT.nx.num->∀q:Pt,a.row q≠ .none->φ p≠χ q):
  ∃ω:Rn,Hold ω (mrgT a) S/\(∀p:Pt,p.num<aT.nx.num->ω p=φ p)/\(∀p:Pt,p.num<a.nx.num->ω (up aT.nx.num p)=χ p)/\ω.s=χ.s:=by
 have HT':=HT.sig Jrq χ.s Ha.num
 obtain⟨ω,ag,h1,h2,h3⟩:=HT'.mrg Ha rfl (fun p q hp hq=>hd p hp q (YW hf q hq)) hf hi (HT.pos (Nat.le_of_ble_eq_true Jr2))
 exact⟨ω,h3,fun p hp=>ag.f p hp,h1,h2⟩
def Apart (Sp S1:St)(φ:Rn):Prop:=∀p:Pt,p.num<aT.nx.num->∀q:Pt,S1.row q≠ .none->Sp.row q= .none->φ p≠q
theorem callN11 {Sp S1 S:St}{φ:Rn}{x:Str×Nat}{e:List V}(HT:Hold φ aT S)(g:Fz S1 S)(hN:NodeE Sp S1 FO x e)(hd:Apart Sp S1 φ):CallN S (.ptr (φ tt) 0) 3 e x:=by
 obtain⟨χ,a,r,at_,e1,Ha,hF,hr,hfr⟩:=hN
 simp only[FO,Bool.and_eq_true]at hF
 obtain⟨f1,f2,f3,f4⟩:=hF
 obtain⟨ω,Hω,w1,w2,w3⟩:=mergeT HT (Ha.fz g) f1 f2 fun p hp q hq=>hd p hp _ (Qn (Ha.row q (Ha.none hq)) hq) (hfr q hq)
 refine⟨at_,χ r,e1,fun S' k=> ?_⟩
 unfold callB at f3
 split at f3
 rotate_left
 ·cases f3
 rename_i y a1 hrun
 rw[Bool.and_eq_true,Bool.and_eq_true]at f3
 obtain⟨g1,g2,g3⟩:=f3
 have g1:y=x.2:=of_decide_eq_true g1
 have hin:inVs (mrgT a).nx.num [.ptr tt 0, .agg [.int .i64 3, .snil, .snil], .slx (up aT.nx.num r) 0 1 1 1]=true:=by
  have e2:(mrgT a).nx.num=a.nx.num+aT.nx.num:=by show(up a.nx.num aT.nx).num=_;rw[Ko,Nat.add_comm]
  have e3:(up aT.nx.num r).num=r.num+aT.nx.num:=by rw[Ko]
  have:=htt
  simp only[inVs,inV,e2,e3,decide_eq_true (show tt.num<a.nx.num+aT.nx.num by omega),decide_eq_true (show r.num+aT.nx.num<a.nx.num+aT.nx.num by omega)]
  rfl
 have:=(Hω.fz k).go tabE tabM tabU hin hrun (Nat.le_of_ble_eq_true g2) g3
 simp only[List.map_cons,List.map_nil,mv,mvs,w1 tt htt,w2 r hr]at this
 refine this.mono fun v S'' ⟨gg,ψ,_,ev,_⟩=>⟨gg, ?_⟩
 rw[ev,g1]
theorem copyN11 {Sp S1 S:St}{x:Str×Nat}{e:List V}(g:Fz S1 S)(hN:NodeE Sp S1 FO x e):∃at_ nm pr,e=ndN 9 at_ [] nm (.slx pr 0 1 1 1)/\∀S',Fz S S'->Does (tabT tabD) YY [.slx pr 0 1 1 1] S' fun v S''=>Gr S' S''/\One v:=by
 obtain⟨χ,a,r,at_,e1,Ha,hF,hr,hfr⟩:=hN
 simp only[FO,Bool.and_eq_true]at hF
 obtain⟨f1,f2,f3,f4⟩:=hF
 refine⟨at_,x.1,χ r,e1,fun S' k=> ?_⟩
 have hin:inVs a.nx.num [.slx r 0 1 1 1]=true:=by simp only[inVs,inV,decide_eq_true hr];rfl
 unfold copyB at f4
 split at f4
 ·rename_i hrun
  rw[Bool.and_eq_true]at f4
  have:=((Ha.fz g).fz k).go tabE tabM tabU hin hrun (Nat.le_of_ble_eq_true f4.1) f4.2
  simp only[List.map_cons,List.map_nil,mv]at this
  exact this.mono fun v S'' ⟨gg,ψ,_,ev,_⟩=>⟨gg,by rw[ev];exact One.of rfl⟩
 ·rename_i hrun
  rw[Bool.and_eq_true]at f4
  have:=((Ha.fz g).fz k).go tabE tabM tabU hin hrun (Nat.le_of_ble_eq_true f4.1) f4.2
  simp only[List.map_cons,List.map_nil,mv]at this
  exact this.mono fun v S'' ⟨gg,ψ,_,ev,_⟩=>⟨gg,by rw[ev];exact One.of rfl⟩
 ·cases f4
theorem Jjp {c:St}{q:Pt}{bv:V}{id:Nat}(h:flB c q bv id=true){ω:Rn}{S:St}(H:Hold ω c S)(ht:tt.num<c.nx.num)(hq:q.num<c.nx.num)(hb:inV c.nx.num bv=true):
  Does (tabT tabD) QR [.ptr (ω tt) 0, .sl (ω q) 0 2 1, .int .i64 (id:Nat),mv ω bv] S fun v S'=>Fz S S'/\∃cv,v= .tup [cv, .int .i64 0, .int .i64 0]/\SlF S S' cv 2 []:=by
 unfold flB at h
 split at h
 ·rename_i a1 hrun
  rw[Bool.and_eq_true]at h
  have:=H.go tabE tabM tabU (args:=[.ptr tt 0, .sl q 0 2 1, .int .i64 id,bv]) (by simp only[inVs,inV,decide_eq_true ht,decide_eq_true hq,hb];rfl) hrun (Nat.le_of_ble_eq_true h.1) h.2
  simp only[List.map_cons,List.map_nil,mv]at this
  refine this.mono fun v S'' ⟨gg,ψ,_,ev,_⟩=>⟨Fz.ofGr gg, .snil, ?_,SlF.nil _ _ _⟩
  rw[ev];simp only[mv,mvs]
 ·cases h
theorem JmL {c:St}{bv:V}(h:rowB c bv=true){ω:Rn}{S:St}(H:Hold ω c S)(hb:inV c.nx.num bv=true):Does (tabT tabD) Yr [mv ω bv] S fun v S'=>Gr S S'/\One v:=by
 have hin:inVs c.nx.num [bv]=true:=by simp only[inVs,hb];rfl
 unfold rowB at h
 split at h
 all_goals first
  |(cases h;done)
  | (rename_i hrun
     rw[Bool.and_eq_true]at h
     have:=H.go tabE tabM tabU hin hrun (Nat.le_of_ble_eq_true h.1) h.2
     simp only[List.map_cons,List.map_nil]at this
     exact this.mono fun v S'' ⟨gg,ψ,_,ev,_⟩=>⟨gg,by rw[ev];exact One.of rfl⟩)
theorem uFlow {S:St}{φ:Rn}{q:Pt}{id:Nat}(HT:Hold φ aT S)(hid:id<3)(hq:∃t,S.row q= .cells t nmRow)(hqa:∀p:Pt,p.num<aT.nx.num->φ p≠q):
  Does (tabT tabD) QR [.ptr (φ tt) 0, .sl q 0 2 1, .int .i64 (id:Nat), .snil] S fun v S'=>Fz S S'/\∃cv,v= .tup [cv, .int .i64 0, .int .i64 0]/\SlF S S' cv 2 []:=by
 obtain⟨t,hq⟩:=hq
 obtain⟨ω,ag,e1,H⟩:=HT.add (q:=q) (f:=fun t=> .cells t nmRow) (Jh _) (Jk hq) hqa ⟨t,by rw[hq];rfl,trivial⟩ rfl JrX
 have hn:cU.nx.num=aT.nx.num+1:=by show aT.nx.suc.num=_;rw[Pt.num_suc]
 have hB:flB cU aT.nx .snil id=true:=by
  rcases(by omega:id=0\/id=1\/id=2)with rfl|rfl|rfl
  ·exact flU0
  ·exact flU1
  ·exact flU2
 have:=Jjp hB H (by rw[hn];have:=htt;omega) (by rw[hn];omega) rfl
 rw[ag.f tt htt,e1]at this
 exact this
theorem dotFlow {Sp S1 S:St}{φ:Rn}{q rb:Pt}{id:Nat}{χ:Rn}{a:St}{r:Pt}{at_:Int}(HT:Hold φ aT S)(hid:id<3)(hq:∃t,S.row q= .cells t nmRow)(hqa:∀p:Pt,p.num<aT.nx.num->φ p≠q)(hq1:S1.row q= .none)(g:Fz S1 S)(hd:Apart Sp S1 φ)
  (hrb:∃t,S1.row rb= .cells t (dotE at_ (.slx (χ r) 0 1 1 1))) (Ha:Hold χ a S1) (hF:FdO a (.slx r 0 1 1 1)=true) (hr:r.num<a.nx.num) (hx0:χ.s 0= .int .i64 at_) (hrn:Sp.row rb= .none) (hx:∀q:Pt,a.row q≠ .none->Sp.row (χ q)= .none/\rb≠χ q):
  Does (tabT tabD) QR [.ptr (φ tt) 0, .sl q 0 2 1, .int .i64 (id:Nat), .sl rb 0 1 9] S fun v S'=>Fz S S'/\∃cv,v= .tup [cv, .int .i64 0, .int .i64 0]/\SlF S S' cv 2 []:=by
 simp only[FdO,Bool.and_eq_true]at hF
 obtain⟨f1,f2,f3,f4,f5,f6,f7,f8,f9⟩:=hF
 have live:∀q:Pt,a.row q≠ .none->S1.row (χ q)≠ .none:=fun q hq=>Qn (Ha.row q (Ha.none hq)) hq
 obtain⟨ω,Hω,w1,w2,w3⟩:=mergeT HT (Ha.fz g) f1 f2 fun p hp q hq=>hd p hp _ (live q hq) (hx q hq).1
 have e2:(mrgT a).nx.num=a.nx.num+aT.nx.num:=by show(up a.nx.num aT.nx).num=_;rw[Ko,Nat.add_comm]
 have e3:(up aT.nx.num r).num=r.num+aT.nx.num:=by rw[Ko]
 have split:∀p:Pt,p.num<(mrgT a).nx.num->p.num<aT.nx.num\/∃p':Pt,p'.num<a.nx.num/\p=up aT.nx.num p':=fun p hp=>by
  by_cases c:p.num<aT.nx.num
  ·exact .inl c
  ·refine .inr ⟨up (p.num-aT.nx.num) .h,by rw[Ko];show 0+_<_;omega,Pt.num_inj ?_⟩
   rw[Ko,Ko];show _=0+_+_;omega
 obtain⟨tr,hrb⟩:=hrb
 obtain⟨t,hq⟩:=hq
 have hrbS:S.row rb= .cells tr (dotE at_ (.slx (χ r) 0 1 1 1)):=by rw[g.same rb (Jk hrb),hrb]
 have offb:∀p:Pt,p.num<(mrgT a).nx.num->ω p≠rb:=fun p hp=>by
  rcases split p hp with c|⟨p',c,rfl⟩
  ·rw[w1 p c];exact hd p c rb (Jk hrb) hrn
  ·rw[w2 p' c];exact(hx p' (YW f1 p' c)).2.symm
 have offq:∀p:Pt,p.num<(mrgT a).nx.num->ω p≠q:=fun p hp=>by
  rcases split p hp with c|⟨p',c,rfl⟩
  ·rw[w1 p c];exact hqa p c
  ·rw[w2 p' c];exact fun e=>live p' (YW f1 p' c) (by rw[e];exact hq1)
 have cl:∀(ψ:Rn) (s:Str),mv ψ (ofL s)=ofL s:=fun ψ s=>JC ψ _ rfl
 obtain⟨ω1,ag1,e1,H1⟩:=Hω.add (q:=rb) (f:=fun t=> .cells t (dotR (.slx (up aT.nx.num r) 0 1 1 1))) (Jh _) (Jk hrbS) offb ⟨tr,by rw[hrbS];simp only[dotR,dotE,List.map_cons,List.map_nil,mv,cl,w2 r hr,w3,hx0],trivial⟩ (by
  show inVs (mrgT a).nx.num (dotR (.slx (up aT.nx.num r) 0 1 1 1))=true
  simp only[dotR,inVs,inV,e2,e3,decide_eq_true (show r.num+aT.nx.num<a.nx.num+aT.nx.num by omega)];rfl) f3
 have n10:(c10 a r).nx.num=(mrgT a).nx.num+1:=by show(mrgT a).nx.suc.num=_;rw[Pt.num_suc]
 obtain⟨ω2,ag2,e22,H2⟩:=H1.add (q:=q) (f:=fun t=> .cells t nmRow) (Jh _) (Jk hq) (fun p hp=>by
  have hp:p.num<(mrgT a).nx.num+1:=by rw[<-n10];exact hp
  by_cases c:p.num<(mrgT a).nx.num
  ·rw[ag1.f p c];exact offq p c
  ·have:p=(mrgT a).nx:=Pt.num_inj (by omega)
   rw[this,e1]
   exact fun e=>Jk hrb (by rw[e];exact hq1)) ⟨t,by rw[hq];rfl,trivial⟩ rfl f4
 have n11:(c11 a r).nx.num=(mrgT a).nx.num+2:=by show(c10 a r).nx.suc.num=_;rw[Pt.num_suc,n10]
 have hB:flB (c11 a r) (c10 a r).nx (.sl (mrgT a).nx 0 1 9) id=true:=by
  rcases(by omega:id=0\/id=1\/id=2)with rfl|rfl|rfl
  ·exact f6
  ·exact f7
  ·exact f8
 have:=Jjp hB H2 (by rw[n11,e2];have:=htt;omega) (by rw[n11,n10];omega) (by simp only[inV,n11];exact decide_eq_true (by omega))
 have et:ω2 tt=φ tt:=by
  have:tt.num<(mrgT a).nx.num:=by rw[e2];have:=htt;omega
  rw[ag2.f tt (by show _<(c10 a r).nx.num;omega),ag1.f tt this,w1 tt htt]
 have eb:ω2 (mrgT a).nx=rb:=by rw[ag2.f _ (by show _<(c10 a r).nx.num;omega),e1]
 have eq2:ω2 (c10 a r).nx=q:=e22
 simp only[mv,et,eb,eq2]at this
 exact this
theorem dotRow {S1 S:St}{rb:Pt}{χ:Rn}{a:St}{r:Pt}{at_:Int}(g:Fz S1 S)(hrb:∃t,S1.row rb= .cells t (dotE at_ (.slx (χ r) 0 1 1 1)))(Ha:Hold χ a S1)(hF:FdO a (.slx r 0 1 1 1)=true)(hr:r.num<a.nx.num)(hx0:χ.s 0= .int .i64 at_)(hx:∀q:Pt,a.row q≠ .none->rb≠χ q):
  Does (tabT tabD) Yr [.sl rb 0 1 9] S fun v S'=>Gr S S'/\One v:=by
 simp only[FdO,Bool.and_eq_true]at hF
 obtain⟨f1,f2,f3,f4,f5,f6,f7,f8,f9⟩:=hF
 obtain⟨tr,hrb⟩:=hrb
 have hrbS:S.row rb= .cells tr (dotE at_ (.slx (χ r) 0 1 1 1)):=by rw[g.same rb (Jk hrb),hrb]
 have cl:∀(ψ:Rn) (s:Str),mv ψ (ofL s)=ofL s:=fun ψ s=>JC ψ _ rfl
 obtain⟨ω1,ag1,e1,H1⟩:=(Ha.fz g).add (q:=rb) (f:=fun t=> .cells t (dotR (.slx r 0 1 1 1))) (Jh _) (Jk hrbS) (fun p hp=>(hx p (YW f1 p hp)).symm) ⟨tr,by rw[hrbS];simp only[dotR,dotE,List.map_cons,List.map_nil,mv,cl,hx0],trivial⟩ (by
  show inVs a.nx.num (dotR (.slx r 0 1 1 1))=true
  simp only[dotR,inVs,inV,decide_eq_true hr];rfl) f5
 have n11:(d11 a r).nx.num=a.nx.num+1:=by show a.nx.suc.num=_;rw[Pt.num_suc]
 have:=JmL f9 H1 (by simp only[inV];exact decide_eq_true (by show _<(d11 a r).nx.num;omega))
 simp only[mv,e1]at this
 exact this
def names2 :List Str:=[[116],[117]]
theorem Jr3 :namesB names2 [116]=true:=by kernel_rfl
theorem Jr4 :namesB names2 [117]=true:=by kernel_rfl
theorem Jjq :pureB (tabT tabD) Yr [.snil] .snil=true:=by kernel_rfl
theorem JmM :pureB (tabT tabD) YZ [.snil] .snil=true:=by kernel_rfl
def PT (Sp S1 S0 S:St)(tb:V):Prop:=Fz S1 S0/\∃φ:Rn,Hold φ aT S/\tb= .ptr (φ tt) 0/\∀q:Pt,q.num<aT.nx.num->S0.row (φ q)= .none\/Sp.row (φ q)≠ .none
theorem kq {ψ:Rn}(h:ψ.ok){v:V}(hv:v.sc=true):(mv ψ v).sc=true:=by
 cases v
 case opq i=>obtain⟨k,n,e⟩:=h i;rw[mv,e];rfl
 all_goals first
  |(rw[mv];rfl)
  |rfl
  |(cases hv;done)
theorem Jpj :fullB aT aT.nx.num=true:=by kernel_rfl
theorem PT.off {Sp S1 S0 SN:St}{φ:Rn}{q:Pt}(H:Hold φ aT SN)(hq:SN.row q= .none):∀p:Pt,p.num<aT.nx.num->φ p≠q:=fun p hp e=>by
 have h1:=YW Jpj p hp
 exact Qn (H.row p hp) h1 (by rw[e];exact hq)
theorem PT.apart {Sp S1 S0 S:St}{φ:Rn}(h:Fz S1 S0)(hs:∀q:Pt,q.num<aT.nx.num->S0.row (φ q)= .none\/Sp.row (φ q)≠ .none):Apart Sp S1 φ:=fun p hp q h1 h2 e=>by
 rcases hs p hp with c|c
 ·rw[e,h.same q h1]at c;exact h1 c
 ·rw[e]at c;exact c h2
theorem nodeO {id:Nat}(h:id<3):nodeB aT tt id=true:=by
 rcases(by omega:id=0\/id=1\/id=2)with rfl|rfl|rfl
 ·exact JrU
 ·exact JrV
 ·exact JrW
theorem check11 {Sp S1:St}{φS:Rn}(HS:Hold φS aS S1)(h0:Sp.row (φS .h)≠ .none)(h1:Sp.row (φS (.a .h))≠ .none)(hgr:∀r,Sp.row r≠ .none->S1.row r≠ .none){lv mvv bt:V}{xs:List (Str×Nat)}
  (hl:SlAt (fun r=>S1.row r≠ .none) S1 lv 2 [[ofL [],mvv],[ofL [116],bt],[ofL [117], .snil]]) (hR:ParseR Sp S1 FO FdO xs mvv bt) (hxs:∀x∈xs,(x.1=[116]\/x.1=[117])/\x.2<3) (hlen:xs.length<=20):
  Does (tabT tabD) Jai [.agg [.int .i64 7,ofL [], .slx (φS .h) 0 3 1 3, .slx (φS (.a .h)) 0 3 4 3, .snil, .snil],lv] S1 fun v S'=>Gr S1 S'/\∃r S0 y0 y1 y2 y3 y4 y5 tv tb pv,v= .tup [.ptr r 0, .agg [.int .i64 0,ofL [], .int .i64 0]]/\(∃t,S'.row r= .cells t [y0,y1,y2,y3,y4,y5,tv,tb,pv])/\Fz S1 S0/\PT Sp S1 S0 S' tb/\SlF S1 S' pv 2 ((dedS [([],3)] xs).map clE):=by
 obtain⟨⟨es,m1,m2,m3⟩,χ,a,r,rb,at_,hbt,hrb,Ha,hFd,hr,hx0,hrn,hx⟩:=hR
 have smv:mvv.sc=true:=m1.sc
 have sbt:bt.sc=true:=by rw[hbt];rfl
 have slv:lv.sc=true:=hl.sc
 have hlow:aS.t<=aT.low:=Nat.le_of_ble_eq_true Jrp
 refine checkC (ts:=[([],mvv),([116],bt),([117], .snil)]) (P:=PT Sp S1) (m0:=3) HS.wf ⟨One.of rfl,One.of rfl,One.of rfl,One.of rfl,One.of rfl,One.of rfl⟩ (One.of slv) hl (fun i h=> ?_) (by simp) (by simp) (fun x hx=> ?_) (by omega) ?_ ?_ ?_ ?_ ?_ ?_ ?_ ?_ ?_
 ·have h:i<3:=h
  rcases(by omega:i=0\/i=1\/i=2)with rfl|rfl|rfl<;>rfl
 ·simp only[List.mem_cons,List.not_mem_nil,or_false]at hx
  rcases hx with rfl|rfl|rfl
  ·exact One.of smv
  ·exact One.of sbt
  ·exact One.of rfl
 ·rintro S0 A B tb ⟨f,φ,H,e,s⟩ g
  exact⟨f,φ,H.fz g,e,s⟩
 ·rintro S0 A B tb W ⟨f,φ,H,e,s⟩ C hW
  refine⟨f,φ,H.keep C.mono fun q hq=>C.same _ (Qn (H.row q (H.none hq)) hq) fun w=> ?_,e,s⟩
  obtain⟨w1,w2⟩:=hW _ w
  rcases s q (H.none hq)with c|c
  ·exact w2 c
  ·exact hgr _ c w1
 ·rintro S0 A tb ⟨f,φ,H,rfl,s⟩
  exact One.of rfl
 ·intro S' g
  have:=(HS.fz g).go tabE tabM tabU (args:=[schV]) rfl new11 hlow JrS
  simp only[List.map_cons,List.map_nil,schV,mv,mvs,show mv φS (ofL [])=ofL []from JC φS _ rfl]at this
  refine this.mono fun v S'' ⟨gg,ψ,ag,ev,H,fr⟩=>⟨gg, .ptr (ψ tt) 0,by rw[ev],g,ψ,H,rfl,fun q hq=> ?_⟩
  by_cases c:q.num<2
  ·refine .inr ?_
   rcases Jjo c with rfl|rfl
   ·rw[ag.f .h (by decide)];exact h0
   ·rw[ag.f (.a .h) (by decide)];exact h1
  ·exact .inl (fr q (by show 2<=_;omega))
 ·intro S' g
  have hB:=sch11
  unfold schB at hB
  split at hB
  rotate_left
  ·cases hB
  rename_i z0 z1 z2 z3 z4 z5 a1 hrun
  simp only[Bool.and_eq_true]at hB
  obtain⟨⟨s0,s1,s2,s3,s4,s5⟩,k1,k2⟩:=hB
  have:=(HS.fz g).go tabE tabM tabU (args:=[schV]) rfl hrun (Nat.le_of_ble_eq_true k1) k2
  simp only[List.map_cons,List.map_nil,schV,mv,mvs,show mv φS (ofL [])=ofL []from JC φS _ rfl]at this
  refine this.mono fun v S'' ⟨gg,ψ,ag,ev,H,fr⟩=>⟨gg,mv ψ z0,mv ψ z1,mv ψ z2,mv ψ z3,mv ψ z4,mv ψ z5,by rw[ev],One.of (kq H.num s0),One.of (kq H.num s1),One.of (kq H.num s2),One.of (kq H.num s3),One.of (kq H.num s4),One.of (kq H.num s5)⟩
 ·intro S' g
  refine(JmI (es:=[[ofL [],mvv],[ofL [116],bt],[ofL [117], .snil]]) g.wf (hl.imp fun r e _=>⟨trivial,g.same r e⟩) (by simp) fun i h=> ?_).mono fun v S'' h=>h
  have h:i<3:=h
  rcases(by omega:i=0\/i=1\/i=2)with rfl|rfl|rfl
  ·refine⟨[],mvv,rfl,smv,fun S2 g2=> ?_⟩
   have g02:=g.trans g2
   have hb:SlAt (fun _=>True) S2 mvv 9 es:=by
    refine⟨m1.1, ?_⟩
    rcases m1.2 with h|⟨r,o,k1,k2,l,k3,k4⟩
    ·exact .inl h
    ·refine .inr ⟨r,o,k1,k2,l, ?_,k4⟩
     rcases k3 with⟨t,k3⟩|k3
     ·exact .inl ⟨t,by rw[g02.same r (Jk k3),k3]⟩
     ·exact .inr (by rw[g02.same r (by rw[k3];exact fun e=>by cases e),k3])
   exact rowCopy g2.wf hb (by omega) Jjq JmM fun i hi=>copyN11 g02 (m3 i hi (by omega))
  ·refine⟨[116],bt,rfl,sbt,fun S2 g2=> ?_⟩
   rw[hbt]
   exact dotRow (g.trans g2) hrb Ha hFd hr hx0 fun q hq=>(hx q hq).2
  ·refine⟨[117], .snil,rfl,rfl,fun S2 g2=> ?_⟩
   exact(pureC tabE tabM tabU Jjq rfl rfl g2.wf).mono fun v S'' ⟨gg,e⟩=>⟨gg,by rw[e];exact One.of rfl⟩
 ·rintro S0 S' tb ⟨f,φ,H,rfl,s⟩
  have hB:=main11
  unfold mainB at hB
  split at hB
  rotate_left
  ·cases hB
  rename_i x a1 hrun
  simp only[Bool.and_eq_true]at hB
  obtain⟨k0,k1,k2⟩:=hB
  have:=H.go tabE tabM tabU (args:=[.ptr tt 0]) (by simp only[inVs,inV,decide_eq_true htt];rfl) hrun (Nat.le_of_ble_eq_true k1) k2
  simp only[List.map_cons,List.map_nil,mv]at this
  exact this.mono fun v S'' ⟨gg,ψ,ag,ev,_⟩=>⟨gg,by rw[ev,of_decide_eq_true k0];rfl⟩
 ·refine⟨mvv,rfl,One.of smv, ?_⟩
  rintro S0 SN S' tb q g ⟨f,φ,HN,rfl,s⟩ gN qN qS hq
  have H:=HN.fz gN
  have hb:SlAt (fun _=>True) S' mvv 9 es:=by
   refine⟨m1.1, ?_⟩
   rcases m1.2 with h|⟨r,o,k1,k2,l,k3,k4⟩
   ·exact .inl h
   ·refine .inr ⟨r,o,k1,k2,l, ?_,k4⟩
    rcases k3 with⟨t,k3⟩|k3
    ·exact .inl ⟨t,by rw[g.same r (Jk k3),k3]⟩
    ·exact .inr (by rw[g.same r (by rw[k3];exact fun e=>by cases e),k3])
  refine bodyT (ns:=names2) (d:=3) H htt hq hb m2 (by omega) fun i hi hi'=>⟨callN11 H g (m3 i hi hi') (PT.apart (S:=SN) f s),nodeO (hxs _ (List.getElem_mem hi')).2, ?_⟩
  rcases(hxs _ (List.getElem_mem hi')).1 with e|e
  ·rw[e];exact Jr3
  ·rw[e];exact Jr4
 ·intro x hxm
  obtain⟨hx1,hx2⟩:=hxs x hxm
  rcases hx1 with e|e
  ·refine⟨bt,by rw[e];rfl,One.of sbt, ?_⟩
   rintro S0 SN S' tb q g ⟨f,φ,HN,rfl,s⟩ gN qN qS hq
   have H:=HN.fz gN
   rw[hbt]
   exact dotFlow (Sp:=Sp) H hx2 hq (PT.off (Sp:=Sp) (S1:=S1) (S0:=S0) HN qN) qS g (PT.apart (S:=SN) f s) hrb Ha hFd hr hx0 hrn hx
  ·refine⟨.snil,by rw[e];rfl,One.of rfl, ?_⟩
   rintro S0 SN S' tb q g ⟨f,φ,HN,rfl,s⟩ gN qN qS hq
   exact uFlow (HN.fz gN) hx2 hq (PT.off (Sp:=Sp) (S1:=S1) (S0:=S0) HN qN)
def xk (k:Nat):Str×Nat:=(if k<3 then[116]else[117],k%3)
theorem Jpk :∀a b:Fin 6,xk a.1=xk b.1->a=b:=by decide
theorem Jrr {a b:Nat}(ha:a<6)(hb:b<6)(h:xk a=xk b):a=b:=Fin.mk.inj (Jpk ⟨a,ha⟩ ⟨b,hb⟩ h)
theorem JrY (k:Nat):xk k≠([],3):=fun h=>by
 unfold xk at h
 have h:=(Prod.mk.inj h).1
 split at h<;>cases h
theorem JrZ {k:Nat}:((xk k).1=[116]\/(xk k).1=[117])/\(xk k).2<3:=by
 refine⟨?_,Nat.mod_lt _ (by decide)⟩
 unfold xk
 by_cases h:k<3
 ·rw[if_pos h];exact .inl rfl
 ·rw[if_neg h];exact .inr rfl
theorem JhK :∀(ks acc:List Nat),(∀k∈ks,k<6)->(∀k∈acc,k<6)->dedS (([],3)::acc.map xk) (ks.map xk)=([],3)::(dedS acc ks).map xk
 |[],acc,_,_=>rfl
 | x::r,acc,h1,h2=>by
   have hx:=h1 x (List.mem_cons_self ..)
   have hr:=fun k hk=>h1 k (List.mem_cons_of_mem _ hk)
   by_cases h:x∈acc
   ·have h':xk x∈([],3)::acc.map xk:=List.mem_cons_of_mem _ (List.mem_map.2 ⟨x,h,rfl⟩)
    rw[List.map_cons,dedS,if_pos h',dedS,if_pos h]
    exact JhK r acc hr h2
   ·have h':xk x∉([],3)::acc.map xk:=fun c=>by
     rcases List.mem_cons.1 c with c|c
     ·exact JrY x c
     ·obtain⟨y,y1,y2⟩:=List.mem_map.1 c
      exact h (Jrr (h2 y y1) hx y2▸y1)
    rw[List.map_cons,dedS,if_neg h',dedS,if_neg h,List.cons_append]
    have:=JhK r (acc++[x]) hr fun k hk=>by
     rcases List.mem_append.1 hk with hk|hk
     ·exact h2 k hk
     ·rw[List.mem_singleton.1 hk];exact hx
    rw[List.map_append]at this
    exact this
theorem Jrs :pureB (tabT tabD) Q8 [ofL [116]] (.bool true)=true:=by kernel_rfl
theorem Jrt :pureB (tabT tabD) Q8 [ofL [117]] (.bool true)=true:=by kernel_rfl
theorem segOk {k n:Nat}(h:k<6):SegOk FO (true,segS k,n) (xk k):=by
 rcases(by omega:k=0\/k=1\/k=2\/k=3\/k=4\/k=5)with rfl|rfl|rfl|rfl|rfl|rfl
 ·exact⟨rfl,act0,Jrs⟩
 ·exact⟨rfl,act1,Jrs⟩
 ·exact⟨rfl,act2,Jrs⟩
 ·exact⟨rfl,act3,Jrt⟩
 ·exact⟨rfl,act4,Jrt⟩
 ·exact⟨rfl,act5,Jrt⟩
theorem segsOk :∀(ks:List Nat) (n:Nat),(∀k∈ks,k<6)->SegsOk FO (partsK ks n) (ks.map xk)
 |[],_,_=>trivial
 |k::r,n,h=>⟨segOk (h k (List.mem_cons_self ..)),segsOk r _ fun x hx=>h x (List.mem_cons_of_mem _ hx)⟩
def kOf (z:Int):Nat:=(z%6).toNat
theorem JmN (z:Int):kOf z<6:=by unfold kOf;omega
theorem Jpl (z:Int):((kOf z:Nat):Int)=z%6:=by unfold kOf;omega
def ksOf (zs:List Int)(i:Nat):List Nat:=(zs.take i).map kOf
theorem Jpm {zs:List Int}{i:Nat}:∀k∈ksOf zs i,k<6:=fun k hk=>by
 obtain⟨z,_,rfl⟩:=List.mem_map.1 hk
 exact JmN z
theorem JdS {zs:List Int}{i:Nat}(h:i<zs.length):ksOf zs (i+1)=ksOf zs i++[kOf zs[i]]:=by
 unfold ksOf
 rw[List.take_add_one,List.getElem?_eq_getElem h,List.map_append]
 rfl
def inE (k:Nat):List V:=[.int .i64 (k:Nat)]
theorem JhL :pureB (tabT tabD) qx [] (.bool true)=true:=by kernel_rfl
theorem Jru {ks:List Nat}(h:∀k∈ks,k<6):∀k∈dedS [] ks,k<6:=by
 obtain⟨t,a,b,_⟩:=kM ks []
 rw[a]
 exact fun k hk=>h k (b k (by simpa using hk))
theorem Jjr (ks:List Nat):(dedS [] ks).length<=ks.length:=by
 obtain⟨t,a,_,b⟩:=kM ks []
 rw[a];simpa using b
theorem Jpn (l:List Nat)(k:Nat):(l.any fun x=>decide ((x:Int)=(k:Int)))=decide (k∈l):=by
 rw[Bool.eq_iff_iff,List.any_eq_true,decide_eq_true_eq]
 constructor
 ·rintro⟨x,hx,e⟩
  have:(x:Int)=k:=of_decide_eq_true e
  have:x=k:=by omega
  exact this▸hx
 ·intro h
  exact⟨k,h,by simp⟩
theorem Jkc (a n:Int)(st:St)(h0:0<n)(h1:n<4611686018427387904):Does (tabT tabD) jW [.int .i64 a, .int .i64 n] st fun v st'=>v= .int .i64 (a%n)/\st=st':=by
 refine Q6 jB rfl ?_
 have hn:n≠0:=by omega
 have e1:=Int.emod_nonneg a hn
 have e2:=Int.emod_lt_of_pos a h0
 rcases tmodC a h0 with⟨h3,h4⟩|⟨h3,h4⟩
 ·simp only[JT,XZ,simprocAttr,hn,h3]
  rw[h4]
 ·have hw:IntKind.i64.wrap (a.tmod n+n)=a%n:=by rw[h4,QH (by omega) (by omega)]
  simp only[JT,XZ,simprocAttr,hn,h3,hw]
theorem holdS {S:St}{pn pk:Pt}(hw:WF S)(rn:∃t,S.row pn= .cells t names3)(rk:∃t,S.row pk= .cells t kids3)(nk:pn≠pk):∃φ:Rn,Hold φ aS S/\φ .h=pn/\φ (.a .h)=pk:=by
 obtain⟨tn,rn⟩:=rn
 obtain⟨tk,rk⟩:=rk
 have H0:=Hold.start (S:=S) (fun _=> .int .i64 0) (fun _=>⟨_,_,rfl⟩) hw
 obtain⟨φ1,ag1,e1,H1⟩:=H0.add (q:=pn) (f:=fun t=> .cells t names3) (Jh _) (Jk rn) (fun p h=>absurd h (Nat.not_lt_zero _)) ⟨tn,by rw[rn];rfl,trivial⟩ rfl rfl
 have e1:φ1 .h=pn:=e1
 obtain⟨φ2,ag2,e2,H2⟩:=H1.add (q:=pk) (f:=fun t=> .cells t kids3) (Jh _) (Jk rk) (fun p h=>by
  have:p= .h:=num0 (by have:p.num<1:=h;omega)
  rw[this,e1];exact nk) ⟨tk,by rw[rk];rfl,trivial⟩ rfl rfl
 exact⟨φ2,H2,by rw[ag2.f .h (by decide),e1],e2⟩
theorem nodeK {φ:Rn}{S:St}(H:Hold φ aT S){id:Nat}{k:Int}(h:kindB id k=true):Does (tabT tabD) YF [.ptr (φ tt) 0, .int .i64 (id:Nat)] S fun v S'=>Gr S S'/\∃a b c,v= .tup [.agg [.int .i64 k,a,b,c], .bool true]/\a.sc=true/\b.sc=true/\c.sc=true:=by
 unfold kindB at h
 split at h
 rotate_left
 ·cases h
 rename_i x a b c a1 hrun
 simp only[Bool.and_eq_true]at h
 obtain⟨k0,⟨s0,s1,s2⟩,k1,k2⟩:=h
 have:=H.go tabE tabM tabU (args:=[.ptr tt 0, .int .i64 (id:Nat)]) (by simp only[inVs,inV,decide_eq_true htt];rfl) hrun (Nat.le_of_ble_eq_true k1) k2
 simp only[List.map_cons,List.map_nil,mv]at this
 refine this.mono fun v S'' ⟨gg,ψ,ag,ev,H',_⟩=>⟨gg,mv ψ a,mv ψ b,mv ψ c, ?_,kq H'.num s0,kq H'.num s1,kq H'.num s2⟩
 rw[ev,of_decide_eq_true k0]
 simp only[mv,mvs]
theorem pairsC {S:St}{r:Pt}{t:Nat}{y0 y1 y2 y3 y4 y5 tv tb pv:V}{es:List (List V)}(hw:WF S)(hr:S.row r= .cells t [y0,y1,y2,y3,y4,y5,tv,tb,pv])(hp:SlAt (fun _=>True) S pv 2 es)(hok:okC es)(hn:es.length<1000):Does (tabT tabD) JaJ [.ptr r 0] S fun v S'=>Gr S S'/\SlF S S' v 2 es:=by
 refine jv tabM Jal rfl hw fun K fin=> ?_
 simp only[KG,XZ,simprocAttr,hr]
 refine Ju (JgF hw hp hok (by omega)) ?_
 rintro v S' ⟨g,h⟩
 simp only[XZ,simprocAttr]
 exact fin _ _ g.same fun _=>h
theorem roundsC {S:St}{r:Pt}{t:Nat}{y0 y1 y2 y3 y4 y5 tv tb pv:V}{n:Nat}(hr:S.row r= .cells t [y0,y1,y2,y3,y4,y5,tv,tb,pv])(hp:lenLV pv=some (.int .i64 n, .no)):Does (tabT tabD) Jaj [.ptr r 0] S fun v S'=>v= .int .i64 n/\S=S':=by
 refine Q6 qy rfl ?_
 simp only[Kt,XZ,simprocAttr,hr,hp]
theorem tableC {S:St}{r:Pt}{t:Nat}{y0 y1 y2 y3 y4 y5 tv tb pv:V}(hr:S.row r= .cells t [y0,y1,y2,y3,y4,y5,tv,tb,pv]):Does (tabT tabD) JaI [.ptr r 0] S fun v S'=>v=tb/\S=S':=by
 refine Q6 Jak rfl ?_
 simp only[KH,XZ,simprocAttr,hr]
set_option maxHeartbeats 4000000 in
theorem orderC (st:St)(hw:WF st)(v:V)(zs:List Int)(hv:IntsAt st v zs)(hz:∀z∈zs,-9223372036854775808<=z/\z<9223372036854775808)(hn:zs.length<=maxLen):
  Does (tabT tabD) jg [v] st fun v' _=>v'= .bool true:=by
 refine Q6 kN rfl ?_
 have hlen:=hv.len
 simp only[JN,XY,simprocAttr]
 rw[Jj];simp only[XY,simprocAttr]
 rw[Jr,Jj];simp only[XY,simprocAttr]
 refine Ju (pureC tabE tabM tabU JhL rfl rfl hw) ?_
 rintro _ S1 ⟨G1,rfl⟩
 simp only[XY,simprocAttr]
 obtain⟨n1,hn1⟩:∃n,S1.nx=up 0 n:=⟨_,up0 _⟩
 rw[Jj];simp only[XY,simprocAttr,hn1]
 refine Ke ?_
 intro S2 hS2
 have G2:Gr S1 S2:=by rw[hS2];exact(Gr.refl G1.wf).nw hn1 (Jh _) (Jh _)
 obtain⟨p3,hp3⟩:∃b,b=up 0 n1:=⟨_,rfl⟩
 obtain⟨t3,r3⟩:∃t,S2.row p3= .cells t [.int .i64 2,ofL [], .snil, .snil]:=⟨_,by rw[hS2,hp3];simp only[XZ,simprocAttr,hn1];rfl⟩
 rw[<-hp3]
 clear hS2
 obtain⟨n2,hn2⟩:∃n,S2.nx=up 0 n:=⟨_,up0 _⟩
 have o3:=fun k=>nes (ko G2.wf hn2 (Jk r3) k)
 rw[Jj];simp only[XY,simprocAttr,hn2,r3,o3]
 refine Ke ?_
 intro S3 hS3
 have w2:=G2.wf
 have G3:Gr S2 S3:=by
  rw[hS3]
  exact(((Gr.new w2 (Jh _)).nn (Jh _)).nn (Jh _)).wr (p:=up 2 n2) (nx0 w2 hn2 2) (by simp only[XZ,simprocAttr,hn2]<;>exact fun e=>by cases e) (by simp only[XZ,simprocAttr,hn2];rfl) (Jh _)
 obtain⟨pn,hpn⟩:∃b,b=up 0 n2:=⟨_,rfl⟩
 obtain⟨pk,hpk⟩:∃b,b=up 1 n2:=⟨_,rfl⟩
 obtain⟨p4,hp4⟩:∃b,b=up 2 n2:=⟨_,rfl⟩
 obtain⟨tn,rn⟩:∃t,S3.row pn= .cells t names3:=⟨_,by rw[hS3,hpn];simp only[XZ,simprocAttr,hn2];rfl⟩
 obtain⟨tk,rk⟩:∃t,S3.row pk= .cells t kids3:=⟨_,by rw[hS3,hpk];simp only[XZ,simprocAttr,hn2];rfl⟩
 obtain⟨t4,r4⟩:∃t,S3.row p4= .cells t [.int .i64 7,ofL [], .slx pn 0 3 1 3, .slx pk 0 3 4 3, .snil, .snil]:=⟨_,by rw[hS3,hp4,hpn,hpk];simp only[XZ,simprocAttr,hn2];rfl⟩
 have nk:pn≠pk:=fun e=>by rw[e,rk]at rn;injection rn with _ rn;cases rn
 rw[<-hp4]
 clear hS3
 have L13:=(G1.trans G2).trans G3
 rw[Jj];simp only[XY,simprocAttr]
 rw[Jj];simp only[XY,simprocAttr]
 obtain⟨J,hJ⟩:∃J:Fr->St->Prop,∀fr S,J fr S<->∃wv,fr 4= .ptr p4 0/\fr 5=ofL (mkT (ksOf zs (min zs.length 20)))/\fr 6=wv/\Gr S3 S/\SlF S3 S wv 1 ((dedS [] (ksOf zs (min zs.length 20))).map inE):=⟨_,fun _ _=>Iff.rfl⟩
 refine Jeg J ?_ ?_
 rotate_left
 ·intro fr S4 hJ4
  obtain⟨wv,f4,f5,f6,G4,h4⟩:=(hJ _ _).1 hJ4
  obtain⟨ks,hks⟩:∃ks,ks=ksOf zs (min zs.length 20):=⟨_,rfl⟩
  have hlt:∀k∈ks,k<6:=by rw[hks];exact Jpm
  have hkn:ks.length<=20:=by rw[hks];unfold ksOf;rw[List.length_map,List.length_take];omega
  rw[<-hks]at f5 h4
  have hml:=JeB ks
  have w4:=G4.wf
  have rn4:=G4.cells rn
  have rk4:=G4.cells rk
  obtain⟨φS,HS,es1,es2⟩:=holdS w4 ⟨_,rn4⟩ ⟨_,rk4⟩ nk
  rw[Jj];simp only[XY,simprocAttr,f5]
  refine⟨by omega, ?_⟩
  refine Ju (parseO (xs:=ks.map xk) w4 (q0:=pn) (Jk rn4) hkn (segsOk ks 0 hlt) Jpi) ?_
  rintro _ S5 ⟨G5,lv,mvv,bt,rfl,hlv,hR⟩
  have r45:=(G4.trans G5).cells r4
  simp only[XY,simprocAttr]
  rw[Jj];simp only[XY,simprocAttr,f4,r45]
  have hck:=check11 (Sp:=S4) (HS.gr G5) (by rw[es1];exact Jk rn4) (by rw[es2];exact Jk rk4) (fun r e=>by rw[G5.same r e];exact e) (hlv.imp fun r e n=>⟨n,rfl⟩) hR (fun x hx=>by
   obtain⟨k,_,rfl⟩:=List.mem_map.1 hx
   exact JrZ) (by rw[List.length_map];exact hkn)
  rw[es1,es2]at hck
  refine Ju hck ?_
  rintro _ S6 ⟨G6,r,S0,y0,y1,y2,y3,y4,y5,tv,tb,pv,rfl,⟨tr,rr⟩,gS0,⟨_,φ,HT,rfl,hs⟩,hpv⟩
  obtain⟨n6,hn6⟩:∃n,S6.nx=up 0 n:=⟨_,up0 _⟩
  simp only[XY,simprocAttr,hn6]
  refine Ke ?_
  intro S7 hS7
  have G7:Gr S6 S7:=by rw[hS7];exact(Gr.refl G6.wf).nw hn6 (Jh _) (Jh _)
  obtain⟨pf,hpf⟩:∃b,b=up 0 n6:=⟨_,rfl⟩
  obtain⟨tf,rf⟩:∃t,S7.row pf= .cells t [.int .i64 0,ofL [], .int .i64 0]:=⟨_,by rw[hS7,hpf];simp only[XZ,simprocAttr,hn6];rfl⟩
  rw[<-hpf]
  clear hS7
  have rr7:=G7.cells rr
  have hpv7:=hpv.gr G7
  rw[show dedS [([],3)] (ks.map xk)=([],3)::(dedS [] ks).map xk from JhK ks [] hlt fun k h=>by cases h]at hpv7
  obtain⟨Wl,hWl⟩:∃W,W=dedS [] ks:=⟨_,rfl⟩
  have hW6:∀k∈Wl,k<6:=by rw[hWl];exact Jru hlt
  have hWn:=Jjr ks
  rw[<-hWl]at hpv7 h4 hWn
  have lpv:=hpv7.at.len
  simp only[List.length_map,List.length_cons]at lpv
  have lwv:=h4.at.len
  rw[List.length_map]at lwv
  rw[Jr,Jj];simp only[XY,simprocAttr,rf]
  rw[Jj];simp only[XY,simprocAttr]
  refine Ju (pairsC G7.wf rr7 (hpv7.at.imp fun _ _ _=>⟨trivial,rfl⟩) (fun e he=>by
   obtain⟨x,_,rfl⟩:=List.mem_map.1 he
   rfl) (by simp only[List.length_map,List.length_cons];omega)) ?_
  rintro pw S8 ⟨G8,h8⟩
  have lpw:=h8.at.len
  simp only[List.length_map,List.length_cons]at lpw
  have rr8:=G8.cells rr7
  have hadd1:IntKind.i64.wrap ((Wl.length:Int)+1)=((Wl.length+1:Nat):Int):=by rw[QH (by omega) (by omega)];rfl
  simp only[XY,simprocAttr]
  rw[Jr,Jj];simp only[XY,simprocAttr,f6,lpw,lwv,hadd1]
  refine Ju (roundsC rr8 lpv) ?_
  rintro _ _ ⟨rfl,rfl⟩
  simp only[XY,simprocAttr,lpw]
  have h48:=((h4.gr ((G5.trans G6).trans G7)).gr G8)
  rw[Jr,Jj];simp only[XY,simprocAttr]
  obtain⟨L,hL⟩:∃L:Nat->Fr->St->Prop,∀j fr S',L j fr S'<->∃i:Nat,j+i=Wl.length/\fr 6=wv/\fr 14= .ptr r 0/\fr 16=pw/\fr 17= .int .i64 i/\Gr S8 S':=⟨_,fun _ _ _=>Iff.rfl⟩
  refine Yh L Wl.length (by omega) ((hL _ _ _).2 ⟨0,by omega,by simp only[XZ,simprocAttr,f6],by simp only[XZ,simprocAttr],by simp only[XZ,simprocAttr],by simp only[XZ,simprocAttr]<;>rfl,Gr.refl G8.wf⟩) ?_
  clear f4 f5 f6
  intro j fr2 S9 hL9
  obtain⟨i,hj,f6,f14,f16,f17,G9⟩:=(hL _ _ _).1 hL9
  by_cases hi:i<Wl.length
  rotate_left
  ·have hi':¬(i:Int)<Wl.length:=by omega
   rw[Jr,Jj];simp only[XY,simprocAttr,f6,f17,lwv,hi']
   simp only[XZ,simprocAttr]
  have hi':(i:Int)<Wl.length:=by omega
  have hadd:IntKind.i64.wrap ((i:Int)+1)=((i+1:Nat):Int):=by rw[QH (by omega) (by omega)];rfl
  have rr9:=G9.cells rr8
  obtain⟨k,hk⟩:∃k,k=Wl[i]:=⟨_,rfl⟩
  have hk6:k<6:=by rw[hk];exact hW6 _ (List.getElem_mem hi)
  obtain⟨qw,ow,w1,wne,_,w2⟩:∃q o,iaddrSV 1 wv (.int .i64 i)=some (.ptr q o, .no)/\S9.row q≠ .none/\True/\ld1 (S9.row q) o=some (.int .i64 (k:Nat), .no):=by
   obtain⟨r,o,b1,_,b0,_,b2⟩:=(h48.gr G9).at.elem (i:=i) (by rw[List.length_map];exact hi)
   have:=b2 0 (by simp[inE])
   exact⟨r,o,b1,b0,trivial,by rw[hk];simpa[inE]using this⟩
  obtain⟨qp,op,v1,vne,v2,v3⟩:∃q o,iaddrSV 2 pw (.int .i64 ((i+1:Nat):Int))=some (.ptr q o, .no)/\S9.row q≠ .none/\ld1 (S9.row q) o=some (ofL (xk k).1, .no)/\ld1 (S9.row q) (o+1)=some (.int .i64 ((xk k).2:Nat), .no):=by
   obtain⟨r,o,b1,_,b0,_,b2⟩:=(h8.gr G9).at.elem (i:=i+1) (by simp only[List.length_map,List.length_cons];omega)
   have e:(((([],3):Str×Nat)::Wl.map xk).map clE)[i+1]'(by simp only[List.length_map,List.length_cons];omega)=[ofL (xk k).1, .int .i64 ((xk k).2:Nat)]:=by
    simp only[List.map_cons,List.getElem_cons_succ,List.getElem_map,hk];rfl
   have c0:=b2 0 (by rw[e];simp)
   have c1:=b2 1 (by rw[e];simp)
   simp only[e]at c0 c1
   exact⟨r,o,b1,b0,c0,c1⟩
  rw[Jr,Jj];simp only[XY,simprocAttr,f6,f17,lwv,hi']
  rw[Jr];simp only[XY,simprocAttr]
  rw[Jj];simp only[XY,simprocAttr,f14]
  refine QC ((tableC (S:={S9 with low:=S9.t}) rr9).mono fun v S' ⟨a,b⟩=>⟨b▸Gr.refl (Yp G9.wf _),a⟩) ?_
  rintro _ S10 G10 rfl
  have v3':ld1 (S10.row qp) (op+1)=some (.int .i64 ((xk k).2:Nat), .no):=by rw[G10.same qp vne];exact v3
  simp only[XY,simprocAttr,f16,f17,hadd,v1,v3']
  have HT10:=((((HT.gr G7).gr G8).gr G9).gr G10)
  obtain⟨kd,hkd,hkb⟩:∃kd:Int,kd=(if k%3=0 then 2 else if k%3=1 then 3 else 1)/\kindB (xk k).2 kd=true:=by
   refine⟨_,rfl, ?_⟩
   rcases(by omega:k=0\/k=1\/k=2\/k=3\/k=4\/k=5)with e|e|e|e|e|e<;>rw[e]
   ·exact kind0
   ·exact kind1
   ·exact kind2
   ·exact kind0
   ·exact kind1
   ·exact kind2
  refine QC (nodeK (HT10.low _) hkb) ?_
  rintro _ S11 G11 ⟨na,nb,nc,rfl,sa,sb,sc⟩
  obtain⟨n11,hn11⟩:∃n,S11.nx=up 0 n:=⟨_,up0 _⟩
  have ca:=(One.of sa).2
  have cb:=(One.of sb).2
  have cc:=(One.of sc).2
  simp only[XY,simprocAttr,hn11,sa,sb,sc,ca,cb,cc]
  refine Ke ?_
  intro S12 hS12
  have G12:Gr S11 S12:=by rw[hS12];exact(Gr.refl G11.wf).nw hn11 (Jh _) (Jh _)
  obtain⟨p18,hp18⟩:∃b,b=up 0 n11:=⟨_,rfl⟩
  obtain⟨t18,r18⟩:∃t,S12.row p18= .cells t [.int .i64 kd,na,nb,nc]:=⟨_,by rw[hS12,hp18];simp only[XZ,simprocAttr,hn11];rfl⟩
  rw[<-hp18]
  clear hS12
  have G912:=(G10.trans G11).trans G12
  have v2':ld1 (S12.row qp) op=some (ofL (xk k).1, .no):=by rw[G912.same qp vne];exact v2
  have w2':ld1 (S12.row qw) ow=some (.int .i64 (k:Nat), .no):=by rw[G912.same qw wne];exact w2
  obtain⟨n12,hn12⟩:∃n,S12.nx=up 0 n:=⟨_,up0 _⟩
  have wne':S12.row qw≠ .none:=by rw[G912.same qw wne];exact wne
  have vne':S12.row qp≠ .none:=by rw[G912.same qp vne];exact vne
  have ow12:=fun k=>nes (ko G12.wf hn12 wne' k)
  have op12:=fun k=>nes (ko G12.wf hn12 vne' k)
  have o18:=fun k=>nes (ko G12.wf hn12 (Jk r18) k)
  have fin:∀(fr':Fr) (S':St),fr' 6=wv->fr' 14= .ptr r 0->fr' 16=pw->fr' 17= .int .i64 ((i+1:Nat):Int)->Gr S12 S'->∃j',j'<j/\L j' fr' S':=fun fr' S' a b c d g=>⟨Wl.length-(i+1),by omega,(hL _ _ _).2 ⟨i+1,by omega,a,b,c,d,(G9.trans G912).trans g⟩⟩
  have gnn:∀l1 l2:List V,Gr S12 ((S12.new fun t=> .cells t l1).new fun t=> .cells t l2):=fun l1 l2=>(Gr.new G12.wf (Jh _)).nn (Jh _)
  rcases(by omega:k=0\/k=1\/k=2\/k=3\/k=4\/k=5)with e|e|e|e|e|e
  all_goals
   rw[e]at v2' w2' hkd
   simp only[xk]at v2'
   simp at hkd
   subst hkd
   simp at v2'
   rw[Jj];simp only[XY,simprocAttr,f6,f16,f17,hadd,v1,v2',w1,w2',hn12,ow12,op12,o18,r18]
   exact fin _ _ (by simp only[XZ,simprocAttr,f6]) (by simp only[XZ,simprocAttr,f14]) (by simp only[XZ,simprocAttr,f16]) (by simp only[XZ,simprocAttr]) (by first|exact gnn _ _|exact Gr.refl G12.wf|exact Gr.new G12.wf (Jh _))
 rw[Jj];simp only[XY,simprocAttr]
 obtain⟨L,hL⟩:∃L:Nat->Fr->St->Prop,∀j fr S',L j fr S'<->∃(i:Nat) (wv:V),j+i=min zs.length 20/\fr 0=v/\fr 4= .ptr p4 0/\fr 5=ofL (mkT (ksOf zs i))/\fr 6=wv/\fr 7= .int .i64 i/\Gr S3 S'/\SlF S3 S' wv 1 ((dedS [] (ksOf zs i)).map inE):=⟨_,fun _ _ _=>Iff.rfl⟩
 refine Yh L (min zs.length 20) (by omega) ((hL _ _ _).2 ⟨0, .snil,by omega,by simp only[XZ,simprocAttr],by simp only[XZ,simprocAttr],by simp only[XZ,simprocAttr]<;>rfl,by simp only[XZ,simprocAttr],by simp only[XZ,simprocAttr]<;>rfl,Gr.refl G3.wf,SlF.nil _ _ _⟩) ?_
 intro j fr S4 hLj
 obtain⟨i,wv,hj,f0,f4,f5,f6,f7,G4,h4⟩:=(hL _ _ _).1 hLj
 have lwv:=h4.at.len
 rw[List.length_map]at lwv
 have hdl:=Jjr (ksOf zs i)
 have hkl:(ksOf zs i).length<=i:=by unfold ksOf;rw[List.length_map,List.length_take];omega
 by_cases hi:i<min zs.length 20
 rotate_left
 ·have hie:i=min zs.length 20:=by omega
  rw[hie]at f5 h4
  by_cases h1:i<zs.length
  ·have h1':(i:Int)<zs.length:=by omega
   have h2':¬(i:Int)<20:=by omega
   rw[Jr,Jj];simp only[XY,simprocAttr,f0,f7,hlen,h1',h2']
   exact(hJ _ _).2 ⟨wv,by simp only[XZ,simprocAttr,f4],by simp only[XZ,simprocAttr,f5],by simp only[XZ,simprocAttr,f6],G4,h4⟩
  ·have h1':¬(i:Int)<zs.length:=by omega
   rw[Jr,Jj];simp only[XY,simprocAttr,f0,f7,hlen,h1']
   exact(hJ _ _).2 ⟨wv,by simp only[XZ,simprocAttr,f4],by simp only[XZ,simprocAttr,f5],by simp only[XZ,simprocAttr,f6],G4,h4⟩
 have h1':(i:Int)<zs.length:=by omega
 have h2':(i:Int)<20:=by omega
 have hi1:i<zs.length:=by omega
 have hadd1:IntKind.i64.wrap ((i:Int)+1)=((i+1:Nat):Int):=by rw[QH (by omega) (by omega)];rfl
 obtain⟨q,a1,a2⟩:=(hv.gr (L13.trans G4)).at hi1
 have a3:ld1 (S4.row q) i=some (.int .i64 zs[i], .no):=by rw[a2,Jhp,JlH hi1];rfl
 rw[Jr,Jj];simp only[XY,simprocAttr,f0,f7,hlen,h1',h2']
 rw[Jr];simp only[XY,simprocAttr]
 rw[Jj];simp only[XY,simprocAttr,f0,f7,a1,a3]
 refine Ju (Jkc zs[i] 6 _ (by decide) (by decide)) ?_
 rintro _ _ ⟨rfl,rfl⟩
 rw[<-Jpl]
 have hk6:=JmN zs[i]
 obtain⟨k,hk⟩:∃k,k=kOf zs[i]:=⟨_,rfl⟩
 rw[<-hk]at hk6⊢
 simp only[XY,simprocAttr]
 obtain⟨n4,hn4⟩:∃n,S4.nx=up 0 n:=⟨_,up0 _⟩
 obtain⟨I,hI⟩:∃I:Fr->St->Prop,∀fr S,I fr S<->(fr 0=v/\fr 4= .ptr p4 0/\fr 5=ofL (mkT (ksOf zs (i+1)))/\fr 6=wv/\fr 7= .int .i64 i/\fr 8= .int .i64 (k:Nat)/\Gr S4 S):=⟨_,fun _ _=>Iff.rfl⟩
 refine JoY I ?_ ?_
 ·have hseg:∀a,ksOf zs (i+1)=ksOf zs i++[a]->mkT (ksOf zs (i+1))=mkT (ksOf zs i)++seg1 a:=fun a h=>by rw[h,JmE]
  have hks:=JdS hi1
  have hml:=JeB (ksOf zs i)
  rw[<-hk]at hks
  have hmk:=hseg k hks
  have g2:∀l1 l2:List V,Gr S4 ((S4.new fun t=> .cells t l1).new fun t=> .cells t l2):=fun l1 l2=>(Gr.new G4.wf (Jh _)).nn (Jh _)
  rcases(by omega:k=0\/k=1\/k=2\/k=3\/k=4\/k=5)with e|e|e|e|e|e
  all_goals
   rw[e]at hmk⊢
   simp only[XZ,simprocAttr,f5,hn4]
   refine⟨by omega,by simp only[List.length_append,List.length_cons,List.length_nil];omega,by simp only[List.length_append,List.length_cons,List.length_nil];omega,by simp only[List.length_append,List.length_cons,List.length_nil];omega,by simp only[List.length_append,List.length_cons,List.length_nil];omega,(hI _ _).2 ⟨by simp only[XZ,simprocAttr,f0],by simp only[XZ,simprocAttr,f4], ?_,by simp only[XZ,simprocAttr,f6],by simp only[XZ,simprocAttr,f7],by simp only[XZ,simprocAttr];rw[e];rfl, ?_⟩⟩
   ·simp only[XZ,simprocAttr]
    rw[hmk]
    simp only[seg1,segS,List.append_assoc,List.cons_append,List.nil_append]
   ·exact g2 _ _
 intro fr5 S5 hI5
 obtain⟨f0,f4,f5,f6,f7,f8,G5⟩:=(hI _ _).1 hI5
 have h5:=h4.gr G5
 have G35:=G4.trans G5
 obtain⟨Wl,hWl⟩:∃W,W=dedS [] (ksOf zs i):=⟨_,rfl⟩
 rw[<-hWl]at h5 hdl lwv
 rw[Jj];simp only[XY,simprocAttr]
 rw[Jr,Jj];simp only[XY,simprocAttr]
 obtain⟨M,hM⟩:∃M:Nat->Fr->St->Prop,∀j fr S',M j fr S'<->∃jj:Nat,j+jj=Wl.length/\S'=S5/\fr 0=v/\fr 4= .ptr p4 0/\fr 5=ofL (mkT (ksOf zs (i+1)))/\fr 6=wv/\fr 7= .int .i64 i/\fr 8= .int .i64 (k:Nat)/\fr 9= .bool ((Wl.take jj).any fun x=>decide ((x:Int)=(k:Int)))/\fr 10= .int .i64 jj:=⟨_,fun _ _ _=>Iff.rfl⟩
 refine Yh M Wl.length (by omega) ((hM _ _ _).2 ⟨0,by omega,rfl,by simp only[XZ,simprocAttr,f0],by simp only[XZ,simprocAttr,f4],by simp only[XZ,simprocAttr,f5],by simp only[XZ,simprocAttr,f6],by simp only[XZ,simprocAttr,f7],by simp only[XZ,simprocAttr,f8],by simp only[XZ,simprocAttr]<;>rfl,by simp only[XZ,simprocAttr]<;>rfl⟩) ?_
 clear f0 f4 f5 f6 f7 f8 hI5
 intro j3 fr6 S6 hM6
 obtain⟨jj,hjj,rfl,f0,f4,f5,f6,f7,f8,f9,f10⟩:=(hM _ _ _).1 hM6
 by_cases hc:jj<Wl.length
 ·have hc':(jj:Int)<Wl.length:=by omega
  have hjadd:IntKind.i64.wrap ((jj:Int)+1)=((jj+1:Nat):Int):=by rw[QH (by omega) (by omega)];rfl
  obtain⟨r,o,b1,_,_,_,b2⟩:=h5.at.elem (i:=jj) (by rw[List.length_map];exact hc)
  have b3:ld1 (S6.row r) o=some (.int .i64 (Wl[jj]:Nat), .no):=by
   have:=b2 0 (by simp[inE])
   simpa[inE]using this
  have hany:(Wl.take (jj+1)).any (fun x=>decide ((x:Int)=(k:Int)))=((Wl.take jj).any (fun x=>decide ((x:Int)=(k:Int)))||decide ((Wl[jj]:Int)=(k:Int))):=by
   rw[List.take_add_one,List.getElem?_eq_getElem hc,List.any_append];simp
  rw[Jr,Jj];simp only[XY,simprocAttr,f6,f10,lwv,hc']
  cases hb:(Wl.take jj).any fun x=>decide ((x:Int)=(k:Int))with
  | true=>
    rw[hb]at f9 hany
    rw[Jr];simp only[XZ,simprocAttr,f6,f8,f9,f10,b1,b3,hjadd]
    refine⟨Wl.length-(jj+1),by omega,(hM _ _ _).2 ⟨jj+1,by omega,rfl,by simp only[XZ,simprocAttr,f0],by simp only[XZ,simprocAttr,f4],by simp only[XZ,simprocAttr,f5],by simp only[XZ,simprocAttr,f6],by simp only[XZ,simprocAttr,f7],by simp only[XZ,simprocAttr,f8],by simp only[XZ,simprocAttr];rw[hany];rfl,by simp only[XZ,simprocAttr]⟩⟩
  | false=>
    rw[hb]at f9 hany
    rw[Jr];simp only[XZ,simprocAttr,f6,f8,f9,f10,b1,b3,hjadd]
    refine⟨Wl.length-(jj+1),by omega,(hM _ _ _).2 ⟨jj+1,by omega,rfl,by simp only[XZ,simprocAttr,f0],by simp only[XZ,simprocAttr,f4],by simp only[XZ,simprocAttr,f5],by simp only[XZ,simprocAttr,f6],by simp only[XZ,simprocAttr,f7],by simp only[XZ,simprocAttr,f8],by simp only[XZ,simprocAttr];rw[hany];rfl,by simp only[XZ,simprocAttr]⟩⟩
 have hc':¬(jj:Int)<Wl.length:=by omega
 rw[List.take_of_length_le (by omega),Jpn]at f9
 rw[Jr,Jj];simp only[XY,simprocAttr,f6,f10,lwv,hc']
 have hks:=JdS hi1
 rw[<-hk]at hks
 have hde:dedS [] (ksOf zs (i+1))=if k∈Wl then Wl else Wl++[k]:=by rw[hks,jU,<-hWl]
 by_cases hin:k∈Wl
 ·rw[if_pos hin]at hde
  have f9':fr6 9= .bool true:=by rw[f9];simp[hin]
  rw[Jj];simp only[XY,simprocAttr,f9']
  simp only[XZ,simprocAttr,f0,f4,f5,f6,f7,hadd1]
  refine⟨min zs.length 20-(i+1),by omega,(hL _ _ _).2 ⟨i+1,wv,by omega,by simp only[XZ,simprocAttr,f0],by simp only[XZ,simprocAttr,f4],by simp only[XZ,simprocAttr,f5],by simp only[XZ,simprocAttr,f6],by simp only[XZ,simprocAttr],G35,by rw[hde];exact h5⟩⟩
 rw[if_neg hin]at hde
 have f9':fr6 9= .bool false:=by rw[f9];simp[hin]
 obtain⟨n6,hn6⟩:∃n,S6.nx=up 0 n:=⟨_,up0 _⟩
 rw[Jj];simp only[XY,simprocAttr,f9',f6,f8,hn6]
 obtain⟨A3,hA3⟩:∃A,A=(S6.new fun t=>Row.cells t [.int .i64 (k:Nat)]):=⟨_,rfl⟩
 have ga3:Gr S6 A3:=by rw[hA3];exact Gr.new G35.wf (Jh _)
 have hone:SlAt (fun r=>r=up 0 n6) A3 (.slx (up 0 n6) 0 1 1 1) 1 [inE k]:=by
  have:=Jb2 (st:=S6) (z:=1) (e:=inE k) rfl
  rwa [hn6,show(S6.new fun t=>Row.cells t (inE k))=A3 from hA3.symm]at this
 rw[<-hA3]
 clear hA3
 refine JeA (S0:=S3) (G35.trans ga3) (h5.gr ga3) hone (fun e he=>by rw[List.mem_singleton.1 he];rfl) (by simp) (by simp) (by rw[List.length_map];simp;omega) ?_
 intro A4 g4 h6 kp4
 have hmp:Wl.map inE++[inE k]=(dedS [] (ksOf zs (i+1))).map inE:=by rw[hde];simp
 rw[hmp]at h6
 simp only[XZ,simprocAttr,f0,f4,f5,f6,f7,hadd1]
 refine⟨min zs.length 20-(i+1),by omega,(hL _ _ _).2 ⟨i+1,_,by omega,by simp only[XZ,simprocAttr,f0],by simp only[XZ,simprocAttr,f4],by simp only[XZ,simprocAttr,f5],by simp only[XZ,simprocAttr]<;>rfl,by simp only[XZ,simprocAttr],g4,h6⟩⟩
end Go.Proofs.YtifphobkpfjikaaGreat
