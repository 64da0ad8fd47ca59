/- The end of a match's text is read. The whole text of a match is parsed. The tables of unions, in small memories; what is asked of nodes. The pipelines of a match, in small memories. The pipelines of a match, in small memories. The pipelines of a match, in small memories. A union's node, in small memories. What was found in small memories, used: rows of a match. What was found in small memories, -/
import Derived.Test.YtcgiahehkobpcaaGreatQ1
set_option linter.unusedVariables false
set_option linter.unusedSimpArgs false
set_option linter.unusedSectionVars false
set_option maxRecDepth 100000
namespace Go.Proofs.YtcgiahehkobpcaaGreat
open Eva Go.RowKit
theorem stepX {φ:Rn}{b b' S:St}(H:Hold φ b S){pp:Pt}{i:Nat}{at_:Int}{s:V}(hpr:b.row pp≠ .none)(hat:φ.s i= .int .i64 at_)(hs:closed s=true)
  (hr:run (tabT tabD) 60 Ky [.ptr pp 0, .agg [.bool false,s, .opq i]] b=some (.int .i64 0,b')) (hi:inT b'.nx.num b'.h=true):
  Does (tabT tabD) Ky [.ptr (φ pp) 0, .agg [.bool false,s, .int .i64 at_]] S fun v S'=>v= .int .i64 0/\Fr7 φ b b' S S'/\∃ψ,Agr b.nx.num φ ψ/\Hold ψ b' S'/\∀q:Pt,b.nx.num<=q.num->S.row (ψ q)= .none:=by
 have hp:=H.none hpr
 have:=H.goW tabE tabM tabU (args:=[.ptr pp 0, .agg [.bool false,s, .opq i]]) (by simp only[inVs,inV,kj _ s hs,decide_eq_true hp];rfl) hr hi
 simp only[List.map_cons,List.map_nil,mv,mvs,JB φ s hs,hat]at this
 exact this.mono fun v S' ⟨m,fr,ψ,ag,e,H',fh⟩=>⟨e.trans (by simp only[mv]),⟨m.mono,fr⟩,ψ,ag,H',fh⟩
theorem num0 {q:Pt}(h:q.num=0):q= .h:=Pt.num_inj h
theorem JoX {q:Pt}(h:q.num<4):q= .h\/q= .a .h\/q= .b .h\/q= .c .h:=by
 rcases(by omega:q.num=0\/q.num=1\/q.num=2\/q.num=3)with e|e|e|e
 ·exact .inl (Pt.num_inj e)
 ·exact .inr (.inl (Pt.num_inj e))
 ·exact .inr (.inr (.inl (Pt.num_inj e)))
 ·exact .inr (.inr (.inr (Pt.num_inj e)))
theorem stepGo {Sb S S1:St}{p q0:Pt}{φ:Rn}{b b':St}{f:Nat}{args:List V}{rest:List Prt}{Q:St->Prop}{u v:Nat}(T:TS (fun s=>s=p\/s=q0) 4 S φ b S1)(hz:φ pp2=p)(hy:φ pq2=q0)(hn:Nat.ble b.nx.num b'.nx.num=true)(d0:b.row .h= .dead u)(d1:b'.row .h= .dead u)(g0:b.row (.a .h)= .dead v)(g1:b'.row (.a .h)= .dead v)(hSb:∀q,Sb.row q≠ .none->S.row q≠ .none/\q≠p/\q≠q0)
  (st:Does (tabT tabD) f args S1 fun v S'=>v= .int .i64 0/\Fr7 φ b b' S1 S'/\∃ψ,Agr b.nx.num φ ψ/\Hold ψ b' S'/\∀q:Pt,b.nx.num<=q.num->S1.row (ψ q)= .none)
  (k:∀S' ψ,TS (fun s=>s=p\/s=q0) 4 S ψ b' S'->ψ pp2=p->ψ pq2=q0->ψ .h=φ .h->ψ (.a .h)=φ (.a .h)->ψ.s=φ.s->StepsD Sb p rest S' Q):
  Does (tabT tabD) f args S1 fun v S'=>v= .int .i64 0/\WF S'/\(∀q,Sb.row q≠ .none->S'.row q=S1.row q)/\StepsD Sb p rest S' Q:=by
 refine st.mono fun v S' ⟨e,F,ψ,ag,H,fr⟩=> ?_
 have T':=T.next F (Nat.le_of_ble_eq_true hn) ag H fr fun q hq hb hc=>by
  rcases JoX hq with rfl|rfl|rfl|rfl
  ·exact absurd (d1.trans d0.symm) hc
  ·exact absurd (g1.trans g0.symm) hc
  ·exact .inr hy
  ·exact .inl hz
 have l2:=T.le
 have nW:∀q,Sb.row q≠ .none->¬(q=p\/q=q0):=fun q hq w=>by
  rcases w with w|w
  ·exact(hSb q hq).2.1 w
  ·exact(hSb q hq).2.2 w
 refine⟨e,H.wf,fun q hq=>by rw[T'.keep q (hSb q hq).1 (nW q hq),T.keep q (hSb q hq).1 (nW q hq)],k S' ψ T' (by rw[ag.f _ (by show 3<_;omega),hz]) (by rw[ag.f _ (by show 2<_;omega),hy]) (ag.f _ (by show 0<_;omega)) (ag.f _ (by show 1<_;omega)) ag.s⟩
structure TEnd (S S':St) (p q0:Pt) (b:St) (φ:Rn):Prop where
 mono:Mono S S'
 keep:∀s,S.row s≠ .none->s≠p->s≠q0->S'.row s=S.row s
 ex:∃ψ:Rn,Hold ψ b S'/\ψ .h=φ .h/\ψ (.a .h)=φ (.a .h)/\ψ pp2=p/\ψ.s=φ.s/\∀q:Pt,4<=q.num->b.row q≠ .none->S.row (ψ q)= .none
theorem endMC {Sb S:St}{p q0:Pt}{w:V}{way:Int}{c:Nat}{o:Bool}{φ:Rn}{Q:St->Prop}(H:Hold φ (e0 w way) S)(hp:φ pp2=p)(hq:φ pq2=q0)(hT:EndOk w way)(h0:φ.s 0= .int .i64 c)(h1:o=true->φ.s 1= .int .i64 ((c+8:Nat):Int))(h2:φ.s 2= .int .i64 ((c+9:Nat):Int))
  (hSb:∀q,Sb.row q≠ .none->S.row q≠ .none/\q≠p/\q≠q0) (k:∀S',TEnd S S' p q0 (if o then e3 w way else f1 w way) φ->Q S'):StepsD Sb p (tpM o c) S Q:=by
 have hb0:(e0 w way).nx.num=4:=rfl
 have T0:TS (fun s=>s=p\/s=q0) 4 S φ (e0 w way) S:=TS.start H
 have pr0:(e0 w way).row pp2≠ .none:=by intro e;cases e
 have l0:=Yw (H.row pp2 (by rw[hb0];decide)) pr0
 rw[hp]at l0
 have liveK:∀{b:St} {ψ:Rn} {S2:St},TS (fun s=>s=p\/s=q0) 4 S ψ b S2->ψ pp2=p->b.row pp2≠ .none:=fun{b ψ S2} T z e=>by
  have:=T.H.row pp2 (by have:=T.le;show 3<_;omega)
  rw[e]at this
  have this:S2.row (ψ pp2)= .none:=this
  rw[z]at this
  exact T.live _ l0 this
 have nW:∀s,s≠p->s≠q0->¬(s=p\/s=q0):=fun s a b w=>by
  rcases w with w|w
  ·exact a w
  ·exact b w
 cases o with
 | false=>
   show StepsD Sb p [(true,mEnd,c)] S Q
   rw[StepsD]
   have st1:=stepT (i:=0) (pp:=pp2) H pr0 h0 Jjf rfl rfl rfl hT.rf hT.if1
   rw[hp]at st1
   refine stepGo T0 hp hq hT.nf rfl hT.df rfl hT.gf hSb st1 ?_
   intro S1 ψ1 T1 z1 x1 y1 a1 s1
   rw[StepsD]
   exact k S1 ⟨T1.mono,fun s a b c=>T1.keep s a (nW s b c),ψ1,T1.H,y1,a1,z1,s1,T1.fresh⟩
 | true=>
   show StepsD Sb p [(true,mElse,c),(false,[101],c+8),(true,mEnd,c+9)] S Q
   rw[StepsD]
   have st1:=stepT (i:=0) (pp:=pp2) H pr0 h0 JmU rfl rfl rfl hT.r1 hT.i1
   rw[hp]at st1
   refine stepGo T0 hp hq hT.n1 rfl hT.d1 rfl hT.g1 hSb st1 ?_
   intro S1 ψ1 T1 z1 x1 y1 a1 s1
   rw[StepsD]
   have st2:=stepX (i:=1) (pp:=pp2) T1.H (liveK T1 z1) (by rw[s1];exact h1 rfl) rfl hT.r2 hT.i2
   rw[z1]at st2
   refine stepGo T1 z1 x1 hT.n2 hT.d1 hT.d2 hT.g1 hT.g2 hSb st2 ?_
   intro S2 ψ2 T2 z2 x2 y2 a2 s2
   rw[s1]at s2;rw[y1]at y2;rw[a1]at a2
   rw[StepsD]
   have st3:=stepT (i:=2) (pp:=pp2) T2.H (liveK T2 z2) (by rw[s2];exact h2) Jjf rfl rfl rfl hT.r3 hT.i3
   rw[z2]at st3
   refine stepGo T2 z2 x2 hT.n3 hT.d2 hT.d3 hT.g2 hT.g3 hSb st3 ?_
   intro S3 ψ3 T3 z3 x3 y3 a3 s3
   rw[s2]at s3;rw[y2]at y3;rw[a2]at a3
   rw[StepsD]
   exact k S3 ⟨T3.mono,fun s a b c=>T3.keep s a (nW s b c),ψ3,T3.H,y3,a3,z3,s3,T3.fresh⟩
def PvE (Sp S:St)(X:Pt->Prop)(F:St->V->Bool)(at_:Int)(pv:V):Prop:=
 ∃(χ:Rn) (a:St) (r:Pt),pv= .slx (χ r) 0 1 1 1/\Hold χ a S/\F a (.slx r 0 1 1 1)=true/\r.num<a.nx.num/\χ.s 0= .int .i64 at_/\∀x:Pt,a.row x≠ .none->Sp.row (χ x)= .none/\¬X (χ x)
theorem PvE.fz {Sp S S':St}{X:Pt->Prop}{F:St->V->Bool}{at_:Int}{pv:V}(h:PvE Sp S X F at_ pv)(g:Fz S S'):PvE Sp S' X F at_ pv:=by
 obtain⟨χ,a,r,e,H,h⟩:=h
 exact⟨χ,a,r,e,H.fz g,h⟩
def CaseE (Sp S:St)(F:St->V->Bool)(k:Nat)(e:List V):Prop:=
 ∃(rb:Pt) (at_:Int) (pv:V),e=[ofL (tagS k), .sl rb 0 1 9]/\(∃t,S.row rb= .cells t (ndN 2 at_ [] [] pv))/\Sp.row rb= .none/\PvE Sp S (fun r=>r=rb) F at_ pv
theorem CaseE.fz {Sp S S':St}{F:St->V->Bool}{k:Nat}{e:List V}(h:CaseE Sp S F k e)(g:Fz S S'):CaseE Sp S' F k e:=by
 obtain⟨rb,at_,pv,e1,⟨t,e2⟩,e3,e4⟩:=h
 exact⟨rb,at_,pv,e1,⟨t,by rw[g.same rb (Jh e2),e2]⟩,e3,e4.fz g⟩
def elE (at_:Int):List V:=[.int .i64 1, .int .i64 at_,ofL [101],ofL [], .snil, .snil, .snil, .bool false, .snil]
structure MatchR (Sp S:St) (F0 F:St->V->Bool) (ks:List Nat) (o:Bool) (rm:Pt):Prop where
 ex:∃pv0 ev cv cs,(∃t,S.row rm= .cells t [.int .i64 8, .int .i64 0,ofL [],ofL [],pv0, .snil,ev, .bool o,cv])/\Sp.row rm= .none/\PvE Sp S (fun _=>False) F0 0 pv0/\
  (if o then∃re at_,ev= .sl re 0 1 9/\(∃t,S.row re= .cells t (elE at_))/\Sp.row re= .none else ev= .snil)/\
  SlAt (fun _=>True) S cv 2 cs/\cs.length=ks.length/\∀i (h:i<cs.length) (h':i<ks.length),CaseE Sp S F ks[i] cs[i]
theorem SlAt.fz {S S':St}{v:V}{z:Nat}{es:List (List V)}(h:SlAt (fun _=>True) S v z es)(g:Fz S S'):SlAt (fun _=>True) S' v z es:=h.imp fun r _ e=>⟨trivial,g.same r e⟩
theorem MatchR.fz {Sp S S':St}{F0 F:St->V->Bool}{ks:List Nat}{o:Bool}{rm:Pt}(h:MatchR Sp S F0 F ks o rm)(g:Fz S S'):MatchR Sp S' F0 F ks o rm:=by
 obtain⟨pv0,ev,cv,cs,⟨t,h1⟩,h2,h3,h4,h5,h6,h7⟩:=h.ex
 refine⟨pv0,ev,cv,cs,⟨t,by rw[g.same rm (Jh h1),h1]⟩,h2,h3.fz g, ?_,SlAt.fz h5 g,h6,fun i a b=>(h7 i a b).fz g⟩
 cases o with
 |false=>exact h4
 | true=>
   obtain⟨re,at_,a,⟨t,b⟩,c⟩:=h4
   exact⟨re,at_,a,⟨t,by rw[g.same re (Jh b),b]⟩,c⟩
theorem startE {Sp Sb S:St}{p q q0:Pt}{pv0:V}{way:Int}{cv:V}{cs:List (List V)}{F0 F:St->V->Bool}{ks:List Nat}(h:MS Sp Sb S p q pv0 way cv cs F0 F ks)(hsp:∀r,Sp.row r≠ .none->Sb.row r≠ .none)(hq:Sp.row q0≠ .none)(s:Nat->V)(hs:∀i,∃k n,s i= .int k n):
  ∃(φ:Rn) (w:V),Hold φ (e0 w way) S/\φ pp2=p/\φ pq2=q/\φ.s=s/\EndOk w way/\(∀ψ:Rn,ψ .h=φ .h->ψ (.a .h)=φ (.a .h)->mv ψ w=cv/\mv ψ (.slx .h 0 1 1 1)=pv0):=by
 obtain⟨tp,rp⟩:=h.P.c
 obtain⟨tq,rq⟩:=h.P.o
 have hw:=h.P.g.wf
 obtain⟨χ,a,r,u,epv,H,h1,h2,h2',h2'',h3,h4,h5,h6⟩:=h.h0
 have l0:S.row (χ r)≠ .none:=Yw (H.row r h2) h2''
 have x0:=h6 r h2' h2''
 have r0p:χ r≠p:=fun e=>h2' (H.inj r .h (by rw[e,h5]))
 have key:∀(rc:Pt) (w:V),S.row rc≠ .none->rc≠χ r->rc≠p->rc≠q->EndOk w way->inV 2 w=true->(∀ψ:Rn,ψ (.a .h)=rc->mv ψ w=cv)->∃(φ:Rn) (w:V),Hold φ (e0 w way) S/\φ pp2=p/\φ pq2=q/\φ.s=s/\EndOk w way/\(∀ψ:Rn,ψ .h=φ .h->ψ (.a .h)=φ (.a .h)->mv ψ w=cv/\mv ψ (.slx .h 0 1 1 1)=pv0):=fun rc w lc c1 c2 c3 hT hin hm=>by
  have H0:=Hold.start (S:=S) s hs hw
  obtain⟨φ1,ag1,e1,H1⟩:=H0.add (q:=χ r) (f:=fun t=> .dead t) (fun u=>⟨rfl,by intro e;cases e⟩) l0 (fun p h=>absurd h (Nat.not_lt_zero _)) ⟨l0,trivial⟩ rfl rfl
  have e1:φ1 .h=χ r:=e1
  obtain⟨φ2,ag2,e2,H2⟩:=H1.add (q:=rc) (f:=fun t=> .dead t) (fun u=>⟨rfl,by intro e;cases e⟩) lc (fun x hx=>by
   have:x= .h:=num0 (by have:x.num<1:=hx;omega)
   rw[this,e1];exact Ne.symm c1) ⟨lc,trivial⟩ rfl rfl
  have e2:φ2 (.a .h)=rc:=e2
  have a2:φ2 .h=χ r:=by rw[ag2.f .h (by decide),e1]
  have two:∀x:Pt,x.num<2->x= .h\/x= .a .h:=fun x hx=>by
   rcases(by omega:x.num=0\/x.num=1)with e|e
   ·exact .inl (Pt.num_inj e)
   ·exact .inr (Pt.num_inj e)
  have cl:∀(ψ:Rn) (s:Str),mv ψ (ofL s)=ofL s:=fun ψ s=>JB ψ _ rfl
  obtain⟨φ3,ag3,e3,H3⟩:=H2.add (q:=q) (f:=fun t=> .cells t (opR 0 (.slx .h 0 1 1 1) .snil false w way)) (Jj _) (Jh rq) (fun x hx=>by
   rcases two x hx with rfl|rfl
   ·rw[a2];exact fun e=>x0 (.inr (.inl e))
   ·rw[e2];exact c3) ⟨tq,by rw[rq];simp only[opR,List.map_cons,List.map_nil,mv,cl,a2,hm φ2 e2,epv],trivial⟩ (by
   show inVs 2 (opR 0 (.slx .h 0 1 1 1) .snil false w way)=true
   simp only[opR,inVs,inV,hin];rfl) hT.h00
  have e3:φ3 (.b .h)=q:=e3
  have a3:φ3 .h=χ r:=by rw[ag3.f .h (by decide),a2]
  have b3:φ3 (.a .h)=rc:=by rw[ag3.f (.a .h) (by decide),e2]
  obtain⟨φ4,ag4,e4,H4⟩:=H3.add (q:=p) (f:=fun t=> .cells t [.sl pq2 0 1 12, .snil, .snil, .int .i64 0]) (Jj _) (Jh rp) (fun x hx=>by
   have hx:x.num<3:=hx
   by_cases c:x.num<2
   ·rcases two x c with rfl|rfl
    ·rw[a3];exact r0p
    ·rw[b3];exact c2
   ·have:x= .b .h:=Pt.num_inj (show x.num=2 by omega)
    rw[this,e3];exact Ne.symm h.P.pq) ⟨tp,by rw[rp];simp only[List.map_cons,List.map_nil,mv,pq2,e3],trivial⟩ rfl hT.h0
  refine⟨φ4,w,H4,e4,by rw[show pq2= .b .h from rfl,ag4.f (.b .h) (show 2<3 by decide),e3],by rw[ag4.s,ag3.s,ag2.s,ag1.s],hT,fun ψ y1 y2=>⟨hm ψ ?_, ?_⟩⟩
  ·rw[y2,ag4.f (.a .h) (show 1<3 by decide),b3]
  ·rw[mv,y1,ag4.f .h (show 0<3 by decide),a3,epv]
 have live:∀{r:Pt},Sp.row r≠ .none->S.row r≠ .none:=fun{r} e=>by rw[h.P.g.same r (hsp r e)];exact hsp r e
 rcases h.P.m.2 with⟨e,_⟩|⟨rc,t,k1,k2,k3⟩
 ·refine key q0 .snil (live hq) (fun e=>x0 (.inl (by rw[<-e];exact hq))) (fun e=>hsp _ hq (by rw[e];exact h.P.pn)) (fun e=>hsp _ hq (by rw[e];exact h.P.qn)) (JoW way) rfl fun ψ _=>by rw[e];simp only[mv]
 ·have ecv:rowOf cv=some rc:=by rcases k3 with e|e<;>(rw[e];rfl)
  have c1:rc≠χ r:=fun e=>x0 (.inr (.inr (by rw[ecv,e])))
  have c2:rc≠p:=fun e=>h.P.am (by rw[ecv,e])
  have c3:rc≠q:=fun e=>h.P.aq (by rw[ecv,e])
  rcases k3 with e|e
  ·exact key rc (.sl (.a .h) 0 cs.length 2) (Jh k2) c1 c2 c3 (JrH _ way) rfl fun ψ y=>by rw[e,mv,y]
  ·exact key rc (.slx (.a .h) 0 cs.length 2 cs.length) (Jh k2) c1 c2 c3 (JoV _ way) rfl fun ψ y=>by rw[e,mv,y]
theorem PvH.e {Sp S S':St}{p:Pt}{X X':Pt->Prop}{F:St->V->Bool}{at_:Int}{pv:V}(h:PvH S p X F at_ pv)(hX:∀r,Sp.row r≠ .none->X r)(hX':∀r,X' r->X r)(hp:Sp.row p= .none)(hp':¬X' p)(m:Mono S S')(k:∀r,S.row r≠ .none->r≠p->¬X r->S'.row r=S.row r):PvE Sp S' X' F at_ pv:=by
 obtain⟨χ,a,r,u,e,H,h1,h2,h2',h2'',h3,h4,h5,h6⟩:=h
 refine⟨χ,a,r,e,H.keep' m fun q hq hd=> ?_,h1,h2,h3,fun x hx=> ?_⟩
 ·have q0:q≠ .h:=fun e=>hd u (by rw[e];exact h4)
  exact k _ (Yw (H.row q (H.none hq)) hq) (fun w=>q0 (H.inj q .h (by rw[w,h5]))) (h6 q q0 hq)
 ·by_cases x0:x= .h
  ·rw[x0,h5];exact⟨hp,hp'⟩
  ·exact⟨Classical.byContradiction fun c=>h6 x x0 hx (hX _ c),fun w=>h6 x x0 hx (hX' _ w)⟩
theorem parseM {b:Nat}{ks:List Nat}{o:Bool}{F0 F:St->V->Bool}{S:St}{q0:Pt}(hw:WF S)(hq:S.row q0≠ .none)(hlen:ks.length<=9)(hk7:∀k∈ks,k<7)(hk:∀k∈ks,actB (ofL (mcS k)) (ofL [99,97,115,101]) 2 (ofL (tagS k)) pfNil=true)(hm:actB (ofL mtS) mWd 8 (ofL []) (pf1 F0)=true)(hb:actB (ofL (mbS b)) (ofL []) 2 (ofL []) (pf1 F)=true):
  Does (tabT tabD) kH [ofL (mkAll b ks o)] S fun v S'=>Gr S S'/\∃r rm,v= .tup [.slx r 0 1 2 1, .int .i64 0, .int .i64 0]/\S.row r= .none/\(∃t,S'.row r= .cells t [ofL [], .sl rm 0 1 9])/\MatchR S S' F0 F ks o rm:=by
 have hps:((true,mtS,0)::(partsM b ks 11++tpM o (11+segL b*ks.length))).length<1000:=by
  have htp:(tpM o (11+segL b*ks.length)).length<=3:=by cases o<;>simp[tpM]
  simp only[List.length_cons,List.length_append,qB]
  omega
 refine Does.gr tabM hw ((parseC0 (R:=fun S2 mv=>∃rm,mv= .sl rm 0 1 9/\MatchR S S2 F0 F ks o rm/\∀r,S.row r≠ .none->S2.row r≠ .none) hw (Jhu hk7 hlen) hps ?_).mono ?_)
 rotate_left
 ·rintro v S' ⟨same,mv,S2,r,⟨rm,rfl,hR,h2⟩,g,rfl,rn,rr⟩
  exact⟨same,r,rm,rfl,Classical.byContradiction fun c=>h2 r c rn,rr,hR.fz (Fz.ofGr g)⟩
 intro Sb S1 p gb g1 pn rp
 have hsp:∀r,S.row r≠ .none->Sb.row r≠ .none:=fun r e=>by rw[gb.same r e];exact e
 have nP:S.row p= .none:=Classical.byContradiction fun c=>hsp p c pn
 refine Jke (Sp:=S) (F:=F) hsp g1 pn rp hm fun S2 q pv0 M2=> ?_
 refine casesC hsp hb M2 hk (by simp;omega) fun S3 way cv cs M3=> ?_
 rw[List.nil_append]at M3
 obtain⟨c,hc⟩:∃c,c=11+segL b*ks.length:=⟨_,rfl⟩
 rw[<-hc]
 obtain⟨s,hs⟩:∃s:Nat->V,∀i,s i= .int .i64 (match i with
  |0=>(c:Nat)
  |1=>(c+8:Nat)
  |_=>(c+9:Nat)):=⟨_,fun _=>rfl⟩
 obtain⟨φ,w,H,hp,hq',es,hT,hmv⟩:=startE M3 hsp hq s fun i=>⟨_,_,hs i⟩
 have sb:∀r,Sb.row r≠ .none->S3.row r≠ .none:=fun r e=>by rw[M3.P.g.same r e];exact e
 have nQ:S.row q= .none:=Classical.byContradiction fun c=>hsp q c M3.P.qn
 refine endMC (Sb:=Sb) H hp hq' hT (by rw[es];exact hs 0) (fun _=>by rw[es];exact hs 1) (by rw[es];exact hs 2) (fun x hx=>⟨sb x hx,fun e=>hx (by rw[e];exact pn),fun e=>hx (by rw[e];exact M3.P.qn)⟩) ?_
 intro S4 T
 obtain⟨ψ,H4,y1,y2,z4,s4,fr⟩:=T.ex
 obtain⟨m1,m2⟩:=hmv ψ y1 y2
 have cl:∀s:Str,mv ψ (ofL s)=ofL s:=fun s=>JB ψ _ rfl
 have old:∀x,S3.row x= .none->S.row x= .none:=fun x e=>Classical.byContradiction fun c=>sb x (hsp x c) e
 have ne:∀{q:Pt} {bb:St} {t:Nat} {l:List V},bb.row q= .cells t l->bb.row q≠ .none:=fun h e=>by rw[e]at h;cases h
 have h0:PvE S S4 (fun _=>False) F0 0 pv0:=M3.h0.e (fun r e=> .inl e) (fun r f=>f.elim) nP (fun f=>f) T.mono fun r e n1 n2=>T.keep r e n1 fun e=>n2 (.inr (.inl e))
 have kcv:∀x,rowOf cv=some x->x≠p/\x≠q:=fun x e=>⟨fun f=>M3.P.am (by rw[e,f]),fun f=>M3.P.aq (by rw[e,f])⟩
 have hcs:SlAt (fun _=>True) S4 cv 2 cs:=(M3.P.m.keep (st':=S4) fun x hx=>T.keep x (M3.P.m.some hx) (kcv x hx).1 (kcv x hx).2).at.imp fun _ _ _=>⟨trivial,rfl⟩
 have hce:∀i (h:i<cs.length) (h':i<ks.length),CaseE S S4 F ks[i] cs[i]:=fun i a b=>by
  obtain⟨rb,at_,pv,e1,⟨t,e2⟩,e3,e4,e5,e6,e7⟩:=M3.cs.2 i a b
  refine⟨rb,at_,pv,e1,⟨t,by rw[T.keep rb (Jh e2) e4 e5,e2]⟩,e3,e7.e (fun r e=> .inl e) (fun r e=> .inr (.inr (.inr e))) nP (fun e=>e4 e.symm) T.mono fun r e n1 n2=>T.keep r e n1 fun e=>n2 (.inr (.inl e))⟩
 have live:∀r,S.row r≠ .none->S4.row r≠ .none:=fun r e=>by
  rw[T.keep r (sb r (hsp r e)) (fun f=>e (by rw[f];exact nP)) fun f=>e (by rw[f];exact nQ)]
  exact sb r (hsp r e)
 cases o with
 | false=>
   have H4:Hold ψ (f1 w way) S4:=H4
   have fr:∀q:Pt,4<=q.num->(f1 w way).row q≠ .none->S3.row (ψ q)= .none:=fr
   have rowP:=H4.row (.c .h) (H4.none (ne hT.pf))
   rw[hT.pf,show ψ (.c .h)=p from z4]at rowP
   obtain⟨tp,rowP,_⟩:=rowP
   have rowM:=H4.row (.d (.a .h)) (H4.none (ne hT.mf))
   rw[hT.mf]at rowM
   obtain⟨tm,rowM,_⟩:=rowM
   simp only[List.map_cons,List.map_nil,mv]at rowP
   simp only[List.map_cons,List.map_nil,m1,m2]at rowM
   simp only[mv,cl]at rowM
   exact⟨.sl (ψ (.d (.a .h))) 0 1 9,⟨H4.wf,⟨tp,_,rowP,rfl⟩,rfl⟩,_,rfl,⟨pv0, .snil,cv,cs,⟨tm,rowM⟩,old _ (fr _ (by decide) (ne hT.mf)),h0,rfl,hcs,M3.cs.1,hce⟩,live⟩
 | true=>
   have H4:Hold ψ (e3 w way) S4:=H4
   have fr:∀q:Pt,4<=q.num->(e3 w way).row q≠ .none->S3.row (ψ q)= .none:=fr
   have rowP:=H4.row (.c .h) (H4.none (ne hT.p3))
   rw[hT.p3,show ψ (.c .h)=p from z4]at rowP
   obtain⟨tp,rowP,_⟩:=rowP
   have rowM:=H4.row (.b (.c .h)) (H4.none (ne hT.m3))
   rw[hT.m3]at rowM
   obtain⟨tm,rowM,_⟩:=rowM
   have rowL:=H4.row (.a (.b .h)) (H4.none (ne hT.l3))
   rw[hT.l3]at rowL
   obtain⟨tl,rowL,_⟩:=rowL
   simp only[List.map_cons,List.map_nil,mv]at rowP
   simp only[List.map_cons,List.map_nil,m1,m2]at rowM
   simp only[mv,cl]at rowM
   simp only[List.map_cons,List.map_nil,mv,cl,s4,es,hs 1]at rowL
   exact⟨.sl (ψ (.b (.c .h))) 0 1 9,⟨H4.wf,⟨tp,_,rowP,rfl⟩,rfl⟩,_,rfl,⟨pv0,_,cv,cs,⟨tm,rowM⟩,old _ (fr _ (by decide) (ne hT.m3)),h0,⟨_,_,rfl,⟨tl,rowL⟩,old _ (fr _ (by decide) (ne hT.l3))⟩,hcs,M3.cs.1,hce⟩,live⟩
def kdM (k:Nat):List V:=[.int .i64 ((1+k%3:Nat):Int),ofL [], .snil, .snil]
def nmsM (m:Nat):List V:=(List.range m).map fun k=>ofL (tagS k)
def kdsM (m:Nat):List V:=(List.range m).flatMap kdM
def aS (m:Nat):St:=(St.start.new fun t=> .cells t (nmsM m)).new fun t=> .cells t (kdsM m)
def schV (m:Nat):V:= .agg [.int .i64 8,ofL [], .sl .h 0 m 1, .sl (.a .h) 0 m 4, .snil, .snil]
def dM (m:Nat):Nat:=Nat.min m 3
noncomputable def tabQ (m:Nat)(K:Pt->St->Bool):Bool:=match run (tabT tabD) 60 Yq [schV m] {aS m with low:=(aS m).t}with
 |some (.tup [.ptr t 0, .ptr _ 0, .agg [.int .i64 8, .str 0 0, .sl .h 0 m1 1, .sl (.a .h) 0 m2 4, .snil, .snil]],a)=>(Nat.beq m1 m&&Nat.beq m2 m)&&K t a
 |_=>false
def tab0 (m:Nat)(t:Pt)(a:St):Bool:=(Nat.ble (aS m).t a.low&&inT a.nx.num a.h)&&((noQt a.h&&Nat.blt t.num a.nx.num)&&(fullB a a.nx.num&&Nat.blt 0 a.t))
theorem JsC :tabQ 1 (tab0 1)=true:=by kernel_rfl
theorem JsD :tabQ 2 (tab0 2)=true:=by kernel_rfl
theorem JsE :tabQ 3 (tab0 3)=true:=by kernel_rfl
theorem JsF :tabQ 4 (tab0 4)=true:=by kernel_rfl
theorem JsG :tabQ 5 (tab0 5)=true:=by kernel_rfl
theorem JsH :tabQ 6 (tab0 6)=true:=by kernel_rfl
def wR (t dd:Pt):List V:=[.ptr t 0, .slx dd 0 1 1 1, .snil, .int .i64 (-1)]
noncomputable def rowQ (c0:St)(t dd:Pt)(d:Nat)(bv:V)(code:Int):Bool:=match run (tabT tabD) 60 Qs [.ptr c0.nx 0, .agg [.int .i64 (d:Nat), .snil, .snil],bv] {(c0.new fun u=> .cells u (wR t dd))with low:=c0.t+1}with
 | some (.int .i64 e,c')=>(decide (e=code)&&inT (c0.new fun u=> .cells u (wR t dd)).nx.num (c0.new fun u=> .cells u (wR t dd)).h)&&(((if e=0 then Nat.ble c0.t c'.low else true)&&inT c'.nx.num c'.h)&&(match c'.row c0.nx with
   | .cells _ [.ptr p 0, .slx q 0 1 1 1, .snil,y]=>(Nat.beq p.num t.num&&Nat.beq q.num dd.num)&&(match y with
     | .int .i64 x=>if e=0 then decide (x= -1)else true
     | .opq 0=>decide (e≠0)
     |_=>false)
   |_=>false))
 |_=>false
def prR (pv:V):List V:=[.int .i64 2, .opq 0,ofL [],ofL [],pv, .snil, .snil, .bool false, .snil]
def elR :List V:=[.int .i64 1, .opq 0,ofL [101],ofL [], .snil, .snil, .snil, .bool false, .snil]
def aN (a:St):St:=a.new fun t=> .dead t
noncomputable def mrgN (aT a:St):St:=mrg (aN aT) a
noncomputable def cB (aT a:St)(r:Pt):St:=(mrgN aT a).new fun t=> .cells t (prR (.slx (up (aN aT).nx.num r) 0 1 1 1))
def cdM (b j:Nat):Int:=if(b=1/\j≠2)\/(b=2/\j≠1)then 17 else 0
noncomputable def FB (m b:Nat)(a:St)(pv:V):Bool:=match pv with
 | .slx r 0 1 1 1=>fullB a a.nx.num&&tabQ m fun t aT=>(inT (aN aT).nx.num (aN aT).h&&(inT (mrgN aT a).nx.num (mrgN aT a).h&&inT (cB aT a r).nx.num (cB aT a r).h))&&
   (rowQ (cB aT a r) t aT.nx 0 (.sl (mrgN aT a).nx 0 1 9) (cdM b 0)&&((bif Nat.ble m 1 then true else rowQ (cB aT a r) t aT.nx 1 (.sl (mrgN aT a).nx 0 1 9) (cdM b 1))&&(bif Nat.ble m 2 then true else rowQ (cB aT a r) t aT.nx 2 (.sl (mrgN aT a).nx 0 1 9) (cdM b 2))))
 |_=>false
noncomputable def FM (m:Nat)(a:St)(pv:V):Bool:=match pv with
 | .slx r 0 1 1 1=>fullB a a.nx.num&&tabQ m fun t aT=>inT (mrg aT a).nx.num (mrg aT a).h&&(match run (tabT tabD) 60 JdM [.ptr t 0, .agg [.int .i64 (dM m:Nat), .snil, .snil], .slx (up aT.nx.num r) 0 1 1 1] {mrg aT a with low:=(mrg aT a).t}with
   |some (.tup [.int .i64 x, .int .i64 0],a1)=>decide (x=(dM m:Nat))&&(Nat.ble (mrg aT a).t a1.low&&inT a1.nx.num a1.h)
   |_=>false)
 |_=>false
theorem JsT :actB (ofL mtS) mWd 8 (ofL []) (pf1 (FM 1))=true:=by kernel_rfl
theorem JrI :actB (ofL (mbS 0)) (ofL []) 2 (ofL []) (pf1 (FB 1 0))=true:=by kernel_rfl
theorem JsU :actB (ofL mtS) mWd 8 (ofL []) (pf1 (FM 2))=true:=by kernel_rfl
theorem JrJ :actB (ofL (mbS 0)) (ofL []) 2 (ofL []) (pf1 (FB 2 0))=true:=by kernel_rfl
theorem JsV :actB (ofL mtS) mWd 8 (ofL []) (pf1 (FM 3))=true:=by kernel_rfl
theorem JrK :actB (ofL (mbS 0)) (ofL []) 2 (ofL []) (pf1 (FB 3 0))=true:=by kernel_rfl
theorem JsW :actB (ofL mtS) mWd 8 (ofL []) (pf1 (FM 4))=true:=by kernel_rfl
theorem JrL :actB (ofL (mbS 0)) (ofL []) 2 (ofL []) (pf1 (FB 4 0))=true:=by kernel_rfl
theorem JsX :actB (ofL mtS) mWd 8 (ofL []) (pf1 (FM 5))=true:=by kernel_rfl
theorem JrM :actB (ofL (mbS 0)) (ofL []) 2 (ofL []) (pf1 (FB 5 0))=true:=by kernel_rfl
theorem JsY :actB (ofL mtS) mWd 8 (ofL []) (pf1 (FM 6))=true:=by kernel_rfl
theorem JrN :actB (ofL (mbS 0)) (ofL []) 2 (ofL []) (pf1 (FB 6 0))=true:=by kernel_rfl
theorem JrO :actB (ofL (mbS 1)) (ofL []) 2 (ofL []) (pf1 (FB 1 1))=true:=by kernel_rfl
theorem JrP :actB (ofL (mbS 1)) (ofL []) 2 (ofL []) (pf1 (FB 2 1))=true:=by kernel_rfl
theorem JrQ :actB (ofL (mbS 1)) (ofL []) 2 (ofL []) (pf1 (FB 3 1))=true:=by kernel_rfl
theorem JrR :actB (ofL (mbS 1)) (ofL []) 2 (ofL []) (pf1 (FB 4 1))=true:=by kernel_rfl
theorem JrS :actB (ofL (mbS 1)) (ofL []) 2 (ofL []) (pf1 (FB 5 1))=true:=by kernel_rfl
theorem JrT :actB (ofL (mbS 1)) (ofL []) 2 (ofL []) (pf1 (FB 6 1))=true:=by kernel_rfl
theorem JrU :actB (ofL (mbS 2)) (ofL []) 2 (ofL []) (pf1 (FB 1 2))=true:=by kernel_rfl
theorem JrV :actB (ofL (mbS 2)) (ofL []) 2 (ofL []) (pf1 (FB 2 2))=true:=by kernel_rfl
theorem JrW :actB (ofL (mbS 2)) (ofL []) 2 (ofL []) (pf1 (FB 3 2))=true:=by kernel_rfl
theorem JrX :actB (ofL (mbS 2)) (ofL []) 2 (ofL []) (pf1 (FB 4 2))=true:=by kernel_rfl
theorem JrY :actB (ofL (mbS 2)) (ofL []) 2 (ofL []) (pf1 (FB 5 2))=true:=by kernel_rfl
theorem JrZ :actB (ofL (mbS 2)) (ofL []) 2 (ofL []) (pf1 (FB 6 2))=true:=by kernel_rfl
def slM (m:Nat):V->Bool
 | .sl _ 0 n 1=>Nat.beq n m
 | .slx _ 0 n 1 c=>Nat.beq n m&&Nat.ble n c
 |_=>false
def kidL :List V->Nat->Nat->Bool
 |[],i,m=>Nat.beq i m
 | .int .i64 x::r,i,m=>decide (x=(i%3:Nat))&&kidL r (i+1) m
 |_,_,_=>false
def kidsQ (a:St)(kv:V)(m:Nat):Bool:=match kv with
 | .sl r 0 _ 1=>(match a.row r with
   | .cells _ l=>kidL l 0 m
   |_=>false)
 | .slx r 0 _ 1 _=>(match a.row r with
   | .cells _ l=>kidL l 0 m
   |_=>false)
 |_=>false
noncomputable def idxQ (a:St)(nv:V)(m k:Nat):Bool:=match run (tabT tabD) 60 YN [nv,ofL (tagS k)] {a with low:=a.t}with
 |some (.int .i64 x,a2)=>(decide (x=(if k<m then((k:Nat):Int)else-1))&&inV a.nx.num nv)&&(Nat.ble a.t a2.low&&inT a2.nx.num a2.h)
 |_=>false
noncomputable def nodeQ (m:Nat)(t:Pt)(aT:St):Bool:=match run (tabT tabD) 60 kB [.ptr (aN aT).nx 0, .int .i64 (dM m:Nat)] {((aN aT).new fun u=> .cells u (wR t aT.nx))with low:=(aN aT).t+1}with
 |some (.agg [.int .i64 8, .str 0 0,nv,kv],a1)=>((Nat.ble ((aN aT).t+1) a1.low&&inT a1.nx.num a1.h)&&(slM m nv&&slM m kv))&&((kidsQ a1 kv m&&inV a1.nx.num kv)&&(idxQ a1 nv m 0&&(idxQ a1 nv m 1&&(idxQ a1 nv m 2&&(idxQ a1 nv m 3&&(idxQ a1 nv m 4&&(idxQ a1 nv m 5&&idxQ a1 nv m 6)))))))
 |_=>false
noncomputable def mainQ (m:Nat)(t:Pt)(aT:St):Bool:=match run (tabT tabD) 60 kI [.ptr t 0] {aT with low:=aT.t}with
 |some (.int .i64 x,a1)=>decide (x=(dM m:Nat))&&(Nat.ble aT.t a1.low&&inT a1.nx.num a1.h)
 |_=>false
noncomputable def allQ (m:Nat)(t:Pt)(aT:St):Bool:=(inT (aN aT).nx.num (aN aT).h&&(inT ((aN aT).new fun u=> .cells u (wR t aT.nx)).nx.num ((aN aT).new fun u=> .cells u (wR t aT.nx)).h&&inT ((aN aT).new fun u=> .cells u elR).nx.num ((aN aT).new fun u=> .cells u elR).h))&&
 ((nodeQ m t aT&&mainQ m t aT)&&(rowQ (aN aT) t aT.nx (dM m) .snil 0&&rowQ ((aN aT).new fun u=> .cells u elR) t aT.nx (dM m) (.sl (aN aT).nx 0 1 9) 0))
theorem JsI :tabQ 1 (allQ 1)=true:=by kernel_rfl
theorem JsJ :tabQ 2 (allQ 2)=true:=by kernel_rfl
theorem JsK :tabQ 3 (allQ 3)=true:=by kernel_rfl
theorem JsL :tabQ 4 (allQ 4)=true:=by kernel_rfl
theorem JsM :tabQ 5 (allQ 5)=true:=by kernel_rfl
theorem JsN :tabQ 6 (allQ 6)=true:=by kernel_rfl
theorem Jb8 {m:Nat}{K:Pt->St->Bool}{t x:Pt}{a:St}(hr:run (tabT tabD) 60 Yq [schV m] {aS m with low:=(aS m).t}=some (.tup [.ptr t 0, .ptr x 0,schV m],a))(h:tabQ m K=true):K t a=true:=by
 unfold tabQ at h
 split at h
 ·rename_i t' x' m1 m2 a' hr'
  have e:=hr.symm.trans hr'
  clear hr hr'
  injection e with e
  injection e with e1 e2
  injection e1 with e1
  injection e1 with e1 _
  injection e1 with e1 _
  subst e1
  subst e2
  rw[Bool.and_eq_true]at h
  exact h.2
 ·cases h
structure TabX (m:Nat) (t x:Pt) (a:St):Prop where
 run:run (tabT tabD) 60 Yq [schV m] {aS m with low:=(aS m).t}=some (.tup [.ptr t 0, .ptr x 0,schV m],a)
 low:(aS m).t<=a.low
 inn:inT a.nx.num a.h=true
 noq:noQt a.h=true
 tt:t.num<a.nx.num
 full:fullB a a.nx.num=true
 pos:0<a.t
 all:allQ m t a=true
theorem j5 {m:Nat}(h:tabQ m (tab0 m)=true)(h2:tabQ m (allQ m)=true):∃t x a,TabX m t x a:=by
 have h1:=h
 unfold tabQ at h1
 split at h1
 ·rename_i t x m1 m2 a hr
  rw[Bool.and_eq_true,Bool.and_eq_true]at h1
  obtain⟨⟨e1,e2⟩,k⟩:=h1
  have e1:=Nat.eq_of_beq_eq_true e1
  have e2:=Nat.eq_of_beq_eq_true e2
  subst e1
  subst e2
  simp only[tab0,Bool.and_eq_true]at k
  obtain⟨⟨k1,k2⟩,⟨k3,k4⟩,k5,k6⟩:=k
  exact⟨t,x,a,hr,Nat.le_of_ble_eq_true k1,k2,k3,Nat.le_of_ble_eq_true k4,k5,Nat.le_of_ble_eq_true k6,Jb8 hr h2⟩
 ·cases h1
theorem tabX {m:Nat}(h1:1<=m)(h6:m<=6):∃t x a,TabX m t x a:=by
 rcases(by omega:m=1\/m=2\/m=3\/m=4\/m=5\/m=6)with rfl|rfl|rfl|rfl|rfl|rfl
 ·exact j5 JsC JsI
 ·exact j5 JsD JsJ
 ·exact j5 JsE JsK
 ·exact j5 JsF JsL
 ·exact j5 JsG JsM
 ·exact j5 JsH JsN
theorem JsO {m:Nat}(h1:1<=m)(h6:m<=6):actB (ofL mtS) mWd 8 (ofL []) (pf1 (FM m))=true:=by
 rcases(by omega:m=1\/m=2\/m=3\/m=4\/m=5\/m=6)with rfl|rfl|rfl|rfl|rfl|rfl
 ·exact JsT
 ·exact JsU
 ·exact JsV
 ·exact JsW
 ·exact JsX
 ·exact JsY
theorem JsP {m b:Nat}(h1:1<=m)(h6:m<=6)(hb:b<3):actB (ofL (mbS b)) (ofL []) 2 (ofL []) (pf1 (FB m b))=true:=by
 rcases(by omega:b=0\/b=1\/b=2)with rfl|rfl|rfl<;>rcases(by omega:m=1\/m=2\/m=3\/m=4\/m=5\/m=6)with rfl|rfl|rfl|rfl|rfl|rfl
 ·exact JrI
 ·exact JrJ
 ·exact JrK
 ·exact JrL
 ·exact JrM
 ·exact JrN
 ·exact JrO
 ·exact JrP
 ·exact JrQ
 ·exact JrR
 ·exact JrS
 ·exact JrT
 ·exact JrU
 ·exact JrV
 ·exact JrW
 ·exact JrX
 ·exact JrY
 ·exact JrZ
theorem Jq7 {p q:Pt}(h:Nat.beq p.num q.num=true):p=q:=Pt.num_inj (Nat.eq_of_beq_eq_true h)
theorem rowK {c0:St}{t dd:Pt}{d:Nat}{bv:V}{code:Int}(h:rowQ c0 t dd d bv code=true){ω:Rn}{S:St}(H:Hold ω c0 S){w:Pt}(hd:dd.num<c0.nx.num)(ht:t.num<c0.nx.num)(hb:inV c0.nx.num bv=true)(hw:∃u,S.row w= .cells u [.ptr (ω t) 0, .slx (ω dd) 0 1 1 1, .snil, .int .i64 (-1)])(hwn:∀p:Pt,p.num<c0.nx.num->ω p≠w)(hat:∃x,ω.s 0= .int .i64 x):
  Does (tabT tabD) Qs [.ptr w 0, .agg [.int .i64 (d:Nat), .snil, .snil],mv ω bv] S fun v S'=>v= .int .i64 code/\(code=0->Ch (fun r=>r=w) S S')/\(∀s,S.row s≠ .none->s≠w->(∀p:Pt,c0.row p≠ .none->ω p≠s)->S'.row s=S.row s)/\Mono S S'/\∃x u,S'.row w= .cells u [.ptr (ω t) 0, .slx (ω dd) 0 1 1 1, .snil, .int .i64 x]/\(code=0->x= -1):=by
 unfold rowQ at h
 split at h
 rotate_left
 ·cases h
 rename_i e c' hrun
 simp only[Bool.and_eq_true]at h
 obtain⟨⟨h1,h2⟩,⟨h3,h4⟩,h5⟩:=h
 have h1:=of_decide_eq_true h1
 subst h1
 obtain⟨u,hw⟩:=hw
 have hnx:(c0.new fun u=>Row.cells u (wR t dd)).nx.num=c0.nx.num+1:=by show c0.nx.suc.num=_;rw[Pt.num_suc]
 obtain⟨ω1,ag1,e1,H1⟩:=H.add (q:=w) (f:=fun u=> .cells u (wR t dd)) (Jj _) (Jh hw) hwn ⟨u,by rw[hw];simp only[wR,List.map_cons,List.map_nil,mv],trivial⟩ (by
  show inVs c0.nx.num (wR t dd)=true
  simp only[wR,inVs,inV,decide_eq_true hd,decide_eq_true ht];rfl) h2
 have H1':=H1.lowa (c0.t+1)
 have go:=H1'.goW tabE tabM tabU (args:=[.ptr c0.nx 0, .agg [.int .i64 (d:Nat), .snil, .snil],bv]) (by
  have hb':inV (c0.nx.num+1) bv=true:=JmQ (by omega) bv hb
  show inVs (c0.new fun u=>Row.cells u (wR t dd)).nx.num _=true
  rw[hnx]
  simp only[inVs,inV,decide_eq_true (show c0.nx.num<c0.nx.num+1 by omega),hb'];rfl) hrun h4
 have ebv:mv ω1 bv=mv ω bv:=Jeb ag1 bv hb
 simp only[List.map_cons,List.map_nil,mv,mvs,e1,ebv]at go
 have mc:=tabM 60 _ _ _ _ _ hrun H1'.wfa
 refine go.mono fun v S' ⟨m,fr,ψ,ag,ev,H',fh⟩=>⟨ev.trans (by simp only[mv]),fun hcode=>⟨m.mono,fun s hs hn=>fr s hs fun p hp hc e=> ?_⟩,fun s hs hn hi=>fr s hs fun p hp hc e=> ?_,m.mono, ?_⟩
 ·
  rw[if_pos hcode]at h3
  have h3:=Nat.le_of_ble_eq_true h3
  have ho:=mc.mono.old p hp hc
  by_cases c:p=c0.nx
  ·exact hn (by rw[<-e,c,e1])
  ·have hrow:(c0.new fun u=>Row.cells u (wR t dd)).row p=c0.row p:=by rw[Ki,if_neg c]
   have hp':c0.row p≠ .none:=by rw[<-hrow];exact hp
   have ht:=H.wfa.t p hp'
   have ho:c'.low<=((c0.new fun u=>Row.cells u (wR t dd)).row p).time:=ho
   rw[hrow]at ho
   omega
 ·by_cases c:p=c0.nx
  ·exact hn (by rw[<-e,c,e1])
  ·have hrow:(c0.new fun u=>Row.cells u (wR t dd)).row p=c0.row p:=by rw[Ki,if_neg c]
   have hp:(c0.new fun u=>Row.cells u (wR t dd)).row p≠ .none:=hp
   rw[hrow]at hp
   exact hi p hp (by rw[<-ag1.f p (H.wfa.nx p hp)];exact e)
 ·split at h5
  rotate_left
  ·cases h5
  rename_i tw p q y hcr
  rw[Bool.and_eq_true,Bool.and_eq_true]at h5
  obtain⟨⟨g1,g2⟩,g3⟩:=h5
  have g1:=Jq7 g1
  have g2:=Jq7 g2
  subst g1
  subst g2
  have hr:=H'.row c0.nx (H'.none (by rw[hcr];exact fun e=>by cases e))
  rw[hcr]at hr
  obtain⟨u',hr,_⟩:=hr
  have ew:ψ c0.nx=w:=by rw[ag.f c0.nx (by show c0.nx.num<(c0.new fun u=>Row.cells u (wR p q)).nx.num;rw[hnx];omega),e1]
  have ep:ψ p=ω p:=by rw[ag.f p (by show p.num<(c0.new fun u=>Row.cells u (wR p q)).nx.num;rw[hnx];omega),ag1.f p ht]
  have eq:ψ q=ω q:=by rw[ag.f q (by show q.num<(c0.new fun u=>Row.cells u (wR p q)).nx.num;rw[hnx];omega),ag1.f q hd]
  rw[ew]at hr
  simp only[List.map_cons,List.map_nil,mv,ep,eq]at hr
  split at g3
  ·rename_i x
   refine⟨x,u',by rw[hr];simp only[mv],fun hc=> ?_⟩
   rw[if_pos hc]at g3
   exact of_decide_eq_true g3
  ·obtain⟨x,hx⟩:=hat
   refine⟨x,u',by rw[hr];simp only[mv,ag.s,ag1.s,hx],fun hc=>absurd hc (of_decide_eq_true g3)⟩
  ·cases g3
theorem JmV {φ:Rn}{a S S':St}{p0:Pt}{v u:Nat}{l0:List V}(H:Hold φ a S)(C:Ch (fun r=>r=φ p0) S S')(h0:a.row p0= .cells v l0)(h1:S'.row (φ p0)= .cells u (l0.map (mv φ))):Hold φ a S':=by
 refine⟨H.num,H.inj,fun p e=>Nat.lt_of_lt_of_le (H.lt p e) C.mono.nx,fun p e=> ?_,H.scope,fun h=>Nat.lt_of_lt_of_le (H.pos h) C.mono.t,H.wfa,C.wf⟩
 by_cases c0:p=p0
 ·subst c0;rw[h0];exact⟨u,h1,trivial⟩
 by_cases c:a.row p= .none
 ·have h1:=H.row p e
  rw[c]at h1⊢
  have h1:S.row (φ p)= .none:=h1
  show S'.row (φ p)= .none
  apply Classical.byContradiction
  intro x
  have:=C.mono.born _ h1 x
  have:=H.lt p e
  omega
 ·rw[C.same (φ p) (Yw (H.row p e) c) fun x=>c0 (H.inj _ _ x)];exact H.row p e
structure FE (Sp S1 S:St) (m:Nat) (t x:Pt) (aT:St) (φ:Rn) (pn w:Pt):Prop where
 X:TabX m t x aT
 HT:Hold φ aT S
 fz:Fz S1 S
 sp:∀r,Sp.row r≠ .none->S1.row r≠ .none
 tp:∀p:Pt,p.num<aT.nx.num->Sp.row (φ p)≠ .none
 pn1:S1.row pn= .none
 pnl:S.row pn≠ .none
 w1:S1.row w= .none
 pw:pn≠w
 w:∃u,S.row w= .cells u [.ptr (φ t) 0, .slx pn 0 1 1 1, .snil, .int .i64 (-1)]
theorem FE.gr {Sp S1 S S':St}{m:Nat}{t x:Pt}{aT:St}{φ:Rn}{pn w:Pt}(E:FE Sp S1 S m t x aT φ pn w)(g:Gr S S'):FE Sp S1 S' m t x aT φ pn w:=
 ⟨E.X,E.HT.gr g,E.fz.more g,E.sp,E.tp,E.pn1,by rw[g.same _ E.pnl];exact E.pnl,E.w1,E.pw,E.w.imp fun u c=>g.cells c⟩
theorem holdN {aT S:St}{φ:Rn}{pn:Pt}(HT:Hold φ aT S)(hq:noQt aT.h=true)(s:Nat->V)(hs:∀i,∃k n,s i= .int k n)(hl:S.row pn≠ .none)(hn:∀p:Pt,p.num<aT.nx.num->φ p≠pn)(hi:inT (aN aT).nx.num (aN aT).h=true):∃ψ:Rn,Hold ψ (aN aT) S/\(∀p:Pt,p.num<aT.nx.num->ψ p=φ p)/\ψ aT.nx=pn/\ψ.s=s:=by
 have H:=HT.sig hq s hs
 obtain⟨ψ,ag,e,H1⟩:=H.add (q:=pn) (f:=fun t=> .dead t) (fun u=>⟨rfl,by intro e;cases e⟩) hl hn ⟨hl,trivial⟩ rfl hi
 exact⟨ψ,H1,fun p hp=>ag.f p hp,e,ag.s⟩
theorem FE.off {Sp S1 S:St}{m:Nat}{t x:Pt}{aT:St}{φ:Rn}{pn w:Pt}(E:FE Sp S1 S m t x aT φ pn w){q:Pt}(hq:S1.row q= .none\/Sp.row q= .none):∀p:Pt,p.num<aT.nx.num->φ p≠q:=fun p hp e=>by
 have h:=E.tp p hp
 rcases hq with c|c
 ·exact E.sp _ h (by rw[e];exact c)
 ·exact h (by rw[e];exact c)
theorem Jjg (aT:St):(aN aT).nx.num=aT.nx.num+1:=by show aT.nx.suc.num=_;rw[Pt.num_suc]
def RowR (S1 S:St)(φ:Rn)(t pn w:Pt)(code:Int)(v:V)(S':St):Prop:=
 v= .int .i64 code/\(code=0->Ch (fun r=>r=w) S S')/\(∀s,S.row s≠ .none->s≠w->s≠pn->S1.row s= .none->S'.row s=S.row s)/\Mono S S'/\∃x u,S'.row w= .cells u [.ptr (φ t) 0, .slx pn 0 1 1 1, .snil, .int .i64 x]/\(code=0->x= -1)
theorem nilRow {code:Int}{Sp S1 S:St}{m:Nat}{t x:Pt}{aT:St}{φ:Rn}{pn w:Pt}(E:FE Sp S1 S m t x aT φ pn w)(hR:rowQ (aN aT) t aT.nx (dM m) .snil code=true)(hi:inT (aN aT).nx.num (aN aT).h=true):
  Does (tabT tabD) Qs [.ptr w 0, .agg [.int .i64 (dM m:Nat), .snil, .snil], .snil] S (RowR S1 S φ t pn w code):=by
 obtain⟨ψ,H,h1,h2,h3⟩:=holdN E.HT E.X.noq (fun _=> .int .i64 0) (fun _=>⟨_,_,rfl⟩) E.pnl (E.off (.inl E.pn1)) hi
 have hn:=Jjg aT
 have htt:=E.X.tt
 have split:∀p:Pt,p.num<(aN aT).nx.num->p.num<aT.nx.num\/p=aT.nx:=fun p hp=>by
  by_cases c:p.num<aT.nx.num
  ·exact .inl c
  ·exact .inr (Pt.num_inj (by omega))
 have et:ψ t=φ t:=h1 t htt
 have:=rowK hR H (w:=w) (by omega) (by omega) rfl (by rw[et,h2];exact E.w) (fun p hp=>by
  rcases split p hp with c|rfl
  ·rw[h1 p c];exact E.off (.inl E.w1) p c
  ·rw[h2];exact E.pw) ⟨0,by rw[h3]⟩
 simp only[mv]at this
 rw[et,h2]at this
 refine this.mono fun v S' ⟨a,b,c,d,e⟩=>⟨a,b,fun s s1 s2 s3 s4=>c s s1 s2 fun p hp=> ?_,d,e⟩
 rcases split p (H.none hp)with k|rfl
 ·rw[h1 p k];exact E.off (.inl s4) p k
 ·rw[h2];exact Ne.symm s3
theorem elRow {code:Int}{Sp S1 S:St}{m:Nat}{t x:Pt}{aT:St}{φ:Rn}{pn w re:Pt}{at_:Int}(E:FE Sp S1 S m t x aT φ pn w)(hR:rowQ ((aN aT).new fun u=> .cells u elR) t aT.nx (dM m) (.sl (aN aT).nx 0 1 9) code=true)(hi:inT (aN aT).nx.num (aN aT).h=true)(hi2:inT ((aN aT).new fun u=> .cells u elR).nx.num ((aN aT).new fun u=> .cells u elR).h=true)
  (hre:∃t,S1.row re= .cells t (elE at_)) (hrn:Sp.row re= .none):
  Does (tabT tabD) Qs [.ptr w 0, .agg [.int .i64 (dM m:Nat), .snil, .snil], .sl re 0 1 9] S (RowR S1 S φ t pn w code):=by
 obtain⟨ψ,H,h1,h2,h3⟩:=holdN E.HT E.X.noq (fun _=> .int .i64 at_) (fun _=>⟨_,_,rfl⟩) E.pnl (E.off (.inl E.pn1)) hi
 have hn:=Jjg aT
 have htt:=E.X.tt
 obtain⟨tr,hre⟩:=hre
 have hreS:S.row re= .cells tr (elE at_):=by rw[E.fz.same re (Jh hre),hre]
 have cl:∀(ψ:Rn) (s:Str),mv ψ (ofL s)=ofL s:=fun ψ s=>JB ψ _ rfl
 have split:∀p:Pt,p.num<(aN aT).nx.num->p.num<aT.nx.num\/p=aT.nx:=fun p hp=>by
  by_cases c:p.num<aT.nx.num
  ·exact .inl c
  ·exact .inr (Pt.num_inj (by omega))
 have hpre:pn≠re:=fun e=>Jh hre (by rw[<-e];exact E.pn1)
 have off:∀p:Pt,p.num<(aN aT).nx.num->ψ p≠re:=fun p hp=>by
  rcases split p hp with c|rfl
  ·rw[h1 p c];exact E.off (.inr hrn) p c
  ·rw[h2];exact hpre
 obtain⟨ω,ag,e1,H1⟩:=H.add (q:=re) (f:=fun t=> .cells t elR) (Jj _) (Jh hreS) off ⟨tr,by rw[hreS];simp only[elR,elE,List.map_cons,List.map_nil,mv,cl,h3],trivial⟩ rfl hi2
 have hn1:((aN aT).new fun u=>Row.cells u elR).nx.num=(aN aT).nx.num+1:=by show(aN aT).nx.suc.num=_;rw[Pt.num_suc]
 have et:ω t=φ t:=by rw[ag.f t (by omega),h1 t htt]
 have en:ω aT.nx=pn:=by rw[ag.f aT.nx (by omega),h2]
 have split2:∀p:Pt,p.num<((aN aT).new fun u=>Row.cells u elR).nx.num->(p.num<aT.nx.num/\ω p=φ p)\/(p=aT.nx/\ω p=pn)\/ω p=re:=fun p hp=>by
  by_cases c:p.num<(aN aT).nx.num
  ·rcases split p c with k|rfl
   ·exact .inl ⟨k,by rw[ag.f p c,h1 p k]⟩
   ·exact .inr (.inl ⟨rfl,en⟩)
  ·have:p=(aN aT).nx:=Pt.num_inj (by omega)
   rw[this];exact .inr (.inr e1)
 have hwre:w≠re:=fun e=>Jh hre (by rw[<-e];exact E.w1)
 have:=rowK hR H1 (w:=w) (by omega) (by omega) (by simp only[inV];exact decide_eq_true (by omega)) (by rw[et,en];exact E.w) (fun p hp=>by
  rcases split2 p hp with⟨k,e⟩|⟨_,e⟩|e
  ·rw[e];exact E.off (.inl E.w1) p k
  ·rw[e];exact E.pw
  ·rw[e];exact Ne.symm hwre) ⟨at_,by rw[ag.s,h3]⟩
 simp only[mv]at this
 rw[et,en,e1]at this
 refine this.mono fun v S' ⟨a,b,c,d,e⟩=>⟨a,b,fun s s1 s2 s3 s4=>c s s1 s2 fun p hp=> ?_,d,e⟩
 rcases split2 p (H1.none hp)with⟨k,e⟩|⟨_,e⟩|e
 ·rw[e];exact E.off (.inl s4) p k
 ·rw[e];exact Ne.symm s3
 ·rw[e];exact fun f=>Jh hre (by rw[f];exact s4)
theorem caseRow {Sp S1 S:St}{m b k j:Nat}{t x:Pt}{aT:St}{φ:Rn}{pn w:Pt}{e:List V}(E:FE Sp S1 S m t x aT φ pn w)(hc:CaseE Sp S1 (FB m b) k e)(hj:j<m)(hj3:j<3):
  ∃rb,e=[ofL (tagS k), .sl rb 0 1 9]/\Does (tabT tabD) Qs [.ptr w 0, .agg [.int .i64 (j:Nat), .snil, .snil], .sl rb 0 1 9] S (RowR S1 S φ t pn w (cdM b j)):=by
 obtain⟨rb,at_,pv,e1,⟨tb,hrb⟩,hrbn,χ,a,r,rfl,Ha,hF,hr,hx0,hx⟩:=hc
 refine⟨rb,e1, ?_⟩
 simp only[FB,Bool.and_eq_true]at hF
 obtain⟨f1,f2⟩:=hF
 have f2:=Jb8 E.X.run f2
 simp only[Bool.and_eq_true]at f2
 obtain⟨⟨i1,i2,i3⟩,q0,q1,q2⟩:=f2
 have hR:rowQ (cB aT a r) t aT.nx j (.sl (mrgN aT a).nx 0 1 9) (cdM b j)=true:=by
  rcases(by omega:j=0\/j=1\/j=2)with rfl|rfl|rfl
  ·exact q0
  ·rw[show Nat.ble m 1=false from Bool.eq_false_iff.2 fun h=>by have:=Nat.le_of_ble_eq_true h;omega,cond_false]at q1
   exact q1
  ·rw[show Nat.ble m 2=false from Bool.eq_false_iff.2 fun h=>by have:=Nat.le_of_ble_eq_true h;omega,cond_false]at q2
   exact q2
 clear q0 q1 q2
 have hn:=Jjg aT
 have htt:=E.X.tt
 have cl:∀(ψ:Rn) (s:Str),mv ψ (ofL s)=ofL s:=fun ψ s=>JB ψ _ rfl
 obtain⟨ψ,H,h1,h2,h3⟩:=holdN E.HT E.X.noq χ.s Ha.num E.pnl (E.off (.inl E.pn1)) i1
 have liveA:∀p:Pt,p.num<a.nx.num->S1.row (χ p)≠ .none:=fun p hp=>Yw (Ha.row p hp) (kn f1 p hp)
 have split:∀p:Pt,p.num<(aN aT).nx.num->p.num<aT.nx.num\/p=aT.nx:=fun p hp=>by
  by_cases c:p.num<aT.nx.num
  ·exact .inl c
  ·exact .inr (Pt.num_inj (by omega))
 obtain⟨ω,ag,g2,g3,Hω⟩:=H.mrg (Ha.fz E.fz) (by rw[h3]) (fun p q hp hq=>by
  rcases split p hp with c|rfl
  ·rw[h1 p c];exact E.off (.inr (hx q (kn f1 q hq)).1) p c
  ·rw[h2];exact fun e=>liveA q hq (by rw[<-e];exact E.pn1)) f1 i2 (E.HT.pos E.X.pos)
 have Hω:Hold ω (mrgN aT a) S:=Hω
 have nm:(mrgN aT a).nx.num=(aN aT).nx.num+a.nx.num:=by show(up a.nx.num (aN aT).nx).num=_;rw[Kk]
 have er:ω (up (aN aT).nx.num r)=χ r:=g2 r hr
 have hrbS:S.row rb= .cells tb (ndN 2 at_ [] [] (.slx (χ r) 0 1 1 1)):=by rw[E.fz.same rb (Jh hrb),hrb]
 have hpb:pn≠rb:=fun e=>Jh hrb (by rw[<-e];exact E.pn1)
 have split2:∀p:Pt,p.num<(mrgN aT a).nx.num->(p.num<aT.nx.num/\ω p=φ p)\/(p=aT.nx/\ω p=pn)\/∃p':Pt,p'.num<a.nx.num/\ω p=χ p':=fun p hp=>by
  by_cases c:p.num<(aN aT).nx.num
  ·rcases split p c with k|rfl
   ·exact .inl ⟨k,by rw[ag.f p c,h1 p k]⟩
   ·exact .inr (.inl ⟨rfl,by rw[ag.f _ c,h2]⟩)
  ·obtain⟨p',hp',rfl⟩:∃p':Pt,p'.num<a.nx.num/\p=up (aN aT).nx.num p':=by
    refine⟨up (p.num-(aN aT).nx.num) .h,by rw[Kk];show 0+_<_;omega,Pt.num_inj ?_⟩
    rw[Kk,Kk];show _=0+_+_;omega
   exact .inr (.inr ⟨p',hp',g2 p' hp'⟩)
 have off:∀p:Pt,p.num<(mrgN aT a).nx.num->ω p≠rb:=fun p hp=>by
  rcases split2 p hp with⟨k,e⟩|⟨_,e⟩|⟨p',k,e⟩
  ·rw[e];exact E.off (.inr hrbn) p k
  ·rw[e];exact hpb
  ·rw[e];exact(hx p' (kn f1 p' k)).2
 have hin:inR (mrgN aT a).nx.num (.cells (mrgN aT a).t (prR (.slx (up (aN aT).nx.num r) 0 1 1 1)))=true:=by
  show inVs (mrgN aT a).nx.num (prR (.slx (up (aN aT).nx.num r) 0 1 1 1))=true
  simp only[prR,inVs,inV,Kk,decide_eq_true (show r.num+(aN aT).nx.num<(mrgN aT a).nx.num by omega)];rfl
 obtain⟨ω1,ag1,e11,H1⟩:=Hω.add (q:=rb) (f:=fun t=> .cells t (prR (.slx (up (aN aT).nx.num r) 0 1 1 1))) (Jj _) (Jh hrbS) off ⟨tb,by rw[hrbS];simp only[prR,List.map_cons,List.map_nil,mv,cl,er,g3,hx0],trivial⟩ hin i3
 have hn1:(cB aT a r).nx.num=(mrgN aT a).nx.num+1:=by show(mrgN aT a).nx.suc.num=_;rw[Pt.num_suc]
 have et:ω1 t=φ t:=by rw[ag1.f t (by omega),ag.f t (by omega),h1 t htt]
 have en:ω1 aT.nx=pn:=by rw[ag1.f aT.nx (by omega),ag.f aT.nx (by omega),h2]
 have split3:∀p:Pt,p.num<(cB aT a r).nx.num->(p.num<aT.nx.num/\ω1 p=φ p)\/(p=aT.nx/\ω1 p=pn)\/(∃p':Pt,p'.num<a.nx.num/\ω1 p=χ p')\/ω1 p=rb:=fun p hp=>by
  by_cases c:p.num<(mrgN aT a).nx.num
  ·rw[ag1.f p c]
   rcases split2 p c with h|h|h
   ·exact .inl h
   ·exact .inr (.inl h)
   ·exact .inr (.inr (.inl h))
  ·have:p=(mrgN aT a).nx:=Pt.num_inj (by omega)
   rw[this];exact .inr (.inr (.inr e11))
 have offn:∀s,s≠pn->S1.row s= .none->∀p:Pt,p.num<(cB aT a r).nx.num->ω1 p≠s:=fun s s1 s2 p hp=>by
  rcases split3 p hp with⟨k,e⟩|⟨_,e⟩|⟨p',k,e⟩|e
  ·rw[e];exact E.off (.inl s2) p k
  ·rw[e];exact Ne.symm s1
  ·rw[e];exact fun f=>liveA p' k (by rw[f];exact s2)
  ·rw[e];exact fun f=>Jh hrb (by rw[f];exact s2)
 have:=rowK hR H1 (w:=w) (by omega) (by omega) (by simp only[inV];exact decide_eq_true (by omega)) (by rw[et,en];exact E.w) (offn w (Ne.symm E.pw) E.w1) ⟨at_,by rw[ag1.s,g3,hx0]⟩
 simp only[mv]at this
 rw[et,en,e11]at this
 exact this.mono fun v S' ⟨a,b,c,d,e⟩=>⟨a,b,fun s s1 s2 s3 s4=>c s s1 s2 fun p hp=>offn s s3 s4 p (H1.none hp),d,e⟩
theorem JmW {Sp S1 S:St}{m:Nat}{t x:Pt}{aT:St}{φ:Rn}{pv0:V}(X:TabX m t x aT)(HT:Hold φ aT S)(fz:Fz S1 S)(tp:∀p:Pt,p.num<aT.nx.num->Sp.row (φ p)≠ .none)(hp:PvE Sp S1 (fun _=>False) (FM m) 0 pv0):
  Does (tabT tabD) JdM [.ptr (φ t) 0, .agg [.int .i64 (dM m:Nat), .snil, .snil],pv0] S fun v S'=>Gr S S'/\v= .tup [.int .i64 (dM m:Nat), .int .i64 0]:=by
 obtain⟨χ,a,r,rfl,Ha,hF,hr,hx0,hx⟩:=hp
 simp only[FM,Bool.and_eq_true]at hF
 obtain⟨f1,f2⟩:=hF
 have f2:=Jb8 X.run f2
 rw[Bool.and_eq_true]at f2
 obtain⟨i1,f2⟩:=f2
 have HT':=HT.sig X.noq χ.s Ha.num
 obtain⟨ω,ag,g2,g3,Hω⟩:=HT'.mrg (Ha.fz fz) rfl (fun p q hp hq e=>by
  have h:=tp p hp
  have e:φ p=χ q:=e
  rw[e]at h
  exact h (hx q (kn f1 q hq)).1) f1 i1 (HT.pos X.pos)
 split at f2
 rotate_left
 ·cases f2
 rename_i y a1 hrun
 rw[Bool.and_eq_true,Bool.and_eq_true]at f2
 obtain⟨k1,k2,k3⟩:=f2
 have k1:=of_decide_eq_true k1
 have htt:=X.tt
 have nm:(mrg aT a).nx.num=aT.nx.num+a.nx.num:=by show(up a.nx.num aT.nx).num=_;rw[Kk]
 have:=Hω.go tabE tabM tabU (args:=[.ptr t 0, .agg [.int .i64 (dM m:Nat), .snil, .snil], .slx (up aT.nx.num r) 0 1 1 1]) (by
  simp only[inVs,inV,Kk,nm,decide_eq_true (show t.num<aT.nx.num+a.nx.num by omega),decide_eq_true (show r.num+aT.nx.num<aT.nx.num+a.nx.num by omega)];rfl) hrun (Nat.le_of_ble_eq_true k2) k3
 have et:ω t=φ t:=ag.f t htt
 simp only[List.map_cons,List.map_nil,mv,mvs,et,g2 r hr]at this
 exact this.mono fun v S' ⟨gg,ψ,_,ev,_⟩=>⟨gg,by rw[ev,k1]⟩
def IdxH (S:St)(w:Pt)(l:List V)(m:Nat)(nv:V):Prop:=∃(ψ:Rn) (a1:St) (p0:Pt) (v:Nat) (l0:List V) (nv0:V),Hold ψ a1 S/\a1.row p0= .cells v l0/\ψ p0=w/\l0.map (mv ψ)=l/\nv=mv ψ nv0/\∀k,k<7->idxQ a1 nv0 m k=true
theorem IdxH.gr {S S':St}{w:Pt}{l:List V}{m:Nat}{nv:V}(h:IdxH S w l m nv)(g:Gr S S'):IdxH S' w l m nv:=by
 obtain⟨ψ,a1,p0,v,l0,nv0,H,h⟩:=h
 exact⟨ψ,a1,p0,v,l0,nv0,H.gr g,h⟩
theorem IdxH.rew {S S':St}{w:Pt}{l:List V}{m u:Nat}{nv:V}(h:IdxH S w l m nv)(C:Ch (fun r=>r=w) S S')(hw:S'.row w= .cells u l):IdxH S' w l m nv:=by
 obtain⟨ψ,a1,p0,v,l0,nv0,H,h1,rfl,rfl,h4,h5⟩:=h
 exact⟨ψ,a1,p0,v,l0,nv0,JmV H C h1 hw,h1,rfl,rfl,h4,h5⟩
theorem IdxH.low {S:St}{w:Pt}{l:List V}{m:Nat}{nv:V}(h:IdxH S w l m nv)(x:Nat):IdxH {S with low:=x} w l m nv:=by
 obtain⟨ψ,a1,p0,v,l0,nv0,H,h⟩:=h
 exact⟨ψ,a1,p0,v,l0,nv0,H.low x,h⟩
theorem IdxH.use {S:St}{w:Pt}{l:List V}{m k:Nat}{nv:V}(h:IdxH S w l m nv)(hk:k<7):Does (tabT tabD) YN [nv,ofL (tagS k)] S fun v S'=>Gr S S'/\v= .int .i64 (if k<m then((k:Nat):Int)else-1):=by
 obtain⟨ψ,a1,p0,v,l0,nv0,H,h1,h2,h3,rfl,h5⟩:=h
 have h:=h5 k hk
 unfold idxQ at h
 split at h
 rotate_left
 ·cases h
 rename_i x a2 hrun
 simp only[Bool.and_eq_true]at h
 obtain⟨⟨k1,k2⟩,k3,k4⟩:=h
 have k1:=of_decide_eq_true k1
 have:=H.go tabE tabM tabU (args:=[nv0,ofL (tagS k)]) (by simp only[inVs,k2];rfl) hrun (Nat.le_of_ble_eq_true k3) k4
 simp only[List.map_cons,List.map_nil,JB ψ (ofL (tagS k)) rfl]at this
 exact this.mono fun u S' ⟨g,χ,_,e,_⟩=>⟨g,by rw[e,k1];simp only[mv]⟩
theorem Jel {m:Nat}{v:V}(h:slM m v=true):v.sc=true/\lenLV v=some (.int .i64 (m:Nat), .no):=by
 unfold slM at h
 split at h
 ·have h:=Nat.eq_of_beq_eq_true h
  subst h;exact⟨rfl,rfl⟩
 ·rw[Bool.and_eq_true]at h
  have h:=Nat.eq_of_beq_eq_true h.1
  subst h;exact⟨rfl,rfl⟩
 ·cases h
theorem JmX {m:Nat}{v:V}(ψ:Rn)(h:slM m v=true):slM m (mv ψ v)=true:=by
 unfold slM at h
 split at h
 ·rw[mv];exact h
 ·rw[mv];exact h
 ·cases h
theorem Jem :∀{l:List V} {i m:Nat},kidL l i m=true->∀j,i+j<m->l[j]? =some (.int .i64 (((i+j)%3:Nat):Int))
 | [],i,m,h,j,hj=>by
   have h:=Nat.eq_of_beq_eq_true h
   omega
 | x::r,i,m,h,j,hj=>by
   unfold kidL at h
   split at h
   ·rename_i e;cases e
   ·rename_i y r' i' m' e
    injection e with e1 e2
    subst e1;subst e2
    rw[Bool.and_eq_true]at h
    obtain⟨h1,h2⟩:=h
    have h1:=of_decide_eq_true h1
    cases j with
    |zero=>simp[h1]
    | succ j=>
      have:=Jem h2 j (by omega)
      simpa only[List.getElem?_cons_succ,Nat.add_assoc,Nat.add_comm 1 j]using this
   ·cases h
def KidsA (S:St)(kv:V)(m:Nat):Prop:=∀i,i<m->∃q o,iaddrSV 1 kv (.int .i64 (i:Nat))=some (.ptr q o, .no)/\S.row q≠ .none/\(∃t l,S.row q= .cells t l/\l[0]? =some (.int .i64 0))/\ld1 (S.row q) o=some (.int .i64 ((i%3:Nat):Int), .no)
theorem JoY {S a:St}{ψ:Rn}{kv:V}{m:Nat}(H:Hold ψ a S)(h1:slM m kv=true)(h2:kidsQ a kv m=true):KidsA S (mv ψ kv) m:=by
 intro i hi
 have key:∀(r:Pt),(match a.row r with
   | .cells _ l=>kidL l 0 m
   |_=>false)=true->S.row (ψ r)≠ .none/\(∃t l,S.row (ψ r)= .cells t l/\l[0]? =some (.int .i64 0))/\ld1 (S.row (ψ r)) i=some (.int .i64 ((i%3:Nat):Int), .no):=fun r h=>by
  split at h
  rotate_left
  ·cases h
  rename_i t l hr
  have hR:=H.row r (H.none (by rw[hr];exact fun e=>by cases e))
  rw[hr]at hR
  obtain⟨u,hR,_⟩:=hR
  have k0:=Jem h 0 (by omega)
  have k1:=Jem h i (by omega)
  simp only[Nat.zero_add]at k1
  refine⟨Jh hR,⟨u,_,hR, ?_⟩, ?_⟩
  ·rw[List.getElem?_map,k0];simp only[Option.map_some,mv];rfl
  ·rw[hR,Y9,List.getElem?_map,k1];simp only[Option.map_some,mv]
 unfold kidsQ at h2
 split at h2
 ·rename_i r n
  have h1:=Nat.eq_of_beq_eq_true h1
  obtain⟨a1,a2,a3⟩:=key r h2
  refine⟨ψ r,i, ?_,a1,a2,a3⟩
  rw[mv,YT,if_pos (by omega)];simp
 ·rename_i r n c
  simp only[slM,Bool.and_eq_true]at h1
  have h1:=Nat.eq_of_beq_eq_true h1.1
  obtain⟨a1,a2,a3⟩:=key r h2
  refine⟨ψ r,i, ?_,a1,a2,a3⟩
  rw[mv,YU,if_pos (by omega)];simp
 ·cases h2
theorem JdF {Sp S1 S:St}{m:Nat}{t x:Pt}{aT:St}{φ:Rn}{pn w:Pt}(E:FE Sp S1 S m t x aT φ pn w)(hm:1<=m):
  Does (tabT tabD) kB [.ptr w 0, .int .i64 (dM m:Nat)] S fun v S'=>Gr S S'/\∃nv kv,v= .agg [.int .i64 8,ofL [],nv,kv]/\slM m nv=true/\slM m kv=true/\KidsA S' kv m/\IdxH S' w [.ptr (φ t) 0, .slx pn 0 1 1 1, .snil, .int .i64 (-1)] m nv:=by
 have hA:=E.X.all
 unfold allQ at hA
 simp only[Bool.and_eq_true]at hA
 obtain⟨⟨i1,i2,i3⟩,⟨hN,_⟩,_⟩:=hA
 obtain⟨ψ,H,h1,h2,h3⟩:=holdN E.HT E.X.noq (fun _=> .int .i64 0) (fun _=>⟨_,_,rfl⟩) E.pnl (E.off (.inl E.pn1)) i1
 have hn:=Jjg aT
 have htt:=E.X.tt
 have split:∀p:Pt,p.num<(aN aT).nx.num->p.num<aT.nx.num\/p=aT.nx:=fun p hp=>by
  by_cases c:p.num<aT.nx.num
  ·exact .inl c
  ·exact .inr (Pt.num_inj (by omega))
 have et:ψ t=φ t:=h1 t htt
 obtain⟨u,hw⟩:=E.w
 obtain⟨ω,ag,e1,H1⟩:=H.add (q:=w) (f:=fun u=> .cells u (wR t aT.nx)) (Jj _) (Jh hw) (fun p hp=>by
  rcases split p hp with c|rfl
  ·rw[h1 p c];exact E.off (.inl E.w1) p c
  ·rw[h2];exact E.pw) ⟨u,by rw[hw];simp only[wR,List.map_cons,List.map_nil,mv,et,h2],trivial⟩ (by
  show inVs (aN aT).nx.num (wR t aT.nx)=true
  simp only[wR,inVs,inV,decide_eq_true (show t.num<(aN aT).nx.num by omega),decide_eq_true (show aT.nx.num<(aN aT).nx.num by omega)];rfl) i2
 have hn1:((aN aT).new fun u=>Row.cells u (wR t aT.nx)).nx.num=(aN aT).nx.num+1:=by show(aN aT).nx.suc.num=_;rw[Pt.num_suc]
 unfold nodeQ at hN
 split at hN
 rotate_left
 ·cases hN
 rename_i nv kv a1 hrun
 simp only[Bool.and_eq_true]at hN
 obtain⟨⟨⟨k1,k2⟩,k3,k4⟩,⟨k5,k6⟩,q0,q1,q2,q3,q4,q5,q6⟩:=hN
 have k1:=Nat.le_of_ble_eq_true k1
 have mc:=tabM 60 _ _ _ _ _ hrun (Yx H1.wfa _)
 have:=H1.go tabE tabM tabU (args:=[.ptr (aN aT).nx 0, .int .i64 (dM m:Nat)]) (by
  rw[hn1]
  simp only[inVs,inV,decide_eq_true (show(aN aT).nx.num<(aN aT).nx.num+1 by omega)];rfl) hrun k1 k2
 simp only[List.map_cons,List.map_nil,mv,e1]at this
 refine this.mono fun v S' ⟨gg,χ,agx,ev,Hx,_⟩=>⟨gg,mv χ nv,mv χ kv,by rw[ev];simp only[mv,mvs];rfl,JmX χ k3,JmX χ k4,JoY Hx k4 k5,χ,a1,(aN aT).nx,(aN aT).t,wR t aT.nx,nv,Hx, ?_, ?_, ?_,rfl, ?_⟩
 ·have h0:((aN aT).new fun u=>Row.cells u (wR t aT.nx)).row (aN aT).nx= .cells (aN aT).t (wR t aT.nx):=by rw[Ki,if_pos rfl]
  have:a1.row (aN aT).nx=((aN aT).new fun u=>Row.cells u (wR t aT.nx)).row (aN aT).nx:=Classical.byContradiction fun c=>by
   have ho:=mc.mono.old (aN aT).nx (by show((aN aT).new fun u=>Row.cells u (wR t aT.nx)).row (aN aT).nx≠ .none;rw[h0];exact fun e=>by cases e) c
   have ho:a1.low<=(((aN aT).new fun u=>Row.cells u (wR t aT.nx)).row (aN aT).nx).time:=ho
   rw[h0]at ho
   have ho:a1.low<=(aN aT).t:=ho
   omega
  rw[this,h0]
 ·rw[agx.f _ (by rw[hn1];omega),e1]
 ·have e2:χ t=φ t:=by rw[agx.f t (by rw[hn1];omega),ag.f t (by omega),et]
  have e3:χ aT.nx=pn:=by rw[agx.f aT.nx (by rw[hn1];omega),ag.f aT.nx (by omega),h2]
  simp only[wR,List.map_cons,List.map_nil,mv,e2,e3]
 ·intro k hk
  rcases(by omega:k=0\/k=1\/k=2\/k=3\/k=4\/k=5\/k=6)with rfl|rfl|rfl|rfl|rfl|rfl|rfl
  ·exact q0
  ·exact q1
  ·exact q2
  ·exact q3
  ·exact q4
  ·exact q5
  ·exact q6
noncomputable def contQ (bs:List Bool):Bool:=match run (tabT tabD) 60 YM [.slx .h 0 bs.length 1 bs.length, .bool false] {(St.start.new fun t=> .cells t (bs.map V.bool))with low:=1}with
 |some (.bool x,a)=>(x==bs.any not)&&(Nat.ble 1 a.low&&inT a.nx.num a.h)
 |_=>false
def allL :Nat->(List Bool->Bool)->Bool
 |0,f=>f []
 |n+1,f=>allL n (fun l=>f (true::l))&&allL n (fun l=>f (false::l))
theorem Y3 :∀{n:Nat} {f:List Bool->Bool},allL n f=true->∀l:List Bool,l.length=n->f l=true
 |0,f,h,[],_=>h
 |0,f,h,_::_,e=>by cases e
 |n+1,f,h,[],e=>by cases e
 | n+1,f,h,b::l,e=>by
   rw[allL,Bool.and_eq_true]at h
   have e':l.length=n:=by simpa using e
   cases b with
   |true=>exact Y3 h.1 l e'
   |false=>exact Y3 h.2 l e'
theorem Jr0 :allL 1 contQ=true:=by kernel_rfl
theorem Jr1 :allL 2 contQ=true:=by kernel_rfl
theorem Jr2 :allL 3 contQ=true:=by kernel_rfl
theorem Jr3 :allL 4 contQ=true:=by kernel_rfl
theorem Jr4 :allL 5 contQ=true:=by kernel_rfl
theorem Jr5 :allL 6 contQ=true:=by kernel_rfl
theorem Jaf :∀bs:List Bool,closeds (bs.map V.bool)=true
 |[]=>rfl
 |_::r=>by rw[List.map_cons,closeds,Jaf r];rfl
theorem contC {bs:List Bool}(h1:1<=bs.length)(h6:bs.length<=6){S:St}(hw:WF S){q:Pt}(hq:∃t,S.row q= .cells t (bs.map V.bool)):Does (tabT tabD) YM [.slx q 0 bs.length 1 bs.length, .bool false] S fun v S'=>Gr S S'/\v= .bool (bs.any not):=by
 have h:contQ bs=true:=by
  rcases(by omega:bs.length=1\/bs.length=2\/bs.length=3\/bs.length=4\/bs.length=5\/bs.length=6)with e|e|e|e|e|e
  ·exact Y3 Jr0 bs e
  ·exact Y3 Jr1 bs e
  ·exact Y3 Jr2 bs e
  ·exact Y3 Jr3 bs e
  ·exact Y3 Jr4 bs e
  ·exact Y3 Jr5 bs e
 unfold contQ at h
 split at h
 ·rename_i x a hr
  rw[Bool.and_eq_true,Bool.and_eq_true]at h
  obtain⟨t,hq⟩:=hq
  have H0:=Hold.start (S:=S) (fun _=> .int .i64 0) (fun _=>⟨_,_,rfl⟩) hw
  have hcl:=Jaf bs
  obtain⟨φ,ag,e1,H⟩:=H0.add (q:=q) (f:=fun t=> .cells t (bs.map V.bool)) (Jj _) (Jh hq) (fun p h=>absurd h (Nat.not_lt_zero _)) ⟨t,by rw[hq,Yh _ _ hcl],trivial⟩ (Qw _ _ hcl) (by
   show(inR 1 (.cells 0 (bs.map V.bool))&&true)=true
   rw[inR,Qw _ _ hcl];rfl)
  have e1:φ .h=q:=e1
  have:=H.go tabE tabM tabU (args:=[.slx .h 0 bs.length 1 bs.length, .bool false]) rfl hr (Nat.le_of_ble_eq_true h.2.1) h.2.2
  simp only[List.map_cons,List.map_nil,mv,e1]at this
  exact this.mono fun v S' ⟨g,ψ,_,e,_⟩=>⟨g,by rw[e,show x=bs.any not from eq_of_beq h.1]⟩
 ·cases h
def okS (m b:Nat)(o:Bool):List Nat->List Nat->Int
 |acc,[]=>if((List.range m).map fun k=>decide (k∈acc)).any not=true/\o=false then 19 else 0
 |acc,k::r=>if m<=k\/k∈acc then 19 else if cdM b (k%3)=0 then okS m b o (acc++[k]) r else cdM b (k%3)
def MatchP (S1 S:St)(φ:Rn)(t pn w:Pt)(code:Int)(v:V)(S':St):Prop:=
 v= .int .i64 code/\(∀s,S.row s≠ .none->s≠w->s≠pn->S1.row s= .none->S'.row s=S.row s)/\Mono S S'/\∃x u,S'.row w= .cells u [.ptr (φ t) 0, .slx pn 0 1 1 1, .snil, .int .i64 x]/\(code=0->x= -1)
theorem FE.ch {Sp S1 S S':St}{m:Nat}{t x:Pt}{aT:St}{φ:Rn}{pn w:Pt}{W:Pt->Prop}(E:FE Sp S1 S m t x aT φ pn w)(C:Ch W S S')(hW:∀r,W r->S1.row r= .none)(hpn:¬W pn)(hw:∃u,S'.row w= .cells u [.ptr (φ t) 0, .slx pn 0 1 1 1, .snil, .int .i64 (-1)]):FE Sp S1 S' m t x aT φ pn w:=
 ⟨E.X,E.HT.keep C.mono fun p hp=>C.same _ (Yw (E.HT.row p (E.HT.none hp)) hp) fun c=>E.off (.inl (hW _ c)) p (E.HT.none hp) rfl,E.fz.ch C hW,E.sp,E.tp,E.pn1,by rw[C.same _ E.pnl hpn];exact E.pnl,E.w1,E.pw,hw⟩
def wasR (m:Nat)(acc:List Nat):List Bool:=(List.range m).map fun k=>decide (k∈acc)
theorem Yl (m:Nat)(acc:List Nat):(wasR m acc).length=m:=by simp[wasR]
theorem FE.low {Sp S1 S:St}{m:Nat}{t x:Pt}{aT:St}{φ:Rn}{pn w:Pt}(E:FE Sp S1 S m t x aT φ pn w)(y:Nat):FE Sp S1 {S with low:=y} m t x aT φ pn w:=⟨E.X,E.HT.low y,E.fz.low y,E.sp,E.tp,E.pn1,E.pnl,E.w1,E.pw,E.w⟩
theorem Jgq {m k:Nat}(acc:List Nat)(hk:k<m):splice ((wasR m acc).map V.bool) k [.bool true]=(wasR m (acc++[k])).map V.bool:=by
 have hl:((wasR m acc).map V.bool).length=m:=by rw[List.length_map,Yl]
 have hl2:((wasR m (acc++[k])).map V.bool).length=m:=by rw[List.length_map,Yl]
 have e:splice ((wasR m acc).map V.bool) k [.bool true]=((wasR m acc).map V.bool).set k (.bool true):=by
  simp only[splice,List.length_cons,List.length_nil,Nat.zero_add]
  rw[List.set_eq_take_append_cons_drop,if_pos (by omega)];simp
 rw[e]
 apply List.ext_getElem
 ·rw[List.length_set,hl,hl2]
 ·intro i h1 h2
  rw[List.getElem_set]
  by_cases c:k=i
  ·subst c;simp[wasR]
  ·rw[if_neg c];simp[wasR,Ne.symm c]
theorem RowR.matchP {S1 S0 S S':St}{φ:Rn}{t pn w:Pt}{code:Int}{v:V}(h:RowR S1 S φ t pn w code v S')(m:Mono S0 S)(k:∀s,S0.row s≠ .none->s≠w->s≠pn->S1.row s= .none->S.row s=S0.row s):MatchP S1 S0 φ t pn w code v S':=by
 obtain⟨a,b,c,d,e⟩:=h
 exact⟨a,fun s s1 s2 s3 s4=>by rw[c s (by rw[k s s1 s2 s3 s4];exact s1) s2 s3 s4,k s s1 s2 s3 s4],m.trans d,e⟩
theorem Jr6 {st:St}{c:Nat}(hc:c<2^20):mkslV st 1 [.bool false] (.int .i64 (c:Int)) (.int .i64 (c:Int))=some (.slx st.nx 0 c 1 c, .new fun t=> .cells t (List.replicate c (.bool false))):=by
 have e:(List.replicate c [V.bool false]).flatten=List.replicate c (.bool false):=by
  clear hc
  induction c with
  |zero=>rfl
  |succ c ih=>rw[List.replicate_succ,List.flatten_cons,ih,List.replicate_succ];rfl
 have h0:natOf (.int .i64 (c:Int))=some c:=by simp[natOf]
 show evOp (fun _=> .snil) st (.mksl 1 [.bool false] (.c (.int .i64 (c:Int))) (.c (.int .i64 (c:Int))))=_
 simp only[evOp,Opd.ev,h0]
 rw[if_pos ⟨Nat.le_refl _,hc,rfl⟩,e]
theorem JmY (m:Nat):(wasR m []).map V.bool=List.replicate m (.bool false):=by
 apply List.ext_getElem
 ·simp[wasR]
 ·intro i h1 h2;simp[wasR]
noncomputable def withQ (d j:Nat):Bool:=match run (tabT tabD) 60 JaT [.agg [.int .i64 (d:Nat), .snil, .snil], .int .i64 (j:Nat)] St.start with
 |some (.agg [.int .i64 x, .snil, .snil],a)=>decide (x=(j:Nat))&&inT a.nx.num a.h
 |_=>false
theorem JmZ :withQ 1 0=true:=by kernel_rfl
theorem Jm0 :withQ 2 0=true:=by kernel_rfl
theorem Jm1 :withQ 2 1=true:=by kernel_rfl
theorem Jm2 :withQ 3 0=true:=by kernel_rfl
theorem Jm3 :withQ 3 1=true:=by kernel_rfl
theorem Jm4 :withQ 3 2=true:=by kernel_rfl
theorem withC {d j:Nat}(hd:d<4)(hj:j<d){S:St}(hw:WF S):Does (tabT tabD) JaT [.agg [.int .i64 (d:Nat), .snil, .snil], .int .i64 (j:Nat)] S fun v S'=>Gr S S'/\v= .agg [.int .i64 (j:Nat), .snil, .snil]:=by
 have h:withQ d j=true:=by
  rcases(by omega:(d=1/\j=0)\/(d=2/\j=0)\/(d=2/\j=1)\/(d=3/\j=0)\/(d=3/\j=1)\/(d=3/\j=2))with⟨rfl,rfl⟩|⟨rfl,rfl⟩|⟨rfl,rfl⟩|⟨rfl,rfl⟩|⟨rfl,rfl⟩|⟨rfl,rfl⟩
  ·exact JmZ
  ·exact Jm0
  ·exact Jm1
  ·exact Jm2
  ·exact Jm3
  ·exact Jm4
 unfold withQ at h
 split at h
 ·rename_i x a hr
  rw[Bool.and_eq_true]at h
  have H:=Hold.start (S:=S) (fun _=> .int .i64 0) (fun _=>⟨_,_,rfl⟩) hw
  have:=H.go tabE tabM tabU (args:=[.agg [.int .i64 (d:Nat), .snil, .snil], .int .i64 (j:Nat)]) rfl hr (Nat.zero_le _) h.2
  simp only[List.map_cons,List.map_nil,mv,mvs]at this
  exact this.mono fun _ _ ⟨g,ψ,_,e,_⟩=>⟨g,by rw[e,show x=(j:Int)from of_decide_eq_true h.1]⟩
 ·cases h
set_option maxHeartbeats 4000000 in
theorem matchC {Sp S1 S:St}{m b:Nat}{t x:Pt}{aT:St}{φ:Rn}{pn w:Pt}{pv0 ev cv:V}{o:Bool}{cs:List (List V)}{ks:List Nat}(E:FE Sp S1 S m t x aT φ pn w)(h1:1<=m)(h6:m<=6)(hpv:pv0.sc=true)(hcv:SlAt (fun _=>True) S1 cv 2 cs)(hlen:cs.length=ks.length)(hk9:ks.length<=9)(hk7:∀k∈ks,k<7)
  (hev:if o then∃re at_,ev= .sl re 0 1 9/\(∃t,S1.row re= .cells t (elE at_))/\Sp.row re= .none else ev= .snil) (hcase:∀i (h:i<cs.length) (h':i<ks.length),CaseE Sp S1 (FB m b) ks[i] cs[i]):
  Does (tabT tabD) j7 [.ptr w 0, .agg [.int .i64 (dM m:Nat), .snil, .snil], .agg [.int .i64 8, .int .i64 0,ofL [],ofL [],pv0, .snil,ev, .bool o,cv], .int .i64 (dM m:Nat)] S (MatchP S1 S φ t pn w (okS m b o [] ks)):=by
 refine YK jK rfl ?_
 have hA:=E.X.all
 unfold allQ at hA
 simp only[Bool.and_eq_true]at hA
 obtain⟨⟨i1,i2,i3⟩,⟨_,_⟩,qn,qe⟩:=hA
 have hw:=E.HT.wf
 have sev:ev.sc=true:=by
  cases o with
  |false=>have hev:ev= .snil:=hev;rw[hev];rfl
  |true=>obtain⟨re,at_,e,_⟩:=hev;rw[e];rfl
 have scv:=hcv.sc
 have c0:pv0.cells=some [pv0]:=by cases pv0<;>first|rfl|(cases hpv;done)
 have c1:ev.cells=some [ev]:=by cases ev<;>first|rfl|(cases sev;done)
 have c2:cv.cells=some [cv]:=by cases cv<;>first|rfl|(cases scv;done)
 obtain⟨n0,hn0⟩:∃n,S.nx=up 0 n:=⟨_,up0 _⟩
 simp only[J9,XY,simprocAttr]
 rw[Jk];simp only[XY,simprocAttr,hn0,hpv,sev,scv,c0,c1,c2]
 refine Qa ?_
 intro S2 hS2
 have G2:Gr S S2:=by rw[hS2];exact(Gr.new hw (Jj _)).nn (Jj _)
 obtain⟨p5,hp5⟩:∃b,b=up 0 n0:=⟨_,rfl⟩
 obtain⟨p6,hp6⟩:∃b,b=up 1 n0:=⟨_,rfl⟩
 obtain⟨t5,r5⟩:∃t,S2.row p5= .cells t [.int .i64 (dM m:Nat), .snil, .snil]:=⟨_,by rw[hS2,hp5];simp only[XZ,simprocAttr,hn0];rfl⟩
 obtain⟨t6,r6⟩:∃t,S2.row p6= .cells t [.int .i64 8, .int .i64 0,ofL [],ofL [],pv0, .snil,ev, .bool o,cv]:=⟨_,by rw[hS2,hp6];simp only[XZ,simprocAttr,hn0];rfl⟩
 have p5n:S.row p5= .none:=by rw[hp5];exact nx0 hw hn0 0
 have p6n:S.row p6= .none:=by rw[hp6];exact nx0 hw hn0 1
 rw[<-hp5,<-hp6]
 clear hS2
 have E2:=E.gr G2
 rw[Jk];simp only[XY,simprocAttr]
 refine Js (JdF E2 h1) ?_
 rintro _ S3 ⟨G3,nv,kv,rfl,sl1,sl2,hK,hI⟩
 obtain⟨snv,lnv⟩:=Jel sl1
 obtain⟨skv,lkv⟩:=Jel sl2
 have cnv:nv.cells=some [nv]:=by cases nv<;>first|rfl|(cases snv;done)
 have ckv:kv.cells=some [kv]:=by cases kv<;>first|rfl|(cases skv;done)
 obtain⟨n3,hn3⟩:∃n,S3.nx=up 0 n:=⟨_,up0 _⟩
 simp only[XY,simprocAttr,hn3,snv,skv,cnv,ckv]
 refine Qa ?_
 intro S4 hS4
 have w3:=G3.wf
 have G4:Gr S3 S4:=by rw[hS4];exact(Gr.refl w3).nw hn3 (Jj _) (Jj _)
 obtain⟨p9,hp9⟩:∃b,b=up 0 n3:=⟨_,rfl⟩
 obtain⟨t9,r9⟩:∃t,S4.row p9= .cells t [.int .i64 8,ofL [],nv,kv]:=⟨_,by rw[hS4,hp9];simp only[XZ,simprocAttr,hn3];rfl⟩
 have p9n:S3.row p9= .none:=by rw[hp9];exact nx0 w3 hn3 0
 rw[<-hp9]
 clear hS4
 rw[Ju,Jk];simp only[XY,simprocAttr,r9]
 have hmk:=Jr6 (st:=S4) (c:=m) (by omega)
 obtain⟨n4,hn4⟩:∃n,S4.nx=up 0 n:=⟨_,up0 _⟩
 obtain⟨pw,hpw⟩:∃b,b=up 0 n4:=⟨_,rfl⟩
 rw[hn4,<-hpw]at hmk
 rw[Jk];simp only[XY,simprocAttr,r9,lnv,hmk]
 refine Qa ?_
 intro S5 hS5
 have G5:Gr S4 S5:=by rw[hS5];exact Gr.new G4.wf (Jj _)
 obtain⟨tw,rpw⟩:∃t,S5.row pw= .cells t ((wasR m []).map V.bool):=⟨_,by rw[hS5,hpw,<-hn4,Ki,if_pos rfl,JmY]⟩
 have pwn:S4.row pw= .none:=by rw[hpw];exact nx0 G4.wf hn4 0
 clear hS5
 have G25:=(G3.trans G4).trans G5
 have E5:=E2.gr G25
 have r95:=G5.cells r9
 have r55:=G25.cells r5
 have r65:=G25.cells r6
 have hI5:=hI.gr (G4.trans G5)
 have lcv:=hcv.len
 rw[Ju,Jk];simp only[XY,simprocAttr,r65,lcv]
 obtain⟨L,hL⟩:∃L:Nat->Fr->St->Prop,∀j fr S',L j fr S'<->∃i:Nat,j+i=cs.length/\fr 0= .ptr w 0/\fr 5= .ptr p5 0/\fr 6= .ptr p6 0/\fr 9= .ptr p9 0/\fr 10= .slx pw 0 m 1 m/\fr 26=cv/\fr 27= .int .i64 (cs.length:Nat)/\fr 28= .int .i64 i/\okS m b o [] ks=okS m b o (ks.take i) (ks.drop i)/\Ch (fun r=>r=w\/r=pw) S5 S'/\(∃u,S'.row w= .cells u [.ptr (φ t) 0, .slx pn 0 1 1 1, .snil, .int .i64 (-1)])/\(∃u,S'.row pw= .cells u ((wasR m (ks.take i)).map V.bool)):=⟨_,fun _ _ _=>Iff.rfl⟩
 refine jh L cs.length (by omega) ((hL _ _ _).2 ⟨0,by omega,by simp only[XZ,simprocAttr],by simp only[XZ,simprocAttr],by simp only[XZ,simprocAttr],by simp only[XZ,simprocAttr],by simp only[XZ,simprocAttr],by simp only[XZ,simprocAttr],by simp only[XZ,simprocAttr],by simp only[XZ,simprocAttr]<;>rfl,rfl,Ch.refl _ E5.HT.wf,E5.w,⟨tw,rpw⟩⟩) ?_
 clear rpw tw
 intro jj fr S6 hLj
 obtain⟨i,hjj,f0,f5,f6,f9,f10,f26,f27,f28,hok,C6,hw6,⟨u6,rpw⟩⟩:=(hL _ _ _).1 hLj
 have pww:pw≠w:=fun e=>by
  obtain⟨u,h⟩:=E2.w
  have:=(G3.trans G4).cells h
  rw[<-e,pwn]at this
  cases this
 have oldS:∀{r:Pt},S.row r≠ .none->r≠w->S6.row r=S.row r:=fun{r} h0 h1=>by
  have e5:S5.row r=S.row r:=(G2.trans G25).same r h0
  have npw:r≠pw:=fun e=>by
   have:=(G2.trans (G3.trans G4)).same r h0
   rw[e,pwn,<-e]at this
   exact h0 this.symm
  rw[C6.same r (by rw[e5];exact h0) (fun h=>by rcases h with h|h;exact h1 h;exact npw h),e5]
 have m6:Mono S S6:=(G2.trans G25).mono.trans C6.mono
 have fr6:∀s,S.row s≠ .none->s≠w->s≠pn->S1.row s= .none->S6.row s=S.row s:=fun s a b _ _=>oldS a b
 have pwS1:S1.row pw= .none:=Classical.byContradiction fun c=>by
  have:=((E2.gr (G3.trans G4)).fz).same pw c
  rw[pwn]at this
  exact c this.symm
 have pnpw:pn≠pw:=fun e=>by
  have:=(G2.trans (G3.trans G4)).same pn E.pnl
  rw[e,pwn,<-e]at this
  exact E.pnl this.symm
 have E6:FE Sp S1 S6 m t x aT φ pn w:=E5.ch C6 (fun r h=>by rcases h with h|h<;>rw[h];exact E.w1;exact pwS1) (fun h=>by rcases h with h|h;exact E.pw h;exact pnpw h) hw6
 have C36:Ch (fun r=>r=w) S3 S6:=(Ch.of _ (G4.trans G5)).trans C6 fun r h=>by
  rcases h with h|h
  ·exact .inl h
  ·refine .inr (Classical.byContradiction fun c=> ?_)
   have:=G4.same r c
   rw[h,pwn,<-h]at this
   exact c this.symm
 have w3l:S3.row w≠ .none:=by
  obtain⟨u,h⟩:=(E2.gr G3).w
  exact Jh h
 have p9w:p9≠w:=fun e=>w3l (by rw[<-e];exact p9n)
 have p9pw:p9≠pw:=fun e=>Jh r9 (by rw[e];exact pwn)
 have p5w:p5≠w:=fun e=>by
  obtain⟨u,h⟩:=E.w
  rw[<-e,p5n]at h;cases h
 have p6w:p6≠w:=fun e=>by
  obtain⟨u,h⟩:=E.w
  rw[<-e,p6n]at h;cases h
 have p5pw:p5≠pw:=fun e=>Jh ((G3.trans G4).cells r5) (by rw[e];exact pwn)
 have p6pw:p6≠pw:=fun e=>Jh ((G3.trans G4).cells r6) (by rw[e];exact pwn)
 have keep6:∀{r:Pt},S5.row r≠ .none->r≠w->r≠pw->S6.row r=S5.row r:=fun{r} a b c=>C6.same r a fun h=>by rcases h with h|h;exact b h;exact c h
 have r96:=(keep6 (Jh r95) p9w p9pw).trans r95
 have r56:=(keep6 (Jh r55) p5w p5pw).trans r55
 have r66:=(keep6 (Jh r65) p6w p6pw).trans r65
 by_cases hi:i<cs.length
 rotate_left
 ·have hi':¬(i:Int)<cs.length:=by omega
  rw[List.drop_eq_nil_of_le (by omega),okS,List.take_of_length_le (by omega)]at hok
  rw[List.take_of_length_le (by omega)]at rpw
  rw[Jk];simp only[XY,simprocAttr,f27,f28,hi']
  rw[Ju];simp only[XY,simprocAttr]
  have hcc:=contC (bs:=wasR m ks) (by rw[Yl];exact h1) (by rw[Yl];exact h6) E6.HT.wf ⟨_,rpw⟩
  rw[Yl]at hcc
  rw[Ju,Jk];simp only[XY,simprocAttr,f6,f10]
  refine Js hcc ?_
  rintro _ S7 ⟨G7,rfl⟩
  have E7:=E6.gr G7
  have r57:=G7.cells r56
  have r67:=G7.cells r66
  have m7:=m6.trans G7.mono
  have fr7:∀s,S.row s≠ .none->s≠w->s≠pn->S1.row s= .none->S7.row s=S.row s:=fun s a b c d=>by rw[G7.same s (by rw[oldS a b];exact a),oldS a b]
  have hw7:∃x u,S7.row w= .cells u [.ptr (φ t) 0, .slx pn 0 1 1 1, .snil, .int .i64 x]/\((19:Int)=0->x= -1):=by
   obtain⟨u,h⟩:=E7.w
   exact⟨-1,u,h,fun _=>rfl⟩
  have hok':okS m b o [] ks=if(wasR m ks).any not=true/\o=false then 19 else 0:=hok
  cases hany:(wasR m ks).any not with
  | true=>
    cases o with
    | false=>
      rw[hany,if_pos ⟨rfl,rfl⟩]at hok'
      simp only[XZ,simprocAttr,r67,r57,f0,f5,f6]
      rw[hok']
      exact⟨rfl,fr7,m7,hw7⟩
    | true=>
      rw[if_neg (fun h=>by cases h.2)]at hok'
      obtain⟨re,at_,rfl,hre,hrn⟩:=hev
      simp only[XZ,simprocAttr,r67,r57,f0,f5,f6]
      refine Js (elRow E7 qe i1 i3 hre hrn) ?_
      intro v S8 h8
      rw[hok']
      exact h8.matchP m7 fr7
  | false=>
    rw[hany,if_neg (fun h=>by cases h.1)]at hok'
    cases o with
    | false=>
      have hev:ev= .snil:=hev
      subst hev
      simp only[XZ,simprocAttr,r67,r57,f0,f5,f6]
      refine Js (nilRow E7 qn i1) ?_
      intro v S8 h8
      rw[hok']
      exact h8.matchP m7 fr7
    | true=>
      obtain⟨re,at_,rfl,hre,hrn⟩:=hev
      simp only[XZ,simprocAttr,r67,r57,f0,f5,f6]
      refine Js (elRow E7 qe i1 i3 hre hrn) ?_
      intro v S8 h8
      rw[hok']
      exact h8.matchP m7 fr7
 have hi':(i:Int)<cs.length:=by omega
 have hadd1:IntKind.i64.wrap ((i:Int)+1)=((i+1:Nat):Int):=by rw[Q0 (by omega) (by omega)];rfl
 have hik:i<ks.length:=by omega
 obtain⟨k,hk⟩:∃k,k=ks[i]:=⟨_,rfl⟩
 have hk7':k<7:=by rw[hk];exact hk7 _ (List.getElem_mem hik)
 have hce:=hcase i hi hik
 rw[<-hk]at hce
 have hdrop:ks.drop i=k::ks.drop (i+1):=by rw[hk,List.drop_eq_getElem_cons hik]
 have htake:ks.take (i+1)=ks.take i++[k]:=by rw[List.take_add_one,List.getElem?_eq_getElem hik,hk];rfl
 obtain⟨acc,hacc⟩:∃acc,acc=ks.take i:=⟨_,rfl⟩
 rw[hdrop,okS,<-hacc]at hok
 rw[<-hacc]at rpw htake
 have hj3:k%3<3:=Nat.mod_lt _ (by decide)
 obtain⟨rb,ecs,_⟩:∃rb,cs[i]=[ofL (tagS k), .sl rb 0 1 9]/\True:=by
  obtain⟨rb,_,_,e,_⟩:=hce
  exact⟨rb,e,trivial⟩
 obtain⟨q,oo,a1,_,a0,a2,_⟩:=(SlAt.fz hcv E6.fz).elem (i:=i) hi
 have a2:ldn (S6.row q) oo 2=some (.agg [ofL (tagS k), .sl rb 0 1 9], .no):=by rw[a2,ecs]
 obtain⟨n6,hn6⟩:∃n,S6.nx=up 0 n:=⟨_,up0 _⟩
 rw[Jk];simp only[XY,simprocAttr,f27,f28,hi']
 rw[Ju];simp only[XY,simprocAttr]
 rw[Ju];simp only[XY,simprocAttr]
 rw[Jk];simp only[XY,simprocAttr,f26,f28,a1,a2,hn6]
 refine Qa ?_
 intro S7 hS7
 have G7:Gr S6 S7:=by rw[hS7];exact(Gr.refl E6.HT.wf).nw hn6 (Jj _) (Jj _)
 obtain⟨p12,hp12⟩:∃b,b=up 0 n6:=⟨_,rfl⟩
 obtain⟨t12,r12⟩:∃t,S7.row p12= .cells t [ofL (tagS k), .sl rb 0 1 9]:=⟨_,by rw[hS7,hp12];simp only[XZ,simprocAttr,hn6];rfl⟩
 rw[<-hp12]
 clear hS7
 have r97:=G7.cells r96
 have hI7:=(hI.rew C36 hw6.choose_spec).gr G7
 rw[Jk];simp only[XY,simprocAttr,f9,r97,r12]
 refine Js (hI7.use hk7') ?_
 rintro _ S8 ⟨G8,rfl⟩
 have G68:=G7.trans G8
 have E8:=E6.gr G68
 have r98:=G8.cells r97
 have r128:=G8.cells r12
 have r58:=G68.cells r56
 have rpw8:=G68.cells rpw
 have m8:=m6.trans G68.mono
 have fr8:∀s,S.row s≠ .none->s≠w->s≠pn->S1.row s= .none->S8.row s=S.row s:=fun s a b c d=>by rw[G68.same s (by rw[oldS a b];exact a),oldS a b]
 have hw8:∃x u,S8.row w= .cells u [.ptr (φ t) 0, .slx pn 0 1 1 1, .snil, .int .i64 x]/\((19:Int)=0->x= -1):=by
  obtain⟨u,h⟩:=E8.w
  exact⟨-1,u,h,fun _=>rfl⟩
 simp only[XY,simprocAttr]
 by_cases hkm:k<m
 rotate_left
 ·rw[if_pos (.inl (by omega))]at hok
  rw[if_neg hkm]
  have hneg:((-1:Int)<0):=by decide
  rw[Ju,Jk];simp only[XZ,simprocAttr,hneg]
  rw[hok]
  exact⟨rfl,fr8,m8,hw8⟩
 rw[if_pos hkm]
 have hnn:¬((k:Nat):Int)<0:=by omega
 have hge:¬((k:Nat):Int)≥(m:Nat):=by omega
 have hkm':((k:Nat):Int)<(m:Nat):=by omega
 have hwk:(wasR m acc)[k]? =some (decide (k∈acc)):=by simp[wasR,hkm]
 have ipw:iaddrSV 1 (.slx pw 0 m 1 m) (.int .i64 (k:Nat))=some (.ptr pw k, .no):=by rw[YU,if_pos (by omega)];simp
 have lpw:ld1 (S8.row pw) k=some (.bool (decide (k∈acc)), .no):=by rw[rpw8,Y9,List.getElem?_map,hwk];rfl
 by_cases hin:k∈acc
 ·rw[if_pos (.inr hin)]at hok
  rw[Ju,Jk];simp only[XZ,simprocAttr,hnn,hge,f9,f10,r98,lkv,ipw,lpw,hin]
  rw[hok]
  exact⟨rfl,fr8,m8,hw8⟩
 rw[if_neg (fun h=>by rcases h with h|h;omega;exact hin h)]at hok
 rw[Ju,Jk];simp only[XY,simprocAttr,hnn,hge,f9,f10,r98,lkv,ipw,lpw,hin]
 have hle:k+1<=((wasR m acc).map V.bool).length:=by rw[List.length_map,Yl];omega
 have pw8:S8.row pw≠ .none:=Jh rpw8
 rw[Jk];simp only[XN,simprocAttr,f10,ipw,rpw8,hle]
 rw[Jgq acc hkm]
 obtain⟨S9,hS9⟩:∃S9,S9=S8.wr pw u6 fun u=>Row.cells u ((wasR m (acc++[k])).map V.bool):=⟨_,rfl⟩
 have C9:Ch (fun r=>r=pw) S8 S9:=by rw[hS9];exact(Ch.refl (fun r=>r=pw) E8.HT.wf).wr pw8 (by rw[rpw8];rfl) (.inl rfl) (Jj _)
 have rpw9:S9.row pw= .cells S8.t ((wasR m (acc++[k])).map V.bool):=by rw[hS9,JF,if_pos rfl]
 rw[<-hS9]
 clear hS9
 have E9:FE Sp S1 S9 m t x aT φ pn w:=E8.ch C9 (fun r h=>by rw[h];exact pwS1) pnpw (by
  obtain⟨u,h⟩:=E8.w
  exact⟨u,by rw[C9.same w (Jh h) (Ne.symm pww),h]⟩)
 have r99:S9.row p9=_:=(C9.same p9 (Jh r98) p9pw).trans r98
 have r59:S9.row p5=_:=(C9.same p5 (Jh r58) p5pw).trans r58
 have p12pw:p12≠pw:=fun e=>by
  have:S6.row p12= .none:=by rw[hp12];exact nx0 E6.HT.wf hn6 0
  rw[e,rpw]at this;cases this
 have r129:S9.row p12=_:=(C9.same p12 (Jh r128) p12pw).trans r128
 obtain⟨kq,ko,k1,k2,⟨kt,kl,k3,k4⟩,k5⟩:=hK k hkm
 have kqw:kq≠w:=fun e=>by
  obtain⟨u,h⟩:=(E2.gr G3).w
  rw[<-e,k3]at h
  injection h with _ h
  rw[h]at k4
  cases k4
 have kqpw:kq≠pw:=fun e=>k2 (Classical.byContradiction fun c=>by
  have:=G4.same kq c
  rw[e,pwn,<-e]at this
  exact c this.symm)
 have kS9:S9.row kq=S3.row kq:=by
  have e6:S6.row kq=S3.row kq:=C36.same kq k2 kqw
  have e8:S8.row kq=S6.row kq:=G68.same kq (by rw[e6];exact k2)
  rw[C9.same kq (by rw[e8,e6];exact k2) kqpw,e8,e6]
 have k5':ld1 (S9.row kq) ko=some (.int .i64 ((k%3:Nat):Int), .no):=by rw[kS9];exact k5
 have hjd:k%3<dM m:=by show k%3<Nat.min m 3;have:=Nat.mod_le k 3;exact Nat.lt_min.2 ⟨by omega,hj3⟩
 have hd4:dM m<4:=by have:dM m<=3:=Nat.min_le_right m 3;omega
 rw[Jk];simp only[XY,simprocAttr,f0,f5,f9,r59,r99,k1,k5']
 refine Y6 (P:=fun v _=>v= .agg [.int .i64 ((k%3:Nat):Int), .snil, .snil]) (withC hd4 hjd (Yx E9.HT.wf _)) ?_
 rintro _ S10 G10 rfl
 have E10:=E9.gr G10
 have r1210:=G10.cells r129
 have r910:=G10.cells r99
 have rpw10:=G10.cells rpw9
 simp only[XY,simprocAttr,r1210]
 obtain⟨rb',ecs',hrow⟩:=caseRow (j:=k%3) (E10.low S10.t) hce (by have:=Nat.mod_le k 3;omega) hj3
 have erb:rb'=rb:=by
  rw[ecs]at ecs'
  injection ecs' with _ h
  injection h with h _
  injection h with h
  exact h.symm
 subst erb
 refine qi (W:=fun _=>True) E10.HT.wf (hrow.mono fun v S' h=>⟨⟨h.2.2.2.1,fun _ _ h=>(h trivial).elim⟩,h⟩) ?_
 intro v S11 lo C11 hR
 obtain⟨rfl,hch,hfr,_,hw11⟩:=hR
 have hfr:∀s,S10.row s≠ .none->s≠w->s≠pn->S1.row s= .none->S11.row s=S10.row s:=hfr
 have m9:Mono S8 S10:=C9.mono.trans G10.mono
 have m11:Mono S {S11 with low:=lo}:=(m8.trans m9).trans C11.mono
 have fr11:∀s,S.row s≠ .none->s≠w->s≠pn->S1.row s= .none->S11.row s=S.row s:=fun s a b c d=>by
  have e8:=fr8 s a b c d
  have s8:S8.row s≠ .none:=by rw[e8];exact a
  have spw:s≠pw:=fun e=>by
   have:=(G2.trans (G3.trans G4)).same s a
   rw[e,pwn,<-e]at this
   exact a this.symm
  have e9:S9.row s=S.row s:=by rw[C9.same s s8 spw,e8]
  have e10:S10.row s=S.row s:=by rw[G10.same s (by rw[e9];exact a),e9]
  rw[hfr s (by rw[e10];exact a) b c d,e10]
 simp only[XY,simprocAttr]
 by_cases hcd:cdM b (k%3)=0
 rotate_left
 ·rw[if_neg hcd]at hok
  rw[Jk];simp only[XZ,simprocAttr,hcd]
  rw[hok]
  exact⟨rfl,fr11,m11,hw11⟩
 rw[if_pos hcd]at hok
 rw[Jk];simp only[XZ,simprocAttr,hcd,f0,f5,f6,f9,f10,f26,f27,f28,hadd1]
 obtain⟨xx,uu,hw11,hx⟩:=hw11
 rw[hx hcd]at hw11
 have hch:Ch (fun r=>r=w) S10 {S11 with low:=lo}:=⟨C11.mono,(hch hcd).same⟩
 refine⟨cs.length-(i+1),by omega,(hL _ _ _).2 ⟨i+1,by omega,by simp only[XZ,simprocAttr,f0],by simp only[XZ,simprocAttr,f5],by simp only[XZ,simprocAttr,f6],by simp only[XZ,simprocAttr,f9],by simp only[XZ,simprocAttr,f10],by simp only[XZ,simprocAttr,f26],by simp only[XZ,simprocAttr,f27],by simp only[XZ,simprocAttr],by rw[htake];exact hok, ?_,⟨uu,hw11⟩,⟨S8.t, ?_⟩⟩⟩
 ·refine(((C6.gr G68).trans C9 fun r h=> .inl (.inr h)).gr G10).trans hch fun r h=> .inl (.inl h)
 ·have:S11.row pw=S10.row pw:=(hch.same pw (Jh rpw10) pww)
  rw[htake]
  show S11.row pw=_
  rw[this,rpw10]
structure MN (Sp S1:St) (m b:Nat) (pv0 ev cv:V) (o:Bool) (cs:List (List V)) (ks:List Nat):Prop where
 h1:1<=m
 h6:m<=6
 hp:PvE Sp S1 (fun _=>False) (FM m) 0 pv0
 hcv:SlAt (fun _=>True) S1 cv 2 cs
 hlen:cs.length=ks.length
 hk9:ks.length<=9
 hk7:∀k∈ks,k<7
 hev:if o then∃re at_,ev= .sl re 0 1 9/\(∃t,S1.row re= .cells t (elE at_))/\Sp.row re= .none else ev= .snil
 hcase:∀i (h:i<cs.length) (h':i<ks.length),CaseE Sp S1 (FB m b) ks[i] cs[i]
theorem MN.sc {Sp S1:St}{m b:Nat}{pv0 ev cv:V}{o:Bool}{cs:List (List V)}{ks:List Nat}(h:MN Sp S1 m b pv0 ev cv o cs ks):(pv0.sc=true/\ev.sc=true/\cv.sc=true)/\lenLV pv0=some (.int .i64 1, .no):=by
 refine⟨⟨?_, ?_,h.hcv.sc⟩, ?_⟩
 ·obtain⟨χ,a,r,e,_⟩:=h.hp;rw[e];rfl
 ·have hev:=h.hev
  cases o with
  |false=>have hev:ev= .snil:=hev;rw[hev];rfl
  |true=>obtain⟨re,at_,e,_⟩:=hev;rw[e];rfl
 ·obtain⟨χ,a,r,e,_⟩:=h.hp;rw[e];rfl
abbrev mnL (pv0 ev cv:V)(o:Bool):List V:=[.int .i64 8, .int .i64 0,ofL [],ofL [],pv0, .snil,ev, .bool o,cv]
theorem scells {v:V}(h:v.sc=true):v.cells=some [v]:=by cases v<;>first|rfl|(cases h;done)
theorem oneM {Sp S1 S:St}{m b:Nat}{t x:Pt}{aT:St}{φ:Rn}{pn w:Pt}{pv0 ev cv:V}{o:Bool}{cs:List (List V)}{ks:List Nat}(E:FE Sp S1 S m t x aT φ pn w)(M:MN Sp S1 m b pv0 ev cv o cs ks):
  Does (tabT tabD) Jai [.ptr w 0, .agg [.int .i64 (dM m:Nat), .snil, .snil], .agg (mnL pv0 ev cv o), .int .i64 (dM m:Nat)] S (MatchP S1 S φ t pn w (okS m b o [] ks)):=by
 refine YK qH rfl ?_
 have hw:=E.HT.wf
 obtain⟨⟨s0,s1,s2⟩,_⟩:=M.sc
 have c0:=scells s0
 have c1:=scells s1
 have c2:=scells s2
 obtain⟨n0,hn0⟩:∃n,S.nx=up 0 n:=⟨_,up0 _⟩
 simp only[Kn,XY,simprocAttr]
 rw[Jk];simp only[XY,simprocAttr,hn0,s0,s1,s2,c0,c1,c2]
 refine Qa ?_
 intro S2 hS2
 have G2:Gr S S2:=by rw[hS2];exact(Gr.new hw (Jj _)).nn (Jj _)
 obtain⟨p5,hp5⟩:∃b,b=up 0 n0:=⟨_,rfl⟩
 obtain⟨p6,hp6⟩:∃b,b=up 1 n0:=⟨_,rfl⟩
 obtain⟨t5,r5⟩:∃t,S2.row p5= .cells t [.int .i64 (dM m:Nat), .snil, .snil]:=⟨_,by rw[hS2,hp5];simp only[XZ,simprocAttr,hn0];rfl⟩
 obtain⟨t6,r6⟩:∃t,S2.row p6= .cells t (mnL pv0 ev cv o):=⟨_,by rw[hS2,hp6];simp only[XZ,simprocAttr,hn0];rfl⟩
 rw[<-hp5,<-hp6]
 clear hS2
 have E2:=E.gr G2
 rw[Jk];simp only[XY,simprocAttr]
 refine Js (JdF E2 M.h1) ?_
 rintro _ S3 ⟨G3,nv,kv,rfl,sl1,sl2,hK,hI⟩
 obtain⟨snv,lnv⟩:=Jel sl1
 obtain⟨skv,lkv⟩:=Jel sl2
 have cnv:=scells snv
 have ckv:=scells skv
 obtain⟨n3,hn3⟩:∃n,S3.nx=up 0 n:=⟨_,up0 _⟩
 simp only[XY,simprocAttr,hn3,snv,skv,cnv,ckv]
 refine Qa ?_
 intro S4 hS4
 have w3:=G3.wf
 have G4:Gr S3 S4:=by rw[hS4];exact(Gr.refl w3).nw hn3 (Jj _) (Jj _)
 have G24:=G3.trans G4
 have r54:=G24.cells r5
 have r64:=G24.cells r6
 clear hS4
 simp only[XZ,simprocAttr,r54,r64]
 have E4:=E2.gr G24
 refine Js (matchC E4 M.h1 M.h6 s0 M.hcv M.hlen M.hk9 M.hk7 M.hev M.hcase) ?_
 intro v S5 ⟨h1,h2,h3,h4⟩
 simp only[XZ,simprocAttr]
 have old:∀{r:Pt},S.row r≠ .none->S4.row r=S.row r:=fun{r} h=>(G2.trans G24).same r h
 exact⟨h1,fun s a b c d=>by rw[h2 s (by rw[old a];exact a) b c d,old a],(G2.trans G24).mono.trans h3,h4⟩
set_option maxHeartbeats 4000000 in
theorem rowM {Sp S1 S:St}{m b:Nat}{t x:Pt}{aT:St}{φ:Rn}{pn w rm:Pt}{pv0 ev cv:V}{o:Bool}{cs:List (List V)}{ks:List Nat}(E:FE Sp S1 S m t x aT φ pn w)(M:MN Sp S1 m b pv0 ev cv o cs ks)(hrm:∃t,S1.row rm= .cells t (mnL pv0 ev cv o)):
  Does (tabT tabD) Qs [.ptr w 0, .agg [.int .i64 (dM m:Nat), .snil, .snil], .sl rm 0 1 9] S fun v S'=>v= .int .i64 (okS m b o [] ks)/\∃x u,S'.row w= .cells u [.ptr (φ t) 0, .slx pn 0 1 1 1, .snil, .int .i64 x]:=by
 refine YK qG rfl ?_
 have hw:=E.HT.wf
 obtain⟨⟨s0,s1,s2⟩,lp⟩:=M.sc
 have c0:=scells s0
 have c1:=scells s1
 have c2:=scells s2
 obtain⟨tm,hrm⟩:=hrm
 obtain⟨n0,hn0⟩:∃n,S.nx=up 0 n:=⟨_,up0 _⟩
 have l1:lenLV (.sl rm 0 1 9)=some (.int .i64 1, .no):=rfl
 simp only[Km,XY,simprocAttr]
 rw[Jk];simp only[XY,simprocAttr,hn0]
 refine Qa ?_
 intro S2 hS2
 have G2:Gr S S2:=by rw[hS2];exact Gr.new hw (Jj _)
 obtain⟨p4,hp4⟩:∃b,b=up 0 n0:=⟨_,rfl⟩
 obtain⟨t4,r4⟩:∃t,S2.row p4= .cells t [.int .i64 (dM m:Nat), .snil, .snil]:=⟨_,by rw[hS2,hp4];simp only[XZ,simprocAttr,hn0];rfl⟩
 have p4n:S.row p4= .none:=by rw[hp4];exact nx0 hw hn0 0
 rw[<-hp4]
 clear hS2
 have E2:=E.gr G2
 rw[Ju,Jk];simp only[XY,simprocAttr,l1]
 obtain⟨L,hL⟩:∃L:Nat->Fr->St->Prop,∀j fr S',L j fr S'<->(fr 13= .int .i64 1)/\((j=1/\S'=S2/\fr 0= .ptr w 0/\fr 4= .ptr p4 0/\fr 12= .sl rm 0 1 9/\fr 14= .int .i64 0)\/(j=0/\okS m b o [] ks=0/\fr 14= .int .i64 1/\∃x u,S'.row w= .cells u [.ptr (φ t) 0, .slx pn 0 1 1 1, .snil, .int .i64 x])):=⟨_,fun _ _ _=>Iff.rfl⟩
 refine jh L 1 (by omega) ((hL _ _ _).2 ⟨by simp only[XZ,simprocAttr], .inl ⟨rfl,rfl,by simp only[XZ,simprocAttr],by simp only[XZ,simprocAttr],by simp only[XZ,simprocAttr],by simp only[XZ,simprocAttr]⟩⟩) ?_
 intro j fr S3 hLj
 obtain⟨f13,hLj⟩:=(hL _ _ _).1 hLj
 rcases hLj with⟨rfl,rfl,f0,f4,f12,f14⟩|⟨rfl,hok,f14,hwr⟩
 rotate_left
 ·have hi':¬(1:Int)<1:=by omega
  rw[Jk];simp only[XY,simprocAttr,f13,f14,hi']
  rw[Ju];simp only[XZ,simprocAttr]
  exact⟨by rw[hok],hwr⟩
 have hi':(0:Int)<1:=by omega
 have im:iaddrSV 9 (.sl rm 0 1 9) (.int .i64 0)=some (.ptr rm 0, .no):=rfl
 have rmS:S3.row rm= .cells tm (mnL pv0 ev cv o):=by rw[E2.fz.same rm (Jh hrm),hrm]
 obtain⟨n2,hn2⟩:∃n,S3.nx=up 0 n:=⟨_,up0 _⟩
 rw[Jk];simp only[XY,simprocAttr,f13,f14,hi']
 rw[Ju];simp only[XY,simprocAttr]
 rw[Ju];simp only[XY,simprocAttr]
 rw[Jk];simp only[XY,simprocAttr,f12,f14,im,rmS,hn2,s0,s1,s2,c0,c1,c2]
 refine Qa ?_
 intro S4 hS4
 have w2:=E2.HT.wf
 have G4:Gr S3 S4:=by rw[hS4];exact(Gr.refl w2).nw hn2 (Jj _) (Jj _)
 obtain⟨p8,hp8⟩:∃b,b=up 0 n2:=⟨_,rfl⟩
 obtain⟨t8,r8⟩:∃t,S4.row p8= .cells t (mnL pv0 ev cv o):=⟨_,by rw[hS4,hp8];simp only[XZ,simprocAttr,hn2];rfl⟩
 have p8n:S3.row p8= .none:=by rw[hp8];exact nx0 w2 hn2 0
 rw[<-hp8]
 clear hS4
 have E4:=E2.gr G4
 have r44:=G4.cells r4
 obtain⟨u4,hw4⟩:=E4.w
 rw[Jk];simp only[XY,simprocAttr]
 rw[Ju,Jk];simp only[XY,simprocAttr,r8,lp,f0,f4,hw4,r44]
 refine Y6 (P:=fun v _=>v= .tup [.int .i64 (dM m:Nat), .int .i64 0]) (JmW E4.X (E4.HT.low _) (E4.fz.low _) E4.tp M.hp) ?_
 rintro _ S5 G5 rfl
 have E5:=E4.gr G5
 have r85:=G5.cells r8
 have r45:=G5.cells r44
 have hw5:=G5.cells hw4
 simp only[XY,simprocAttr]
 rw[Jk];simp only[XY,simprocAttr,f0,hw5]
 rw[Jk];simp only[XY,simprocAttr,f0,hw5]
 refine Qa ?_
 intro S6 hS6
 have C6:Ch (fun r=>r=w) S5 S6:=by rw[hS6];exact(Ch.refl (fun r=>r=w) E5.HT.wf).wr (Jh hw5) (by rw[hw5];rfl) (.inl rfl) (Jj _)
 have hw6:∃u,S6.row w= .cells u [.ptr (φ t) 0, .slx pn 0 1 1 1, .snil, .int .i64 (-1)]:=⟨_,by rw[hS6,JF,if_pos rfl]⟩
 clear hS6
 have E6:FE Sp S1 S6 m t x aT φ pn w:=E5.ch C6 (fun r h=>by rw[h];exact E.w1) E.pw hw6
 have p4w:p4≠w:=fun e=>by
  obtain⟨u,h⟩:=E.w
  rw[<-e,p4n]at h;cases h
 have p8w:p8≠w:=fun e=>by
  obtain⟨u,h⟩:=E2.w
  rw[<-e,p8n]at h;cases h
 have r86:S6.row p8=_:=(C6.same p8 (Jh r85) p8w).trans r85
 have r46:S6.row p4=_:=(C6.same p4 (Jh r45) p4w).trans r45
 rw[Ju,Jk];simp only[XY,simprocAttr,f0,f4,r46,r86]
 refine Js (oneM E6 M) ?_
 rintro v S7 ⟨rfl,h2,h3,xx,uu,hw7,hx⟩
 have pS1:∀{r:Pt},S3.row r= .none->S1.row r= .none:=fun{r} h=>Classical.byContradiction fun c=>by
  have:=E2.fz.same r c
  rw[h]at this
  exact c this.symm
 have ppn:∀{r:Pt},S3.row r= .none->r≠pn:=fun{r} h e=>E2.pnl (by rw[<-e];exact h)
 have r87:S7.row p8= .cells t8 (mnL pv0 ev cv o):=(h2 p8 (Jh r86) p8w (ppn p8n) (pS1 p8n)).trans r86
 simp only[XY,simprocAttr]
 obtain⟨z,hz⟩:∃z,z=okS m b o [] ks:=⟨_,rfl⟩
 rw[<-hz]at hx⊢
 by_cases hz0:z=0
 rotate_left
 ·by_cases hlt:xx<0
  ·rw[Ju,Jk];simp only[XY,simprocAttr,hz0]
   rw[Ju,Jk];simp only[XY,simprocAttr,f0,hw7,hlt,r87]
   rw[Jk];simp only[XZ,simprocAttr]
   exact⟨_,_,rfl⟩
  ·rw[Ju,Jk];simp only[XY,simprocAttr,hz0]
   rw[Ju,Jk];simp only[XY,simprocAttr,f0,hw7,hlt,r87]
   rw[Jk];simp only[XZ,simprocAttr]
   exact⟨_,_,hw7⟩
 have hadd1:IntKind.i64.wrap ((0:Int)+1)=1:=by rw[Q0 (by omega) (by omega)];rfl
 rw[Ju,Jk];simp only[XY,simprocAttr,hz0]
 rw[Jk];simp only[XY,simprocAttr,f0,hw7]
 have r88:(S7.wr w uu fun u=>Row.cells u [.ptr (φ t) 0, .slx pn 0 1 1 1, .snil, .int .i64 (-1)]).row p8= .cells t8 (mnL pv0 ev cv o):=by rw[JF,if_neg p8w,r87]
 rw[Jk];simp only[XZ,simprocAttr,p8w,r87,f13,f14,hadd1]
 refine⟨0,by omega,(hL _ _ _).2 ⟨by simp only[XZ,simprocAttr,f13], .inr ⟨rfl,by rw[<-hz,hz0],by simp only[XZ,simprocAttr],_,_,by rw[JF,if_pos rfl]⟩⟩⟩
theorem bodyM {Sp S1 S:St}{m b:Nat}{t x:Pt}{aT:St}{φ:Rn}{pn rm:Pt}{pv0 ev cv:V}{o:Bool}{cs:List (List V)}{ks:List Nat}(X:TabX m t x aT)(HT:Hold φ aT S)(fz:Fz S1 S)(sp:∀r,Sp.row r≠ .none->S1.row r≠ .none)(tp:∀p:Pt,p.num<aT.nx.num->Sp.row (φ p)≠ .none)(pn1:S1.row pn= .none)(pnl:S.row pn≠ .none)(M:MN Sp S1 m b pv0 ev cv o cs ks)(hrm:∃t,S1.row rm= .cells t (mnL pv0 ev cv o)):
  Does (tabT tabD) Jgu [.ptr (φ t) 0, .slx pn 0 1 1 1, .int .i64 (dM m:Nat), .sl rm 0 1 9] S fun v S'=>∃c a,v= .tup [c, .int .i64 a, .int .i64 (okS m b o [] ks)]:=by
 refine YK Jeo rfl ?_
 have hw:=HT.wf
 obtain⟨n0,hn0⟩:∃n,S.nx=up 0 n:=⟨_,up0 _⟩
 simp only[Q2,XY,simprocAttr]
 rw[Jk];simp only[XY,simprocAttr]
 rw[Jk];simp only[XY,simprocAttr,hn0]
 refine Qa ?_
 intro S2 hS2
 have G2:Gr S S2:=by rw[hS2];exact Gr.new hw (Jj _)
 obtain⟨w,hpw⟩:∃b,b=up 0 n0:=⟨_,rfl⟩
 obtain⟨t1,r1⟩:∃t',S2.row w= .cells t' [.ptr (φ t) 0, .slx pn 0 1 1 1, .snil, .int .i64 (-1)]:=⟨_,by rw[hS2,hpw];simp only[XZ,simprocAttr,hn0];rfl⟩
 have wn:S.row w= .none:=by rw[hpw];exact nx0 hw hn0 0
 rw[<-hpw]
 clear hS2
 have E:FE Sp S1 S2 m t x aT φ pn w:=⟨X,HT.gr G2,fz.more G2,sp,tp,pn1,by rw[G2.same _ pnl];exact pnl,Classical.byContradiction fun c=>(by rw[fz.same w c];exact c:S.row w≠ .none) wn,fun e=>pnl (by rw[e];exact wn),⟨t1,r1⟩⟩
 rw[Ju,Jk];simp only[XY,simprocAttr]
 refine Js (rowM E M hrm) ?_
 rintro _ S3 ⟨rfl,xx,uu,hw3⟩
 obtain⟨z,hz⟩:∃z,z=okS m b o [] ks:=⟨_,rfl⟩
 rw[<-hz]
 by_cases hz0:z=0
 ·simp only[XZ,simprocAttr,hz0,hw3]
  exact⟨_,_,rfl⟩
 ·simp only[XZ,simprocAttr,hz0,hw3]
  exact⟨_,_,rfl⟩
theorem Jm5 {f:Nat}{args:List V}{S:St}{P:V->St->Prop}(hw:WF S)(h:Does (tabT tabD) f args S P):Does (tabT tabD) f args S fun v S'=>Ch (fun _=>True) S S'/\P v S':=by
 obtain⟨v,S',hP,n,hr⟩:=h
 exact⟨v,S',⟨⟨(tabM n _ _ _ _ _ (hr n (Nat.le_refl _)) hw).mono,fun _ _ h=>(h trivial).elim⟩,hP⟩,n,hr⟩
theorem mainC {m:Nat}{t x:Pt}{aT S:St}{φ:Rn}(X:TabX m t x aT)(HT:Hold φ aT S):Does (tabT tabD) kI [.ptr (φ t) 0] S fun v S'=>Gr S S'/\v= .int .i64 (dM m:Nat):=by
 have hA:=X.all
 unfold allQ at hA
 simp only[Bool.and_eq_true]at hA
 obtain⟨_,⟨_,hM⟩,_⟩:=hA
 unfold mainQ at hM
 split at hM
 rotate_left
 ·cases hM
 rename_i y a1 hrun
 rw[Bool.and_eq_true,Bool.and_eq_true]at hM
 obtain⟨k1,k2,k3⟩:=hM
 have htt:=X.tt
 have:=HT.go tabE tabM tabU (args:=[.ptr t 0]) (by simp only[inVs,inV,decide_eq_true htt];rfl) hrun (Nat.le_of_ble_eq_true k2) k3
 simp only[List.map_cons,List.map_nil,mv]at this
 exact this.mono fun v S' ⟨gg,ψ,_,ev,_⟩=>⟨gg,by rw[ev,of_decide_eq_true k1]⟩
theorem JoZ {k:Nat}(h:k<7):actB (ofL (mcS k)) (ofL [99,97,115,101]) 2 (ofL (tagS k)) pfNil=true:=by
 rcases(by omega:k=0\/k=1\/k=2\/k=3\/k=4\/k=5\/k=6)with rfl|rfl|rfl|rfl|rfl|rfl|rfl<;>kernel_rfl
set_option maxHeartbeats 4000000 in
theorem textM {m b:Nat}{o:Bool}{ks:List Nat}{S:St}{φS:Rn}(h1:1<=m)(h6:m<=6)(hb:b<3)(hk9:ks.length<=9)(hk7:∀k∈ks,k<7)(HS:Hold φS (aS m) S):
  Does (tabT tabD) Jag [.agg [.int .i64 8,ofL [], .sl (φS .h) 0 m 1, .sl (φS (.a .h)) 0 m 4, .snil, .snil],ofL (mkAll b ks o)] S fun v S'=>v= .int .i64 (okS m b o [] ks):=by
 refine YK qD rfl ?_
 obtain⟨t,x,aT,X⟩:=tabX h1 h6
 have hw:=HS.wf
 obtain⟨n0,hn0⟩:∃n,S.nx=up 0 n:=⟨_,up0 _⟩
 simp only[Ko,XY,simprocAttr]
 rw[Jk];simp only[XY,simprocAttr,hn0]
 refine Qa ?_
 intro S2 hS2
 have G2:Gr S S2:=by rw[hS2];exact Gr.new hw (Jj _)
 obtain⟨p2,hp2⟩:∃b,b=up 0 n0:=⟨_,rfl⟩
 obtain⟨t2,r2⟩:∃t,S2.row p2= .cells t [.int .i64 8,ofL [], .sl (φS .h) 0 m 1, .sl (φS (.a .h)) 0 m 4, .snil, .snil]:=⟨_,by rw[hS2,hp2];simp only[XZ,simprocAttr,hn0];rfl⟩
 rw[<-hp2]
 clear hS2
 have hT2:=(HS.gr G2).go tabE tabM tabU (args:=[schV m]) rfl X.run X.low X.inn
 simp only[List.map_cons,List.map_nil,schV,mv,mvs,show mv φS (ofL [])=ofL []from JB φS _ rfl]at hT2
 rw[Jk];simp only[XY,simprocAttr,r2]
 refine Js hT2 ?_
 rintro v S3 ⟨G3,ψ,ag,hv,HT,_⟩
 have e0:ψ .h=φS .h:=ag.f .h (by show 0<2;omega)
 have e1:ψ (.a .h)=φS (.a .h):=ag.f (.a .h) (by show 1<2;omega)
 simp only[mv,mvs,e0,e1,show mv ψ (ofL [])=ofL []from JB ψ _ rfl]at hv
 subst hv
 obtain⟨n3,hn3⟩:∃n,S3.nx=up 0 n:=⟨_,up0 _⟩
 simp only[XY,simprocAttr,hn3]
 refine Qa ?_
 intro S4 hS4
 have G4:Gr S3 S4:=by rw[hS4];exact(Gr.refl G3.wf).nw hn3 (Jj _) (Jj _)
 clear hS4
 have HT4:=HT.gr G4
 have tp:∀p:Pt,p.num<aT.nx.num->S4.row (ψ p)≠ .none:=fun p hp=>Yw (HT4.row p hp) (kn X.full p hp)
 rw[Jk];simp only[XY,simprocAttr]
 refine Js (parseM (o:=o) G4.wf (tp t X.tt) hk9 hk7 (fun k hk=>JoZ (hk7 k hk)) (JsO h1 h6) (JsP h1 h6 hb)) ?_
 rintro _ S5 ⟨G5,r,rm,rfl,rn,⟨tr,rr⟩,hM⟩
 simp only[XY,simprocAttr]
 obtain⟨pv0,ev,cv,cs,hrm,hrmn,hp,hev,hcv,hlen,hcase⟩:=hM.ex
 have M:MN S4 S5 m b pv0 ev cv o cs ks:=⟨h1,h6,hp,hcv,hlen,hk9,hk7,hev,hcase⟩
 have hpe:∀r:Pt,eqV (EK.one KD.p) false (.ptr r 0) .pnil=some (.bool false, .no):=fun _=>rfl
 rw[Ju,Jk];simp only[XY,simprocAttr,hpe]
 obtain⟨n5,hn5⟩:∃n,S5.nx=up 0 n:=⟨_,up0 _⟩
 have w5:=G5.wf
 rw[Jk];simp only[XY,simprocAttr,hn5]
 obtain⟨S6,hS6⟩:∃S6,S6=S5.new fun t=>Row.cells t [ofL [116]]:=⟨_,rfl⟩
 have G6:Gr S5 S6:=by rw[hS6];exact Gr.new w5 (Jj _)
 obtain⟨pn,hpn⟩:∃b,b=up 0 n5:=⟨_,rfl⟩
 have pn5:S5.row pn= .none:=by rw[hpn];exact nx0 w5 hn5 0
 have pn6:S6.row pn≠ .none:=by rw[hS6,hpn,<-hn5,Ki,if_pos rfl];exact fun e=>by cases e
 rw[<-hS6,<-hpn]
 clear hS6
 have HT6:=(HT4.gr G5).gr G6
 refine Y6 (P:=fun v _=>v= .int .i64 (dM m:Nat)) (mainC X (HT6.low _)) ?_
 rintro _ S7 G7 rfl
 have rr7:=G7.cells (G6.cells rr)
 have ir:iaddrSV 2 (.slx r 0 1 2 1) (.int .i64 0)=some (.ptr r 0, .no):=rfl
 simp only[XY,simprocAttr,ir,rr7]
 have hB:=bodyM (pn:=pn) X ((HT6.gr G7).low S7.t) (Fz.low (Fz.ofGr (G6.trans G7)) S7.t) (fun r e=>by rw[G5.same r e];exact e) tp pn5 (by show S7.row pn≠ .none;rw[G7.same pn pn6];exact pn6) M hrm
 refine qi (W:=fun _=>True) G7.wf (Jm5 (Yx G7.wf _) hB) ?_
 rintro v S8 lo C8 ⟨c,a,rfl⟩
 simp only[XZ,simprocAttr]
def kOf (z:Int):Nat:=(z%7).toNat
theorem Jm6 (z:Int):kOf z<7:=by unfold kOf;omega
theorem Jo0 (z:Int):((kOf z:Nat):Int)=z%7:=by unfold kOf;omega
def ksOf (zs:List Int)(i:Nat):List Nat:=(zs.take i).map kOf
theorem Jo1 {zs:List Int}{i:Nat}:∀k∈ksOf zs i,k<7:=fun k hk=>by
 obtain⟨z,_,rfl⟩:=List.mem_map.1 hk
 exact Jm6 z
theorem Jkf {zs:List Int}{i:Nat}(h:i<zs.length):ksOf zs (i+1)=ksOf zs i++[kOf zs[i]]:=by
 unfold ksOf
 rw[List.take_add_one,List.getElem?_eq_getElem h,List.map_append]
 rfl
theorem Jb9 (zs:List Int)(i:Nat):(ksOf zs i).length=min i zs.length:=by simp[ksOf]
theorem Jhx :pureB (tabT tabD) qC [] (.bool true)=true:=by kernel_rfl
theorem j6 (a n:Int)(st:St)(h0:0<n)(h1:n<4611686018427387904):Does (tabT tabD) Y4 [.int .i64 a, .int .i64 n] st fun v st'=>v= .int .i64 (a%n)/\st=st':=by
 refine YK jJ rfl ?_
 have hn:n≠0:=by omega
 have e1:=Int.emod_nonneg a hn
 have e2:=Int.emod_lt_of_pos a h0
 rcases tmodC a h0 with⟨h3,h4⟩|⟨h3,h4⟩
 ·simp only[JQ,XZ,simprocAttr,hn,h3]
  rw[h4]
 ·have hw:IntKind.i64.wrap (a.tmod n+n)=a%n:=by rw[h4,Q0 (by omega) (by omega)]
  simp only[JQ,XZ,simprocAttr,hn,h3,hw]
theorem Jr7 {st:St}{P:Pt->Prop}{vx:V}{z n t:Nat}{e l:List V}{r:Pt}(hx:SlAt P st vx z [e])(hok:okC [e])(hr:st.row r= .cells t l)(hl:l.length=n*z)(hn:n<1000):appV st z (.sl r 0 n z) vx=some (.sl st.nx 0 (n+1) z, .dn r t fun u=> .cells u (l++e)):=by
 have ha:Jw st z 1 vx=some e:=by have:=hx.all;simpa using this
 have hs:slen vx=some 1:=hx.slen
 have hf:allSc e=true:=by have:=hok.flat;simpa using this
 unfold appV
 rw[hs]
 simp only[ha]
 rw[if_pos ⟨by omega,hf⟩]
 unfold Kh
 rw[if_neg (by omega)]
 simp only[hr]
 rw[if_neg (by omega),if_pos (by omega)]
 have:(l.drop 0).take (n*z)=l:=by rw[List.drop_zero,<-hl,List.take_length]
 rw[this]
def cntL :List Bool->Nat
 |[]=>0
 |true::r=>cntL r+1
 |false::r=>cntL r
theorem Jhy :∀l:List Bool,cntL l<=l.length
 |[]=>Nat.le_refl _
 |true::r=>by have:=Jhy r;simp only[cntL,List.length_cons];omega
 |false::r=>by have:=Jhy r;simp only[cntL,List.length_cons];omega
theorem Jjh :∀l:List Bool,l.any not=true<->cntL l<l.length
 |[]=>by simp[cntL]
 |true::r=>by simp only[List.any_cons,cntL,List.length_cons,Bool.not_true,Bool.false_or,Jjh r];omega
 |false::r=>by have:=Jhy r;simp only[List.any_cons,cntL,List.length_cons,Bool.not_false,Bool.true_or];simp;omega
theorem Jen :∀(l:List Bool) (k:Nat),l[k]? =some false->cntL (l.set k true)=cntL l+1
 |[],k,h=>by simp at h
 |b::r,0,h=>by simp at h;subst h;rfl
 |true::r,k+1,h=>by simp only[List.set_cons_succ,cntL];rw[Jen r k (by simpa using h)]
 |false::r,k+1,h=>by simp only[List.set_cons_succ,cntL];rw[Jen r k (by simpa using h)]
theorem JdG :∀n:Nat,cntL (List.replicate n false)=0
 |0=>rfl
 |n+1=>by rw[List.replicate_succ,cntL,JdG n]
theorem Jo2 {m k:Nat}(acc:List Nat)(hk:k<m):wasR m (acc++[k])=(wasR m acc).set k true:=by
 apply List.ext_getElem
 ·rw[List.length_set,Yl,Yl]
 ·intro i h1 h2
  rw[List.getElem_set]
  by_cases c:k=i
  ·subst c;simp[wasR]
  ·rw[if_neg c];simp[wasR,Ne.symm c]
theorem Jo3 {m:Nat}{acc:List Nat}(h:cntL (wasR m acc)=acc.length):(wasR m acc).any not=true<->acc.length<m:=by
 rw[Jjh,h,Yl]
theorem Jm7 {m k:Nat}{acc:List Nat}(h:cntL (wasR m acc)=acc.length)(hk:k<m)(hin:k∉acc):cntL (wasR m (acc++[k]))=(acc++[k]).length:=by
 rw[Jo2 acc hk,Jen,h,List.length_append]
 ·rfl
 ·simp[wasR,hk,hin]
theorem Jo4 (m:Nat):cntL (wasR m [])=0:=by
 have:wasR m []=List.replicate m false:=by
  apply List.ext_getElem
  ·simp[wasR]
  ·intro i h1 h2;simp[wasR]
 rw[this,JdG]
theorem Jm8 (k:Nat):nmsM (k+1)=nmsM k++[ofL (tagS k)]:=by simp[nmsM,List.range_succ]
theorem Jgr (k:Nat):kdsM (k+1)=kdsM k++kdM k:=by simp[kdsM,List.range_succ]
theorem Jo5 (k:Nat):(nmsM k).length=k:=by simp[nmsM]
theorem Jo6 (k:Nat):(kdsM k).length=k*4:=by
 induction k with
 |zero=>rfl
 |succ k ih=>rw[Jgr,List.length_append,ih];simp[kdM];omega
theorem Jr8 (b k:Nat)(hb:b<3):cdM b (k%3)=if(b=1/\1+k%3≠3)\/(b=2/\1+k%3≠2)then 17 else 0:=by
 unfold cdM
 by_cases h:(b=1/\k%3≠2)\/(b=2/\k%3≠1)
 ·rw[if_pos h,if_pos (by omega)]
 ·rw[if_neg h,if_neg (by omega)]
end Go.Proofs.YtcgiahehkobpcaaGreat
