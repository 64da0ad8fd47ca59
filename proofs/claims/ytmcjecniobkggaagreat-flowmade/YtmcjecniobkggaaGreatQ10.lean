/- The Maker: rows. The table of a schema of no functions: its rows are new. 'FlowMade': t -/
import Derived.Test.YtmcjecniobkggaaGreatQ9
set_option linter.constructorNameAsVariable false
set_option maxHeartbeats 64000000
set_option linter.unusedVariables false
set_option linter.unusedSimpArgs false
set_option linter.unusedSectionVars false
set_option maxRecDepth 100000
namespace Go.Proofs.YtmcjecniobkggaaGreat
open Eva Go.RowKit
variable {s v:Pt->Prop}{e:List V}{n:St}{t:Sch}{k:Pt}{z:Nat}{b:Tb}
theorem nmAA {T:Table}{c:C}{v:Fr}{Q:Out->Prop}{d p q:List V}(j:WF n)(i:n.b=up 0 k)(h:∀S',Gr n S'->n.A (up 0 k)= .none->n.A (up 1 k)= .none->(∃t,S'.A (up 0 k)= .a t p)->(∃t,S'.A (up 1 k)= .a t q)->wC T z c v S' Q):wC T z c v ((((n.B fun t=> .a t e).B fun t=> .a t d).D (up 0 k) n.t fun u=> .a u p).D (up 1 k) (n.B fun t=> .a t e).t fun u=> .a u q) Q:=by
 have r:=Gr.G j (Jd e);have x:(n.B fun t=> .a t e).A (up 0 k)= .a n.t e:=Ye i _;have s:(n.B fun t=> .a t e).b=up 1 k:=by
  show up 1 n.b=_;rw[i];rfl
 have w:=Gr.G r.D (Jd d);have K:((n.B fun t=> .a t e).B fun t=> .a t d).A (up 1 k)= .a (n.B fun t=> .a t e).t d:=Ye s _;have l:=w.A x;have m:up 0 k≠up 1 k:=fun g=>by
  have:=J9 r.D
  grind
 have L:=(r.B w).J (f:=fun u=> .a u p) (t:=n.t) (nx0 j i 0) (Jb l) (by rw[l];rfl) (Jd _);have o:(((n.B fun t=> .a t e).B fun t=> .a t d).D (up 0 k) n.t fun u=> .a u p).A (up 1 k)= .a (n.B fun t=> .a t e).t d:=by rw[Ji _ _ _ (Ne.symm m)];exact K
 have M:=L.J (f:=fun u=> .a u q) (t:=(n.B fun t=> .a t e).t) (nx0 j i 1) (Jb o) (by rw[o];rfl) (Jd _);exact h _ M (nx0 j i 0) (nx0 j i 1) ⟨_,by rw[Ji _ _ _ m];exact Jk _ _ _ _⟩ ⟨_,Jk _ _ _ _⟩
def NodX (d:Nat)(P:Pt->Prop)(S:St)(e:List V)(n:Nod):Prop:=NodC P S 3 d e n/\fitN (fitP 3) d n/\docN 3 d n
theorem NodX.A {d:Nat}{P Q:Pt->Prop}{S S':St}{e:List V}{n:Nod}(h:NodX d P S e n)(k:∀r,P r->S.A r≠ .none->Q r/\S'.A r=S.A r):NodX d Q S' e n:=⟨h.1.A k,h.2⟩
theorem Jpz {rm:Pt}(hd:z<1000)(H:∀d',z=d'+1->Jda s v k rm t b d'):Jda s v k rm t b z:=by
 intro S P ee E rv rs hM hE hK hR;have hw:=hM.d.wf;refine Jn tabM (aT Tryz.func7 rfl) rfl hw fun K aq=> ?_;have ae:=hE;obtain⟨vv,a9,rfl,h1,h2,e1,e2⟩:=Ki hE;obtain⟨es,w1,w2,w3,w4⟩:=hR;have W:=w1.G;rw[w2]at W;obtain⟨n0,af⟩:=nxE S;simp only[CT,Tryz.f7,XY,simprocAttr];rw[Ja];simp[XY,af,e1.1,e2.1];generalize ar:up 0 n0=M;refine nm1 hw af ar ?_;intro S1 G1 ba ⟨t5,r5⟩;rw[Ja];simp[XY];have aa:∀{S':St},Ch (fun r=>r=M) S1 S'->∀r,S.A r≠ .none->S'.A r=S.A r:=fun{S'} h r a=>by
  rw[h.d r (by rw[G1.d r a];exact a) fun e=>a (by grind),G1.d r a]
 obtain⟨Q,hQ⟩:∃Q:Pt->Prop,∀r,Q r<->(P r\/S.A r= .none)/\r≠M:=⟨fun r=>(P r\/S.A r= .none)/\r≠M,fun r=>Iff.rfl⟩
 rw[Je,Ja];simp[XY];obtain⟨L,hL⟩:=loE fun j fr S'=>∃(i:Nat) (c:V) (l:List Nod) (ee:List V) (E:EnvS) (f:Nat),j+i=7/\Ch (fun r=>r=M) S1 S'/\fr 0= .e rm 0/\fr 2=rv/\fr 3= .d .i64 (z:Nat)/\fr 5= .e M 0/\fr 9=c/\fr 10= .d .i64 (i:Nat)/\S'.A M= .a f ee/\EnvC (fun r=>Q r/\rowOf c≠some r) S' ee E/\MEnv b z E/\AccO (NodX (z+1)) Q S' c 9 l/\(∀r,rowOf c=some r->S1.A r= .none)/\sizL (z+1) l<=4^z*KM (rs.take i)/\l.length<=i/\i<=6;refine JC L 7 (by omega) ((hL _ _ _).2 ⟨0, .g,[],_,E,t5,by omega,Ch.G _ G1.D,rfl,rfl,rfl,rfl,rfl,by rfl,r5,ae.A fun r a m=>⟨⟨(hQ r).2 ⟨.inl a,fun e=>m (by grind)⟩,fun e=>by cases e⟩,G1.d r m⟩,hK,AccO.D,(fun r e=>by cases e),by simp[sizL],XC _,by omega⟩) ?_;have r50:=r5;clear h1 h2 e1 e2 ae r5;intro j fr S2 au;obtain⟨i,c,l,ee,E,f,hj,X,f0,f2,f3,f5,f9,N,r5,hE,hK,O,hv,av,bb,bc⟩:=(hL _ _ _).1 au;have done:K c S2:=by
  obtain⟨aw,k1,k2,k3⟩:=O;have hl:∀n∈l,fitN (fitP 3) (z+1) n/\docN 3 (z+1) n:=fun n hn=>by
   obtain⟨q,hq,rfl⟩:=X1 hn;exact(k3 q (by omega) hq).2
  refine aq _ _ (aa X) fun _=>⟨l,⟨aw,k1.D.D fun r a m=>⟨.inr (G1.I (hv r a)),rfl⟩,k2,fun q a m=>(k3 q a m).1.A fun r a m=>⟨((hQ r).1 a.1).1,rfl⟩⟩,⟨by omega,fun n hn=>(hl n hn).1⟩,fun n hn=>(hl n hn).2,X0 av (Nat.mul_le_mul_left _ (JfR _ _))⟩
 by_cases hi:i<rs.length;rotate_left
 ·simp[XZ,f2,f9,N,W,hi];omega
 by_cases h6:(i:Int)<6;rotate_left
 ·simp[XZ,f2,f9,N,W,hi,h6];omega
 rw[Je,Ja];simp[XY,f2,N,W,hi,h6];rw[Je];simp[XY];have ab:IntKind.i64.wrap ((i:Int)+1)=((i+1:Nat):Int):=by rw[JV (by omega) (by omega)];omega
 obtain⟨rq,qq,a1,_,a3,a4,_⟩:=w1.I (i:=i) (by omega);have ax:ldn (S2.A rq) qq 6=some (.j es[i], .a):=by grind
 obtain⟨dv,bd,rfl,q1,q2,e1,e2⟩:=Ki hE;rw[Ja];simp[XZ,f0,f2,f3,f5,N,r5,a1,ax];have vS:∀r,rowOf c=some r->S2.A r≠ .none:=by
  obtain⟨es,q1,_⟩:=O;exact fun r e=>q1.A e
 have nQ:∀r,S2.A r= .none->Q r/\rowOf c≠some r:=fun r a=>⟨(hQ r).2 ⟨.inr (G1.I (X.B a)),fun e=>Jb r5 (by grind)⟩,fun e=>vS r e a⟩
 have hx:R10C (fun _=>True) S2 es[i] rs[i]:=(w4 i (by omega) hi).A fun r a m=>⟨a,aa X r m⟩
 have M2:=hM.A X.D (aa X);have Y:∀{S':St},∀r,((Q r/\rowOf c≠some r)\/S2.A r= .none)->S'.A r≠ .none->(Q r/\rowOf c≠some r)/\S'.A r=S'.A r:=fun{S'} r a _=>⟨a.elim (fun a=>a) (nQ r),rfl⟩
 refine QD (P:=fun w S'=>∃e u E2,w= .p [.j e, .j u]/\NodR (fun r=>Q r/\rowOf c≠some r) S' (z+1) (4^z*sz10 rs[i]) e/\EnvC (fun r=>Q r/\rowOf c≠some r) S' u E2/\MEnv b z E2) (fun n w=>(Juf H (M2.D n) (hx.A kR) (hE.A kR) hK).A fun v' S' h=> ?_) X.D (fun v' S' n h=> ?_) ?_
 ·obtain⟨g,e,u,E2,rfl,q1,q2,q3⟩:=h;exact⟨g,e,u,E2,rfl,q1.A Y,q2.A Y,q3⟩
 ·obtain⟨e,u,E2,rfl,q1,q2,q3⟩:=h;exact⟨e,u,E2,rfl,q1.A kR,q2.A kR,q3⟩
 rintro _ S3 G3 ⟨e,u,E2,rfl,ag,ah,ay⟩;obtain⟨nk,na,nt,nn,be,bf,bg,bh,az,rfl,b1,b2,b3,b4⟩:=JcB ag;have ai:=ah;obtain⟨bi,bj,rfl,bk,bl,aj,ak⟩:=Ki ah;obtain⟨n3,al⟩:=nxE S3;simp[XY,b1,b2,b3,b4,aj.1,ak.1,al];refine nmAA G3.D al ?_;intro S4 G4 a8 am ⟨t11,r11⟩ ⟨t12,r12⟩;have y:=G3.B G4;obtain⟨n4,ao⟩:=nxE S4;rw[Ja];simp[XY,f9,r11,b1,b2,b3,b4,ao];obtain⟨n,a0,a2,ap,bm⟩:=ag;have az:∀r,S1.A r≠ .none->rowOf c≠some r:=fun r a e=>a (hv r e);refine JmR (C:=NodX (z+1)) (fun h o=>h.A o) G4.D ao (O.A (fun h o=>h.A o) fun r _ m=>y.d r m) (x:=n) ⟨a0.A G4.H,a2,ap⟩ rfl (by simp only[KN,QB,b1,b2,b3,b4,Bool.and_self];rfl) (by omega) ?_;intro S5 v5 C5 ad a5;have r125:=(C5.d (up 1 n3) (Jb r12) fun e=>vS _ e (G3.I am)).trans r12;have n5:rowOf c≠some M:=fun e=>Jb r50 (hv M e);have r55:=(C5.d M (Jb (y.A r5)) n5).trans (y.A r5);simp[XY];simp[XZ,f5,N,r125,r55,aj.1,ak.1,ab];refine nmWK (K:=fun T=>∃j',j'<j/\L j' _ T) C5.D r55 ?_;intro S6 C6 ⟨t6,r56⟩;have a6:=((X.I y).A C5 fun r w=> .inr (hv r w)).A C6 fun r w=> .inl w;have Q5:∀r,Q r->r≠M:=fun r a=>((hQ r).1 a).2;have a7:∀r,rowOf v5=some r->r≠M:=fun r e x=>Jb (y.A r5) (by grind);refine⟨7-(i+1),by omega,(hL _ _ _).2 ⟨i+1,v5,l++[n],_,E2,t6,by omega,a6,f0,f2,f3,f5,rfl,rfl,r56,ai.A fun r a m=> ?_,ay,ad.A (fun h o=>h.A o) (fun r a m=>C6.d r m (a.elim (Q5 r) (a7 r))),(fun r e=>(X.I y).B (a5 r e)), ?_,by grind,by omega⟩⟩
 ·have b4:=G4.d r m;have b5:=C5.d r (by grind) a.2;exact⟨⟨a.1,fun e=>m (by grind)⟩,by rw[C6.d r (by grind) (Q5 r a.1),b5,b4]⟩
 ·rw[Jad hi,GN];have:sizL (z+1) (l++[n])=sizL (z+1) l+sizN (z+1) n:=by simp[sizL]
  omega
theorem JsV {c:Pt}:∀d,d<1000->Jda s v k c t b d:=by
 intro d
 induction d with
 |zero=>exact fun a=>Jpz a fun e h=>by omega
 | succ d f=>
   intro a;refine Jpz a fun e h=> ?_
   grind
theorem newU {m:Sch}(hw:WF n)(h:SchC s n e m)(bf:m.c=[]):
  Dz 17 [.j e] n fun v S=>Gr n S/\NewY n v S (newS m):=by
 refine Jn tabM (aT Tryz.func17 rfl) rfl hw fun K ae=> ?_;obtain⟨o,aw⟩:=nxE n;have O:=Jcb m;have ax:=h;obtain⟨c,tv,sv,rfl,h1,h2,h3⟩:=h;obtain⟨M,hM⟩:∃M,M=m.b:=⟨_,rfl⟩
 obtain⟨l,aj⟩:∃l,l=m.a:=⟨_,rfl⟩
 obtain⟨fs,ak⟩:∃l,l=m.c:=⟨_,rfl⟩
 rw[<-hM]at h1;rw[<-aj]at h2;rw[<-ak]at h3;rw[<-aj,<-hM,<-ak]at O;have bg:=h1;obtain⟨nv,kv,es,rfl,x1,x2,x3,x4⟩:=h1.B;have l1:=h2.H;have l2:=h3.H;have bq:=x1.A;have bh:=x1.B;have br:=x2.A;have bi:=x2.B;have bj:=h2.G;have bk:=h3.G;simp only[CT,Tryz.f17,XY,simprocAttr];rw[Ja];simp[XY,aw,bh,bi,bj.1,bk.1];obtain⟨S0,af⟩:=exE (n.B fun t=> .a t [.d .i64 M.A,ofL M.B,nv,kv,tv,sv]);have g0:Gr n S0:=by rw[af];exact Gr.G hw (Jd _)
 obtain⟨t0,r0⟩:∃t,S0.A (up 0 o)= .a t [.d .i64 M.A,ofL M.B,nv,kv,tv,sv]:=⟨_,by rw[af];simp[XZ,aw];rfl⟩
 rw[<-af];clear af;rw[Je,Ja];simp[XY,r0];refine Jc (Js0 (P:=s) bf g0.D (ax.A g0.H)) ?_;rintro _ S1 ⟨g1,rfl⟩;have G1:=g0.B g1;by_cases hc:Qv m=0;rotate_left
 ·simp[XZ,hc];refine ae _ _ (fun r y=>G1.d r y) fun _=> ?_;rw[O,Xd hc];rfl
 rw[Xa (fun h=>h hc)]at O;obtain⟨ay,az,_,_,_,bl⟩:=JaN hc;rw[<-aj]at ay;rw[<-ak]at az bl;simp[XY];rw[Ja];simp[XY,hc];have w1:=g1.D;obtain⟨Y,Z⟩:=nxE S1;rw[Ja];simp[XY,Z];obtain⟨S2,X⟩:=exE ((((S1.B fun t=> .b t []).B fun t=> .b t []).B fun t=> .b t []).B fun t=> .a t [.g, .q (up 0 Y), .q (up 1 Y), .d .i64 0, .q (up 2 Y)]);have g2:Gr S1 S2:=by rw[X];exact(((Gr.G w1 (Q4 _)).L (Q4 _)).L (Q4 _)).L (Jd _)
 have hT:Tab (fun r=>r=up 0 Y\/r=up 1 Y\/r=up 2 Y\/r=up 3 Y) (fun _=>False) S2 (up 3 Y) JE:=by
  refine⟨.g,up 0 Y,up 1 Y,up 2 Y,[],[],⟨⟨_,by rw[X];simp only[XZ,simprocAttr,Z];rfl⟩,⟨.inr (.inr (.inr rfl)), .inl rfl, .inr (.inl rfl), .inr (.inr (.inl rfl))⟩, ?_,fun r f=>f.elim,⟨?_, ?_, ?_⟩,⟨rfl, .inl ⟨rfl,rfl⟩⟩,fun y h=>absurd h (by simp),rfl,fun i h=>absurd h (by simp),fun o h=>absurd h (by simp[JE]),by decide,⟨_,by rw[X];simp only[XZ,simprocAttr,Z];rfl⟩,⟨_,by rw[X];simp only[XZ,simprocAttr,Z];rfl⟩,⟨_,by rw[X];simp only[XZ,simprocAttr,Z];rfl⟩,rfl,fun i h=>absurd h (by simp)⟩⟩
  ·intro r hr;rcases hr with y|y|y|y
   all_goals rw[X,y];simp[XZ,Z]
   all_goals exact fun y=>by cases y
  ·rw[Jab];decide
  ·rw[Jab];decide
  ·rw[Jab];decide
 rw[<-X];obtain⟨W2,al⟩:∃W:Pt->Prop,W=fun r=>r=up 0 Y\/r=up 1 Y\/r=up 2 Y\/r=up 3 Y:=⟨_,rfl⟩
 obtain⟨rt,am⟩:=exE (up 3 Y);rw[<-al,<-am]at hT;rw[<-am];have T2:TabZ S2 W2 (fun r=>n.A r≠ .none) rt JE:=⟨g2.D,_,hT,fun r f=>f.elim⟩
 have K2:Kept S1 (fun _=>False) S2 W2:=fun r y _=>⟨g2.d r y,fun w=>by
  rw[al]at w;rcases w with w|w|w|w<;>exact y (by rw[w];exact nx0 w1 Z _)⟩
 have a0:Kept S0 (fun _=>False) S2 W2:=fun r y o=>by
  obtain⟨a,b⟩:=K2 r (by rw[g1.d r y];exact y) o;exact⟨by rw[a,g1.d r y],b⟩
 clear X al am hT;have ab:∀{S:St} {W:Pt->Prop},Kept S0 (fun _=>False) S W->∀r,n.A r≠ .none->S.A r=n.A r:=fun k r y=>by
  rw[(k r (by rw[g0.d r y];exact y) fun h=>h).1,g0.d r y]
 have a2:∀{S:St} {W:Pt->Prop} {y:List V} {t:Ty},Kept S0 (fun _=>False) S W->TyC s n y t->TyC (fun r=>¬W r) S y t:=fun k h=>h.A fun r p y=>⟨(k r (by rw[g0.d r y];exact y) fun h=>h).2,ab k r y⟩
 have aa:∀{S:St} {W:Pt->Prop},Kept S0 (fun _=>False) S W->S.A (up 0 o)= .a t0 [.d .i64 M.A,ofL M.B,nv,kv,tv,sv]:=fun k=>k.D r0 fun h=>h;refine Jz (fun U S=>(∃W,U 1= .e (up 0 o) 0/\U 5= .e rt 0/\TabZ S W (fun r=>n.A r≠ .none) rt (Jq l JE).1/\Kept S0 (fun _=>False) S W/\(Jq l JE).2=0)) (fun J1 bm=> ?_) ?_
 ·rw[Ja];simp[XY,aa a0,l1];obtain⟨I,hI⟩:=loE fun j U S=>∃(i:Nat) (W:Pt->Prop) (tb:Tb),j+i=l.length/\U 1= .e (up 0 o) 0/\U 5= .e rt 0/\U 30=tv/\U 31= .d .i64 l.length/\U 32= .d .i64 i/\TabZ S W (fun r=>n.A r≠ .none) rt tb/\Kept S0 (fun _=>False) S W/\Jq l JE=Jq (l.drop i) tb;refine JC I l.length (by omega) ((hI _ _ _).2 ⟨0,W2,JE,by omega,rfl,rfl,rfl,rfl,by rfl,T2,a0,rfl⟩) ?_;intro j U S ao;obtain⟨i,W,tb,hj,f1,f5,a5,ap,ag,hT,hK,Q⟩:=(hI _ _ _).1 ao;by_cases hi:i<l.length
  ·obtain⟨r,q,a6,a7,a1,a3,a4,a8,d1,d2,d3,d4⟩:=Jdw h2 (ab hK) hi;obtain⟨N,a9⟩:∃N,N=l[i].1:=⟨_,rfl⟩
   obtain⟨T,aq⟩:∃T,T=l[i].2:=⟨_,rfl⟩
   have hd:l.drop i=(N,T)::l.drop (i+1):=by rw[Xc hi,a9,aq]
   rw[hd,Jca]at Q;rw[<-aq]at a8;rw[<-a9,<-aq]at a4;have wS:=hT.1;obtain⟨nS,ah⟩:=nxE S;have oq:=fun k=>nes (Jr wS ah a3 k);have ar:=wiN (i:=i) (by omega);rw[Ja];simp[XY,ap,ag,hi];rw[Je];simp[XY];rw[Je];simp[XY];rw[Ja];simp[XY,a5,ag,a1,a4,ah,d2,d4];obtain⟨S3,au⟩:=exE ((S.B fun t=> .a t [ofL [], .d .i64 0,ofL [], .g, .g]).D (up 0 nS) S.t fun u=> .a u [ofL N, .d .i64 T.A,ofL T.B,a6,a7]);have g3:Gr S S3:=by rw[au];exact(Gr.F wS).M ah (Jd _) (Jd _)
   obtain⟨t3,r3⟩:∃t,S3.A (up 0 nS)= .a t [ofL N, .d .i64 T.A,ofL T.B,a6,a7]:=⟨_,by rw[au];simp[XZ];rfl⟩
   have q3:¬W (up 0 nS):=hT.x.A (nx0 wS ah 0);rw[<-au];have K3:=hK.A (Kept.I g3 W);have T3:=hT.D g3;rw[Ja];simp[XY,f5,r3];refine Jc (addZ T3 (fun r z=>by grind) (a2 K3 a8)) ?_;rintro _ S4 ⟨W4,T4,K4,rfl⟩;have KK:=K3.A K4;have r4:=K4.D r3 q3;simp[XY];by_cases he:(addT T 400 tb).2.2.1=0
   ·rw[Xa (fun h=>h he)]at Q;obtain⟨tt,lv,ra,rn,rs,rc,tm,ms,av,T5,K5⟩:=T4.A N (addT T 400 tb).2.1;have av:=av S4 rfl;rw[Je,Ja];simp[XY,he];simp[XZ,f5,rc,r4,av,ag,ar];exact⟨l.length-(i+1),by omega,(hI _ _ _).2 ⟨i+1,W4,_,by omega,f1,f5,a5,ap,rfl,T5,KK.A K5,Q⟩⟩
   ·rw[Xd he]at Q;simp[XZ,he];refine ae _ _ (ab KK) fun _=> ?_;rw[O,Q,Xd he];rfl
  ·rw[Xm (by omega),Jq]at Q;simp[XZ,ap,ag,hi];exact bm _ _ ⟨W,f1,f5,by grind,hK,by rw[Q]⟩
 rintro U S ⟨W,f1,f5,hT,hK,hz⟩;rw[Xa (fun h=>h hz)]at O;obtain⟨ad,ba⟩:∃t,t=(Jq l JE).1:=⟨_,rfl⟩
 rw[<-ba]at hT O;rw[Ja];simp[XY,f1,f5,aa hK];refine Jc (addZ hT (fun r z=>by grind) (a2 hK bg)) ?_;rintro _ S3 ⟨W3,T3,K3,rfl⟩;have KK:=hK.A K3;simp[XY];by_cases he:(addT M 400 ad).2.2.1=0;rotate_left
 ·rw[Xd he]at O;simp[XZ,he];refine ae _ _ (ab KK) fun _=> ?_;rw[O];rfl
 rw[Xa (fun h=>h he)]at O;rw[Je,Ja];simp[XY,he];obtain⟨tm,lv,ra,rn,rs,rc,T4,K4⟩:=T3.B (addT M 400 ad).2.1;rw[Ja];simp[XY,f5,rc];obtain⟨S4,bb⟩:=exE (S3.D rt tm fun u=> .a u [lv, .q ra, .q rn, .d .i64 ((addT M 400 ad).2.1:Nat), .q rs]);rw[<-bb]at T4 K4⊢;clear bb;have bc:=KK.A K4;obtain⟨ai,bd⟩:∃t:Tb,t={(addT M 400 ad).1 with b:=(addT M 400 ad).2.1}:=⟨_,rfl⟩
 rw[<-bd]at T4 O;refine Jz (fun U S=>(∃W,U 5= .e rt 0/\TabZ S W (fun r=>n.A r≠ .none) rt (Kc fs ai).1/\Kept S0 (fun _=>False) S W/\(Kc fs ai).2=0)) (fun J2 bn=> ?_) ?_
 ·rw[Ja];simp[XY,f1,aa bc,l2];obtain⟨I,hI⟩:=loE fun j U S=>∃(i:Nat) (W:Pt->Prop) (tb:Tb),j+i=fs.length/\U 5= .e rt 0/\U 69=sv/\U 70= .d .i64 fs.length/\U 71= .d .i64 i/\TabZ S W (fun r=>n.A r≠ .none) rt tb/\Kept S0 (fun _=>False) S W/\Kc fs ai=Kc (fs.drop i) tb;refine JC I fs.length (by omega) ((hI _ _ _).2 ⟨0,W3,ai,by omega,f5,rfl,rfl,by rfl,T4,bc,rfl⟩) ?_;clear f1 f5;intro j U S ao;obtain⟨i,W,tb,hj,f5,bt,bo,bp,hT,hK,Q⟩:=(hI _ _ _).1 ao;by_cases hi:i<fs.length
  ·exact absurd hi (by grind)
  ·rw[Xm (by omega),Kc]at Q;simp[XZ,bo,bp,hi];exact bn _ _ ⟨W,f5,by grind,hK,by rw[Q]⟩
 clear f1 f5;rintro U S ⟨W,f5,hT,hK,hz⟩;rw[Xa (fun h=>h hz)]at O;simp[XZ,f5];refine ae _ _ (ab hK) fun _=> ?_;rw[O];obtain⟨wS,F,be,hF⟩:=hT;have hL:=be.B;refine⟨rt,fun r=>W r\/(F r/\S.A r≠ .none),rfl,⟨wS,⟨W,_,hL,fun r h=>h⟩,fun r h=> ?_⟩,fun r h=> ?_⟩
 ·rcases h with h|h
  ·exact fun y=>(TabX.A ⟨wS,_,be⟩ y) h
  grind
 ·by_cases y:n.A r= .none
  ·exact y
  ·rcases h with h|h
   ·exact absurd h (hK r (by rw[g0.d r y];exact y) fun h=>h).2
   grind
theorem Jr1 {P P':Pt->Prop}{a b:V}{cs:Cls}(T:WF n)(s:SlAt P n a 2 (clsE cs))(t:SlAt P' n b 2 (clsE cs))(U:cs.length<900000):
  Dz 11 [a,b] n fun v _=>v= .h true:=by
 refine Jl (aT Tryz.func11 rfl) rfl ?_;have k:=s.G;have u:=t.G;have o:(clsE cs).length=cs.length:=by simp[clsE]
 rw[o]at k u;simp only[CT,Tryz.f11,XY,simprocAttr];rw[Ja];simp[XY];rw[Je,Ja];simp[XY,k,u];rw[Je,Ja];simp[XY];refine Jy (fun j l w=>∃i:Nat,j+i=cs.length/\w=n/\l 0=a/\l 1=b/\l 5= .d .i64 (i:Nat)) cs.length (by omega) ⟨0,by omega,rfl,rfl,rfl,by simp[XZ]<;>rfl⟩ ?_;rintro L hL j l w ⟨i,W,rfl,m,x,p⟩;by_cases y:i<cs.length;rotate_left
 ·simp[XZ,m,p,k,y]
 have e:IntKind.i64.wrap ((i:Int)+1)=((i+1:Nat):Int):=by rw[JV (by omega) (by omega)];omega
 obtain⟨r,q,O,_,_,_,z⟩:=s.I (i:=i) (by omega);obtain⟨r2,X,Q,_,_,_,K⟩:=t.I (i:=i) (by omega);have c:(clsE cs)[i]'(by omega)=[ofL cs[i].1, .d .i64 (cs[i].2:Nat)]:=by simp[clsE,varE]
 have M:=z 0 (by rw[c];simp);have f:=z 1 (by rw[c];simp);have N:=K 0 (by rw[c];simp);have g:=K 1 (by rw[c];simp);simp[c]at M f N g;rw[Je,Ja];simp[XY,m,p,k,y];rw[Je];simp[XY];rw[Ja];simp[XZ,m,x,p,O,Q,M,f,N,g,e];exact⟨cs.length-(i+1),by omega,hL _ _ _ ⟨i+1,by omega,rfl,m,x,rfl⟩⟩
theorem JtG {S:St}{m q w z K M j:V}{P:List Ty}{l:List Nat}(g:Gr n S)(N:RN (bs s n) S t b k m q w z K M j v P l b.b)(U:l.length=t.a.length)(L:LstAt (NmC (fun r=>(bs s n).A r≠ .none) (bs s n)) (fun r=>(bs s n).A r≠ .none) (bs s n) j 5 t.a)(W:∀r,(Bt k m q v r\/rowOf w=some r)->n.A r= .none)(y:∀r,s r->n.A r≠ .none):DT (fun _=>False) S (fun r=>s r\/Bt k m q v r\/rowOf w=some r) k t b:=by
 have f:∀r,(bs s n).A r≠ .none->s r/\S.A r=(bs s n).A r:=fun r e=>⟨(Jbe e).1,by rw[JdH (Jbe e).1,g.d r (Jbe e).2]⟩
 have Q:∀r,(Bt k m q v r\/rowOf w=some r)->¬s r:=fun r h i=>y r i (W r h);refine⟨g.D,⟨s,m,q,w,z,K,M,j,v,P,l,⟨N.a.B g.D (fun r e=>(f r e).1) (fun r h=>⟨Q r (.inl h),rfl⟩) fun r e=>rfl,N.t,N.d.F fun r e=>⟨JbD (Q r (.inr e)),rfl⟩,N.c,N.e,N.b⟩,U,L.B (fun _ _ x=>x.A fun r p e=>f r e) fun r p e=>f r e,fun r i=> .inl (.inl i),fun r e=> ?_,fun r o=> .inl (.inr (.inl (.inr (.inr (.inr o)))))⟩,fun r u=> ?_⟩
 ·rcases e with e|e|e|e
  ·exact .inr (.inl (.inl e))
  ·exact .inr (.inl (.inr (.inl e)))
  ·exact .inr (.inl (.inr (.inr (.inl e))))
  ·exact .inr (.inr e)
 ·rcases u with(i|h|h)|u
  ·rw[g.d r (y r i)];exact y r i
  ·exact N.a.A r h
  ·exact N.d.A h
  ·exact u.elim
theorem Jcx (c:St)(d:Fr)(a b i n:Nat)(Q:V->St->Prop):resP c d [.s a, .s b, .a i n] Q=wW (Yo c n (d i)) c fun v c=>Q (.p [d a,d b,v]) c:=by
 have h:=qC d c n (.s i);have h:(Kw c n (d i)).map (fun l=>(V.j l,Eff.a))=Yo c n (d i):=h;rw[<-h];simp[resP,QA,jR]
 cases Kw c n (d i)<;>rfl
def Box6 (z:List V):Prop:=∃z0 z1 z2 z3 z4 z5,z=[z0,z1,z2,z3,z4,z5]/\((z0.B=true/\z0.A=some [z0])/\(z1.B=true/\z1.A=some [z1])/\(z2.B=true/\z2.A=some [z2])/\(z3.B=true/\z3.A=some [z3])/\(z4.B=true/\z4.A=some [z4])/\(z5.B=true/\z5.A=some [z5]))
def JtH (st S:St)(v:V):Prop:=∃z,Box6 z/\(v= .p [.s, .s, .j z]\/∃(rt ru:Pt) (s:Sch) (tb:Tb) (U Ud:Pt->Prop),v= .p [.e rt 0, .e ru 0, .j z]/\TabU S U rt tb/\DT (fun _=>False) S Ud ru s tb/\OfF s tb/\s.c=[]/\(∀nd∈tb.a,nd.b.length<=4)/\(∀r,U r->¬Ud r)/\∀r,U r\/Ud r->st.A r= .none)
theorem JmG (h:SchC s n e t):Box6 e:=by
 obtain⟨j,k,l,rfl,c,f,g⟩:=h;obtain⟨M,i⟩:∃M,M=t.b:=⟨_,rfl⟩
 rw[<-i]at c;obtain⟨m,o,p,rfl,d,a,q,r⟩:=c.B;exact⟨_,_,_,_,_,_,rfl,⟨rfl,rfl⟩,⟨rfl,rfl⟩,⟨d.B,d.A⟩,⟨a.B,a.A⟩,f.G,g.G⟩
theorem JqZ {q1:Rw}{v2:V}{ts:List Rw}(hw:WF n)(h1:RwC (fun _=>True) n e q1)(h2:QH (fun _=>True) n v2 ts):
  Dz 6 [.j e,v2, .g] n fun v S=>Gr n S/\JtH n S v:=by
 refine Jn tabM (aT Tryz.func6 rfl) rfl hw fun K aa=> ?_;have g1:=h1;obtain⟨ar,au,av,rfl,_,_,_,a1,a2,_,_,_⟩:=h1.A;have c1:=a1.A;have s1:=a1.B;have c2:=a2.A;have s2:=a2.B;have h3:QH (fun _=>True) n .g []:=⟨[],SlAt.K _ _ _,rfl,by decide,fun i h=>absurd h (by simp)⟩
 obtain⟨n0,ab⟩:=nxE n;simp only[CT,Tryz.f6,XY,simprocAttr];rw[Ja];simp[XY,ab,s1,s2];generalize aj:up 0 n0=p3;generalize ak:up 1 n0=p8;refine nm2 hw ab aj ak ?_;intro S1 G1 aw ax _ ⟨t3,r3⟩ ⟨t8,r8⟩;have z0:Box6 [.d .i64 0,ofL [], .g, .g, .g, .g]:=⟨_,_,_,_,_,_,rfl,⟨rfl,rfl⟩,⟨rfl,rfl⟩,⟨rfl,rfl⟩,⟨rfl,rfl⟩,⟨rfl,rfl⟩,⟨rfl,rfl⟩⟩
 have kf:∀{S:St} {t:Nat} {l:List V} {r:Pt},r≠p8->(S.D p8 t fun u=> .a u l).A r=S.A r:=fun{S t l r} x=>Ji _ _ _ x;have Q:∀{S:St} {t:Nat} {z:List V},Gr n S->Box6 z->K (.p [.s, .s, .j z]) (S.D p8 t fun u=> .a u z):=fun{S t z} g h=>aa _ _ (fun r x=>by rw[kf fun y=>x (by grind),g.d r x]) fun _=>⟨z,h, .inl rfl⟩
 rw[Je,Ja];simp[XY,r3];refine Jc (Jq6 G1.D (g1.F G1) (h2.F G1) (h3.F G1)) ?_;rintro _ S2 ⟨Z,fb,rfl⟩;have g2:=G1.B Z
 cases fb with
 | false=>
   simp[XZ,Jcx,Z.A r8]
   grind
 |true=>
 simp[XY];rw[Ja];simp[XY,Z.A r3];refine Jc (JtQ rfl Z.D (g1.F g2) (h2.F g2) (h3.F g2)) ?_;rintro _ S3 ⟨G3,f,rfl,hs⟩;obtain⟨s,X⟩:∃s,s=jD q1 ts []:=⟨_,rfl⟩
 rw[<-X]at hs⊢;have m:s.c=[]:=by rw[X];rfl
 have hb:=JmG hs;obtain⟨ad,z1,z2,z3,z4,z5,rfl,hz⟩:=hb;have hb:=JmG hs;have g3:=g2.B G3;obtain⟨n3,ae⟩:=nxE S3;simp[XY,hz,ae];generalize al:up 0 n3=p9;refine nmA G3.D ae al ?_;intro S4 Y ay ⟨t9,r9⟩;have g4:=g3.B Y;have r84:=Y.A (G3.A (Z.A r8));by_cases hr:refS s=0;rotate_left
 ·rw[Je,Ja];simp[XY,hr];rw[Ja];simp[XZ,Jcx,r9,r84,hz]
  grind
 rw[Je,Ja];simp[XY,hr];obtain⟨T,hT⟩:∃T:Pt->Prop,∀r,T r<->S2.A r= .none/\S3.A r≠ .none:=⟨fun r=>S2.A r= .none/\S3.A r≠ .none,fun r=>Iff.rfl⟩
 have af:∀{S':St},Gr S4 S'->SchC T S' [ad,z1,z2,z3,z4,z5] s:=fun{S'} g=>hs.A fun r a b=>⟨(hT r).2 ⟨a,b⟩,(Y.B g).d r b⟩
 have ag:∀{S':St},Gr S4 S'->∀r,T r->S'.A r≠ .none:=fun{S'} g r a=>by rw[(Y.B g).d r ((hT r).1 a).2];grind
 have az:∀r,T r->n.A r= .none:=fun r a=>g2.I ((hT r).1 a).1;rw[Ja];simp[XY,r9];refine Jc (newU Y.D (af (Gr.F Y.D)) m) ?_;rintro v S5 ⟨q,hv⟩;have r95:=q.A r9;have r85:=q.A r84;have g5:=g4.B q;have ah:SchC (fun r=>(bs T S5).A r≠ .none) S5 [ad,z1,z2,z3,z4,z5] s:=(af q).A fun r a b=>⟨by rw[JdH a];exact b,rfl⟩
 cases o:newS s with
 |mk oo er=>
 unfold NewY at hv;rw[o]at hv
 cases oo with
 | none=>
   have hv:v= .p [.s, .d .i64 er]:=hv;have am:=Jm7 o;subst hv;simp[XY];rw[Ja];simp[XY,r95];refine Jc (Jr3 q.D (Jpo q.D) ah m) ?_;rintro w S6 ⟨M,k⟩;unfold JfI at k;rw[o]at k;have k:w= .p [.s, .d .i64 er]:=k;subst k;simp[XY];rw[Je,Ja];simp[XY,am];rw[Ja];simp[XZ,Jcx,M.A r95,M.A r85,hz];exact Q (g5.B M) hb
 | some tb=>
   obtain⟨rfl,hO⟩:=JqN o;obtain⟨rt,U,rfl,ai,hU⟩:=hv;simp[XY];rw[Ja];simp[XY,r95];refine Jc (Jr3 q.D (Jpo q.D) ah m) ?_;rintro w S6 ⟨M,k⟩;unfold JfI at k;rw[o]at k;obtain⟨ru,lv,tv,dv,nv,kv,sv,a0,O,tr,a3,rfl,N,ao,L,P⟩:=k;have D:=JtG M N ao L P (ag q);simp[XY];rw[Je,Ja];simp[XY];have r86:=M.A r85;have g6:=g5.B M;rw[Ja];simp[XZ,Jcx,M.A r95,r86,hz];have f4:∀r,S4.A r= .none->n.A r= .none:=fun r a=>g4.I a;have f5:∀r,S5.A r= .none->n.A r= .none:=fun r a=>g5.I a;have ap:∀r,U r->r≠p8:=fun r a f=>Jb r84 (by grind);have aq:∀r,(T r\/Bt ru lv tv O r\/rowOf dv=some r)->r≠p8:=fun r a f=>by
    rcases a with a|a
    ·have:=((hT r).1 a).1;rw[f,Z.A r8]at this
     grind
    grind
   refine aa _ _ (fun r x=>by rw[kf fun y=>x (by grind),g6.d r x]) fun g=>⟨_,hb, .inr ⟨rt,ru,s,tb,U,_,rfl, ?_,D.A g.D fun r u=>kf (u.elim (aq r) fun u=>u.elim),hO,m,JsM (X▸o),fun r a b=> ?_,fun r a=> ?_⟩⟩
   ·obtain⟨_,⟨W,F,q1,q2⟩,q3⟩:=ai.A M;exact⟨g.D,⟨W,F,q1.A fun r a b=>kf (ap r (q2 r a)),q2⟩,fun r u=>by simp_all⟩
   ·rcases b with b|b
    ·exact ag (Gr.F Y.D) r b (hU r a)
    ·exact ai.2.2 r a (P r b)
   grind
theorem Jq0 {a:List Nd}{X:Ty}(h:Kh a X=some z):z<a.length:=by
 obtain⟨k,n,f,c⟩:=X;rw[Kh]at h
 cases e:JT a c with
 |none=>rw[e]at h;cases h
 | some d=>
   rw[e]at h;obtain⟨_,b⟩:=jC h;exact(Xz.1 b).1
theorem JtI (h:TabU n s k b){i:Bool}{j:Option (List Nat)}{l:Fr}{Q:V->St->Prop}(m:∀S',Gr n S'->Q (.d .i64 (b.b:Nat)) S'):J8 (tabT tabD) i j 9 [.e k 0] l n Q:=by
 refine QD (P:=fun v _=>v= .d .i64 (b.b:Nat)) (fun f w=> ?_) h.1 (fun v S' f h=>h) fun v S' g h=> ?_
 ·obtain⟨_,⟨W,F,⟨o,p,r,u,y,z,x⟩,_⟩,_⟩:=h;obtain⟨t,c⟩:=x.s;have c:({n with a:=f}:St).A k= .a t [o, .q p, .q r, .d .i64 b.b, .q u]:=c;refine Jl (aT Tryz.func9 rfl) rfl ?_;simp only[CT,Tryz.f9,XZ,simprocAttr,c];exact Gr.F w
 ·subst h;exact m S' g
theorem Jr2 (st:St)(hw:WF st)(e1:List V)(q1:Rw)(h1:RwC (fun _=>True) st e1 q1)(v2:V)(ts:List Rw)(h2:QH (fun _=>True) st v2 ts)(u:V)(Q:List R10)(h3:Yu (fun _=>True) st u Q):
  Dz 3 [.j e1,v2,u] st fun v' _=>v'= .h true:=by
 refine Jl (aT Tryz.func3 rfl) rfl ?_;have g1:=h1;obtain⟨b5,b6,b7,rfl,_,_,_,a1,a2,_,_,_⟩:=h1.A;have c1:=a1.A;have s1:=a1.B;have c2:=a2.A;have s2:=a2.B;have bk:=h3;obtain⟨us,u1,u2,u3,u4⟩:=bk;have X:=u1.G;rw[u2]at X;obtain⟨n0,az⟩:=nxE st;simp only[CT,Tryz.f3,XY,simprocAttr];rw[Ja];simp[XY,az,s1,s2];generalize bl:up 0 n0=p3;refine nm1 hw az bl ?_;intro S1 G1 b8 ⟨t3,r3⟩;rw[Je,Ja];simp[XY];refine Jc (Jtm G1.D) ?_;rintro _ S2 ⟨G2,rfl⟩;have g2:=G1.B G2;simp[XY];by_cases h8:(Q.length:Int)>8
 ·rw[Je,Ja];simp[XZ,X,h8]
 rw[Je,Ja];simp[XY,X,h8];refine Jz (fun fr Y=>Gr S2 Y/\fr 1=v2/\fr 2=u/\fr 3= .e p3 0/\∀r∈Q,sz10 r<=19) (fun J hJ=> ?_) ?_
 ·rw[Ja];simp[XY];refine Jy (fun j fr Y=>∃i:Nat,j+i=Q.length/\Gr S2 Y/\fr 1=v2/\fr 2=u/\fr 3= .e p3 0/\fr 7= .d .i64 (i:Nat)/\∀r∈Q.take i,sz10 r<=19) Q.length (by omega) ⟨0,by omega,Gr.F G2.D,rfl,rfl,rfl,by simp[XZ]<;>rfl,by simp⟩ ?_;rintro L hL j fr S3 ⟨i,hj,G3,f1,f2,f3,f7,hs⟩;by_cases hi:i<Q.length;rotate_left
  ·simp[XZ,f2,f7,X,hi];exact hJ _ _ ⟨G3,f1,f2,f3,by rw[Xr (by omega)]at hs;exact hs⟩
  have ap:IntKind.i64.wrap ((i:Int)+1)=((i+1:Nat):Int):=by rw[JV (by omega) (by omega)];omega
  obtain⟨rq,qq,a1,_,a3,a4,_⟩:=u1.I (i:=i) (by omega);have bm:ldn (S3.A rq) qq 6=some (.j us[i], .a):=by rw[(g2.B G3).d rq a3];exact a4
  rw[Je,Ja];simp[XY,f2,f7,X,hi];rw[Je];simp[XY];rw[Ja];simp[XY,f2,f7,a1,bm];refine Jc (Jti (u4 i (by omega) hi) S3 (g2.B G3) 20 (by decide) (by decide)) ?_;rintro _ S4 ⟨G4,m,rfl,m1,m2⟩;by_cases hm:m=0
  ·simp[XZ,hm]
  ·simp[XZ,f7,hm,ap];refine⟨Q.length-(i+1),by omega,hL _ _ _ ⟨i+1,by omega,G3.B G4,f1,f2,f3,rfl,fun r hr=> ?_⟩⟩;rw[XD hi]at hr;rcases Xy.1 hr with hr|hr
   ·exact hs r hr
   ·rw[Xn.1 hr];omega
 rintro fr S3 ⟨G3,f1,f2,f3,hs⟩;have g3:=g2.B G3;rw[Ja];simp[XY,f1,f3,(G2.B G3).A r3];refine Jc (JqZ G3.D (g1.F g3) (h2.F g3)) ?_;rintro v S4 ⟨G4,z,⟨z0,z1,z2,z3,z4,z5,rfl,hz⟩,hv⟩;have g4:=g3.B G4;obtain⟨n4,af⟩:=nxE S4;rcases hv with rfl|⟨rt,ru,sc,S,U,Ud,rfl,hT,hD,hO,ag,a5,aq,b4⟩
 ·simp[XY,hz,af];generalize Z:up 0 n4=bn;refine nmA G4.D af Z ?_;intro S5 G5 a6 ⟨t10,r10⟩;rw[Je,Ja];simp[XZ,JsC]
 simp[XY,hz,af];generalize Z:up 0 n4=bn;refine nmA G4.D af Z ?_;intro S5 G5 a6 ⟨t10,r10⟩;rw[Je,Ja];simp[XY,JsB];obtain⟨n5,a7⟩:=nxE S5;rw[Ja];simp[XY,a7];generalize bo:up 0 n5=pa;generalize a8:up 1 n5=ah;refine nm2 G5.D a7 bo a8 ?_;intro S6 G6 ar a9 _ ⟨ta,ra⟩ ⟨t11,r11⟩;have ai:=G5.B G6;have D6:=hD.B ai;obtain⟨b9,lv,tv,k0,ca,nv,kv,aj,sv,dv,am,au⟩:∃t lv tv k0 nm nv kv aj sv dv am,S6.A ru= .a t [lv,tv,k0,nm,nv,kv,aj,sv,dv, .d .i64 (S.b:Nat),am]:=by
  obtain⟨T,lv,tv,dv,nv,kv,sv,aj,O,tr,bp,N,_⟩:=D6.i;obtain⟨t,c⟩:=N.a.d;exact⟨t,_,_,_,_,_,_,_,_,_,_,c⟩
 rw[Ja];simp[XY,f2,au];have ak:S.b<S.a.length:=Jq0 hO.l.d;have M6:MkS (fun _=>False) Ud ru ah sc S S6:=⟨D6,hO,ag,a5,t11,_,r11,SlAt.J (es:=[[ofL [116]]]) (t:=ta) (by rw[ra];simp) trivial (by simp)⟩
 have K6:MEnv S 4 ⟨S.b,[],[]⟩:=⟨⟨ak,(fun x hx=>by cases hx),(fun x hx=>by cases hx),Gq _,Gq _⟩,XC _,Nat.le_of_lt_succ (by show 0+4<11;decide)⟩
 have E6:EnvC (fun _=>False) S6 [.d .i64 (S.b:Nat), .g, .g] ⟨S.b,[],[]⟩:=⟨.g, .g,rfl,SlAt.K _ _ _,LstAt.F⟩
 have g6:=g3.B (G4.B ai);refine JbL (JsV 4 (by decide)) M6 E6 K6 (h3.A fun r a b=>⟨trivial,g6.d r b⟩) ?_;rintro bv S7 G7 ⟨l,l1,l2,l3,l4⟩ b1 b2;have ba:sizL 5 l<90000:=by
  have bq:=Jk5 (f:=sz10) (b:=19) hs;have:KM Q<=Q.length*19:=bq;have:(4^4*KM Q:Nat)=256*KM Q:=rfl;have l4:sizL 5 l<=4^4*KM Q:=l4;omega
 have r117:=G7.A r11;have T7:=hT.A (ai.B G7);have br:SlAt (fun r=>¬U r) S7 (.m pa 0 1 1 1) 1 (strs [[116]]):=SlAt.J (es:=[[ofL [116]]]) (t:=ta) (by rw[G7.A ra];simp) (fun h=>hT.2.2 pa h (G5.I ar)) (by simp);simp[XY];rw[Ja];simp[XY,r117];refine JtI T7 ?_;intro w y;simp[XY];obtain⟨sg,_⟩:∃sg:Tb->List Nat->List Nat->Nat×Int,True:=⟨fun _ _ _=>(0,17),trivial⟩
 obtain⟨x,hx⟩:∃x,x=rowS sg [[116]] 3 5 S [] ⟨S.b,[],[]⟩ l:=⟨_,rfl⟩
 have T8:=T7.A y;have bb:∀r,S6.A r= .none->¬U r:=fun r a h=>hT.2.2 r h (ai.I a);have bc:NodsC (fun r=>¬U r) {w with a:=w.t} 3 5 bv l:=NodsC.A (st:=S7) (st':={w with a:=w.t}) l1 fun r a b=>⟨bb r (a.elim (fun a=>a.elim) fun a=>a),y.d r b⟩
 have bd:=Jt1 (sg:=sg) (names:=[[116]]) (m:=2) ag (X6 (by decide:1<2) (by decide)) (Qj T8 (Js y.D w.t)) hO ((br.H y).D (st':={w with a:=w.t}) kR) ak bc l2 ba;rw[<-hx]at bd;refine JW (W:=U) (P:=fun v Y=>BodP U {w with a:=w.t} rt x v Y) y.D (bd.A (Q':=fun v Y=>Ch U {w with a:=w.t} Y/\BodP U {w with a:=w.t} rt x v Y) fun v Y h=> ?_) ?_
 ·obtain⟨U',h1,h2⟩:=h;exact⟨h1,U',h1,h2⟩
 rintro v S9 lo C9 ⟨U',_,cb,cc,hv⟩;have aa:∀r,¬U r->w.A r≠ .none->S9.A r=w.A r:=fun r n e=>C9.d r e n;obtain⟨k,ab⟩:∃k,k={S9 with a:=lo}:=⟨_,rfl⟩
 have w10:WF k:=ab▸C9.D;have M:∀r,k.A r=S9.A r:=fun r=>by rw[ab];rfl
 obtain⟨cv,a0,e0,rfl,av⟩:∃cv a e,v= .p [cv, .d .i64 a, .d .i64 e]/\((x.2.2.1≠0/\cv= .g/\a=x.2.2.2/\e=x.2.2.1)\/(x.2.2.1=0/\a=0/\e=0/\KL k cv 2 (clsE x.2.1)/\∀r,rowOf cv=some r->¬Ud r)):=by
  rcases hv with⟨h,rfl⟩|⟨h,cv,rfl,o,hc⟩
  ·exact⟨_,_,_,rfl, .inl ⟨h,rfl,rfl,rfl⟩⟩
  ·exact⟨_,_,_,rfl, .inr ⟨h,rfl,rfl,o.B fun r _=>M r,fun r e u=>by
    rcases(hc r e).2 with h|h
    ·exact aq r h u
    ·exact(D6.B (G7.B y)).f r (.inl u) h⟩⟩
 have bt:DT (fun _=>False) k Ud ru sc S:=(D6.B (G7.B y)).A w10 fun r u=>by
  have u:Ud r:=u.elim id fun u=>u.elim;rw[M,aa r (fun h=>aq r h u) ((D6.B (G7.B y)).f r (.inl u))]
 rw[<-ab];simp[XY];have q:∀r,¬U r->w.A r≠ .none->k.A r=w.A r:=fun r n e=>by rw[M,aa r n e]
 have aw:k.A ah=_:=(q ah (fun h=>hT.2.2 ah h (G5.I a9)) (Jb (y.A r117))).trans (y.A r117);have bu:∀r,Ud r->¬U r:=fun r d u=>aq r u d;have be:Ud ru:=by
  obtain⟨T,lv,tv,dv,nv,kv,sv,aj,O,tr,bp,_,_,_,_,d,_⟩:=D6.i;exact d ru (.inl rfl)
 have ax:=(q ru (bu ru be) (Jb (y.A (G7.A au)))).trans (y.A (G7.A au));rw[Ja];simp[XY,aw,ax];have bw:∀r,Ud r->S6.A r≠ .none:=fun r u=>D6.f r (.inl u);have ay:NodsC (fun r=>¬Ud r) {k with a:=k.t} 3 5 bv l:=NodsC.A (st:=S7) (st':={k with a:=k.t}) l1 fun r a b=>by
  have a:S6.A r= .none:=a.elim (fun a=>a.elim) fun a=>a;exact⟨fun u=>bw r u a,by
   show k.A r=S7.A r;rw[q r (bb r a) (by rw[y.d r b];exact b),y.d r b]⟩
 have bf:SlAt (fun r=>¬Ud r) {k with a:=k.t} (.m pa 0 1 1 1) 1 (strs [[116]]):=by
  have bg:=(G7.B y).A ra;have bx:=(q pa (fun h=>hT.2.2 pa h (G5.I ar)) (Jb bg)).trans bg;exact SlAt.J (es:=[[ofL [116]]]) (t:=ta) (by show k.A pa=_;rw[bx];simp) (fun u=>hD.f pa (.inl u) (G5.I ar)) (by simp)
 have ao:=Jt6 (sg:=sg) (names:=[[116]]) (m:=2) ag (X6 (by decide:1<2) (by decide)) (bt.D (Js w10 k.t)) hO (fun r _ z=>z.elim) bf ak ay l2 l3 ba;rw[<-hx]at ao;refine JW (W:=Ud) (P:=fun v Y=>(x.2.2.1≠0/\v= .p [.g, .d .i64 x.2.2.2, .d .i64 x.2.2.1])\/(x.2.2.1=0/\∃cv,v= .p [cv, .d .i64 0, .d .i64 0]/\KL Y cv 2 (clsE x.2.1))) w10 ao ?_;rintro v bh bz bi bj;obtain⟨al,ad⟩:∃al,al={bh with a:=bz}:=⟨_,rfl⟩
 have w12:WF al:=ad▸bi.D;have ae:∀r,al.A r=bh.A r:=fun r=>by rw[ad];rfl
 have b0:x.2.1.length<900000:=by
  have hk:=(Jcs (s:=sc) (names:=[[116]]) (m:=3) (SgOK.A (sg:=sg) ag) js 5 S [] ⟨S.b,[],[]⟩ l hO ⟨⟨ak,(fun x hx=>by cases hx),(fun x hx=>by cases hx),Gq _,Gq _⟩,by show 0+sizL 5 l<100000;omega,by show 0+sizL 5 l<100000;omega⟩ l2).d;rw[<-hx]at hk;have:x.2.1.length<=0+sizL 5 l:=hk;omega
 rw[<-ad];rcases av with⟨h,rfl,rfl,rfl⟩|⟨h,rfl,rfl,o,hc⟩
 ·rcases bj with⟨_,rfl⟩|⟨h',_⟩
  rotate_left
  ·exact absurd h' h
  simp[XY];rw[Ja];simp[XY];refine Jc (Jr1 (P:=fun _=>True) (P':=fun _=>True) (cs:=[]) w12 (SlAt.K _ _ _) (SlAt.K _ _ _) (by decide)) ?_;rintro _ b3 rfl;simp[XZ]
 ·rcases bj with⟨h',_⟩|⟨_,cd,rfl,o2⟩
  ·exact absurd h h'
  simp[XY];rw[Ja];simp[XY];refine Jc (Jr1 w12 (o.B fun r e=> ?_).D (o2.B fun r e=>ae r).D b0) ?_
  ·rw[ae];exact bi.d r (o.A e) (hc r e)
  rintro _ b3 rfl;simp[XZ]
end Go.Proofs.YtmcjecniobkggaaGreat
