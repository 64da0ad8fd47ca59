/- The Maker: rows. The table of a schema of no functions: its rows are new. 'FlowMade': t -/
import Derived.Test.YtdajkeoobbonjaaGreatQ8
set_option linter.constructorNameAsVariable false
set_option maxHeartbeats 64000000
set_option linter.unusedVariables false
set_option linter.unusedSimpArgs false
set_option linter.unusedSectionVars false
set_option maxRecDepth 100000
namespace Go.Proofs.YtdajkeoobbonjaaGreat
open Eva Go.RowKit
variable {s e:Pt->Prop}{v b:Nat}{n:St}{t:List V}{k:List (Str×List Nod)}{z:Sch}{d:V}{i:Pt}
theorem nmAA {T:Table}{c:C}{w:Fr}{Q:Out->Prop}{z o q:List V}(j:WF n)(g:n.b=up 0 i)(h:∀p,Gr n p->n.A (up 0 i)= .none->n.A (up 1 i)= .none->(∃d,p.A (up 0 i)= .a d o)->(∃d,p.A (up 1 i)= .a d q)->wC T v c w p Q):wC T v c w ((((n.B fun d=> .a d t).B fun d=> .a d z).D (up 0 i) n.t fun u=> .a u o).D (up 1 i) (n.B fun d=> .a d t).t fun u=> .a u q) Q:=by
 have r:=Gr.G j (Jc t);have K:(n.B fun d=> .a d t).A (up 0 i)= .a n.t t:=Qi g _;have s:(n.B fun d=> .a d t).b=up 1 i:=by
  show up 1 n.b=_;rw[g];rfl
 have x:=Gr.G r.D (Jc z);have L:((n.B fun d=> .a d t).B fun d=> .a d z).A (up 1 i)= .a (n.B fun d=> .a d t).t z:=Qi s _;have k:=x.B K;have l:up 0 i≠up 1 i:=fun e=>by
  have:=J6 r.D
  grind
 have M:=(r.A x).J (f:=fun u=> .a u o) (t:=n.t) (nx0 j g 0) (Jb k) (by rw[k];rfl) (Jc _);have m:(((n.B fun d=> .a d t).B fun d=> .a d z).D (up 0 i) n.t fun u=> .a u o).A (up 1 i)= .a (n.B fun d=> .a d t).t z:=by rw[Jj _ _ _ (Ne.symm l)];exact L
 have N:=M.J (f:=fun u=> .a u q) (t:=(n.B fun d=> .a d t).t) (nx0 j g 1) (Jb m) (by rw[m];rfl) (Jc _);exact h _ N (nx0 j g 0) (nx0 j g 1) ⟨_,by rw[Jj _ _ _ l];exact Jh _ _ _ _⟩ ⟨_,Jh _ _ _ _⟩
def NodX (d:Nat)(P:Pt->Prop)(S:St)(e:List V)(n:Nod):Prop:=NodC P S 3 d e n/\fitN (fitP 3) d n/\docN 3 d n
theorem NodX.A {d:Nat}{P Q:Pt->Prop}{S S':St}{e:List V}{n:Nod}(h:NodX d P S e n)(k:∀r,P r->S.A r≠ .none->Q r/\S'.A r=S.A r):NodX d Q S' e n:=⟨h.1.A k,h.2⟩
theorem JqH {rm:Pt}{tb:Tb}(hd:v<1000)(H:∀d',v=d'+1->Jdy s e i rm z tb d'):Jdy s e i rm z tb v:=by
 intro S P ee E rv rs hM hE hK hR;have hw:=hM.b.wf;refine Jn tabM (aT Tryz.func23 rfl) rfl hw fun K av=> ?_;have ae:=hE;obtain⟨vv,bf,rfl,h1,h2,e1,e2⟩:=K8 hE;obtain⟨es,w1,w2,w3,w4⟩:=hR;have O:=w1.G;rw[w2]at O;obtain⟨n0,af⟩:=nxE S;simp only[CT,Tryz.f23,XY,simprocAttr];rw[Ja];simp[XY,af,e1.1,e2.1];generalize aw:up 0 n0=J;refine nm1 hw af aw ?_;intro S1 G1 bg ⟨t5,W⟩;rw[Ja];simp[XY];have aa:∀{o:St},Ch (fun r=>r=J) S1 o->∀r,S.A r≠ .none->o.A r=S.A r:=fun{o} h r a=>by
  rw[h.d r (by rw[G1.d r a];exact a) fun c=>a (by grind),G1.d r a]
 obtain⟨Q,hQ⟩:∃Q:Pt->Prop,∀r,Q r<->(P r\/S.A r= .none)/\r≠J:=⟨fun r=>(P r\/S.A r= .none)/\r≠J,fun r=>Iff.rfl⟩
 rw[Jd,Ja];simp[XY];obtain⟨L,hL⟩:=loE fun j fr o=>∃(f:Nat) (m:V) (l:List Nod) (ee:List V) (E:EnvS) (t:Nat),j+f=7/\Ch (fun r=>r=J) S1 o/\fr 0= .g rm 0/\fr 2=rv/\fr 3= .d .i64 (v:Nat)/\fr 5= .g J 0/\fr 9=m/\fr 10= .d .i64 (f:Nat)/\o.A J= .a t ee/\EnvC (fun r=>Q r/\rowOf m≠some r) o ee E/\MEnv tb v E/\AccO (NodX (v+1)) Q o m 9 l/\(∀r,rowOf m=some r->S1.A r= .none)/\sizL (v+1) l<=4^v*KA (rs.take f)/\l.length<=f/\f<=6;refine JD L 7 (by omega) ((hL _ _ _).2 ⟨0, .e,[],_,E,t5,by omega,Ch.G _ G1.D,rfl,rfl,rfl,rfl,rfl,by rfl,W,ae.A fun r a b=>⟨⟨(hQ r).2 ⟨.inl a,fun c=>b (by grind)⟩,fun c=>by cases c⟩,G1.d r b⟩,hK,AccO.D,(fun r c=>by cases c),by simp[sizL],XC _,by omega⟩) ?_;have ax:=W;clear h1 h2 e1 e2 ae W;intro j fr S2 ay;obtain⟨f,m,l,ee,E,t,hj,X,f0,f2,f3,f5,f9,M,W,hE,hK,N,hv,az,bh,bi⟩:=(hL _ _ _).1 ay;have done:K m S2:=by
  obtain⟨a0,k1,k2,k3⟩:=N;have hl:∀n∈l,fitN (fitP 3) (v+1) n/\docN 3 (v+1) n:=fun n hn=>by
   obtain⟨q,hq,rfl⟩:=X1 hn;exact(k3 q (by omega) hq).2
  refine av _ _ (aa X) fun _=>⟨l,⟨a0,k1.G.D fun r a b=>⟨.inr (G1.I (hv r a)),rfl⟩,k2,fun q a b=>(k3 q a b).1.A fun r a b=>⟨((hQ r).1 a.1).1,rfl⟩⟩,⟨by omega,fun n hn=>(hl n hn).1⟩,fun n hn=>(hl n hn).2,Zb az (Nat.mul_le_mul_left _ (Jgc _ _))⟩
 by_cases hi:f<rs.length;rotate_left
 ·simp[XZ,f2,f9,M,O,hi];omega
 by_cases h6:(f:Int)<6;rotate_left
 ·simp[XZ,f2,f9,M,O,hi,h6];omega
 rw[Jd,Ja];simp[XY,f2,M,O,hi,h6];rw[Jd];simp[XY];have ab:IntKind.i64.wrap ((f:Int)+1)=((f+1:Nat):Int):=by rw[JX (by omega) (by omega)];omega
 obtain⟨rq,qq,a1,_,a3,a4,_⟩:=w1.H (i:=f) (by omega);have a2:ldn (S2.A rq) qq 6=some (.j es[f], .a):=by grind
 obtain⟨dv,bj,rfl,q1,q2,e1,e2⟩:=K8 hE;rw[Ja];simp[XZ,f0,f2,f3,f5,M,W,a1,a2];have vS:∀r,rowOf m=some r->S2.A r≠ .none:=by
  obtain⟨es,q1,_⟩:=N;exact fun r c=>q1.A c
 have nQ:∀r,S2.A r= .none->Q r/\rowOf m≠some r:=fun r a=>⟨(hQ r).2 ⟨.inr (G1.I (X.B a)),fun c=>Jb W (by grind)⟩,fun c=>vS r c a⟩
 have hx:R10C (fun _=>True) S2 es[f] rs[f]:=(w4 f (by omega) hi).A fun r a b=>⟨a,aa X r b⟩
 have M2:=hM.A X.D (aa X);have Y:∀{o:St},∀r,((Q r/\rowOf m≠some r)\/S2.A r= .none)->o.A r≠ .none->(Q r/\rowOf m≠some r)/\o.A r=o.A r:=fun{o} r a _=>⟨a.elim (fun a=>a) (nQ r),rfl⟩
 refine KI (P:=fun w o=>∃c u E2,w= .p [.j c, .j u]/\NodR (fun r=>Q r/\rowOf m≠some r) o (v+1) (4^v*sz10 rs[f]) c/\EnvC (fun r=>Q r/\rowOf m≠some r) o u E2/\MEnv tb v E2) (fun n w=>(JuU H (M2.D n) (hx.A kR) (hE.A kR) hK).A fun v' o h=> ?_) X.D (fun v' o n h=> ?_) ?_
 ·obtain⟨g,c,u,E2,rfl,q1,q2,q3⟩:=h;exact⟨g,c,u,E2,rfl,q1.A Y,q2.A Y,q3⟩
 ·obtain⟨c,u,E2,rfl,q1,q2,q3⟩:=h;exact⟨c,u,E2,rfl,q1.A kR,q2.A kR,q3⟩
 rintro _ S3 G3 ⟨c,u,E2,rfl,ag,ah,a5⟩;obtain⟨nk,na,nt,nn,bk,bl,bm,bn,a6,rfl,b1,b2,b3,b4⟩:=Jc1 ag;have ai:=ah;obtain⟨bo,bp,rfl,bq,br,aj,ak⟩:=K8 ah;obtain⟨n3,al⟩:=nxE S3;simp[XY,b1,b2,b3,b4,aj.1,ak.1,al];refine nmAA G3.D al ?_;intro S4 G4 be am ⟨bt,a7⟩ ⟨bu,ao⟩;have y:=G3.A G4;obtain⟨n4,ap⟩:=nxE S4;rw[Ja];simp[XY,f9,a7,b1,b2,b3,b4,ap];obtain⟨n,a8,a9,aq,bv⟩:=ag;have a6:∀r,S1.A r≠ .none->rowOf m≠some r:=fun r a c=>a (hv r c);refine Jnk (C:=NodX (v+1)) (fun h k=>h.A k) G4.D ap (N.A (fun h k=>h.A k) fun r _ b=>y.d r b) (x:=n) ⟨a8.A G4.H,a9,aq⟩ rfl (by simp only[J9,Kv,b1,b2,b3,b4,Bool.and_self];rfl) (by omega) ?_;intro S5 v5 C5 ad ba;have ar:=(C5.d (up 1 n3) (Jb ao) fun c=>vS _ c (G3.I am)).trans ao;have n5:rowOf m≠some J:=fun c=>Jb ax (hv J c);have au:=(C5.d J (Jb (y.B W)) n5).trans (y.B W);simp[XY];simp[XZ,f5,M,ar,au,aj.1,ak.1,ab];refine nmWK (K:=fun T=>∃j',j'<j/\L j' _ T) C5.D au ?_;intro S6 C6 ⟨t6,bb⟩;have bc:=((X.I y).A C5 fun r w=> .inr (hv r w)).A C6 fun r w=> .inl w;have Q5:∀r,Q r->r≠J:=fun r a=>((hQ r).1 a).2;have bd:∀r,rowOf v5=some r->r≠J:=fun r c x=>Jb (y.B W) (by grind);refine⟨7-(f+1),by omega,(hL _ _ _).2 ⟨f+1,v5,l++[n],_,E2,t6,by omega,bc,f0,f2,f3,f5,rfl,rfl,bb,ai.A fun r a b=> ?_,a5,ad.A (fun h k=>h.A k) (fun r a b=>C6.d r b (a.elim (Q5 r) (bd r))),(fun r c=>(X.I y).B (ba r c)), ?_,by grind,by omega⟩⟩
 ·have b4:=G4.d r b;have b5:=C5.d r (by grind) a.2;exact⟨⟨a.1,fun c=>b (by grind)⟩,by rw[C6.d r (by grind) (Q5 r a.1),b5,b4]⟩
 ·rw[Jan hi,GU];have:sizL (v+1) (l++[n])=sizL (v+1) l+sizN (v+1) n:=by simp[sizL]
  omega
theorem Jt0 {b:Pt}{c:Tb}:∀d,d<1000->Jdy s e i b z c d:=by
 intro d
 induction d with
 |zero=>exact fun a=>JqH a fun f h=>by omega
 | succ d g=>
   intro a;refine JqH a fun f h=> ?_
   grind
theorem newU (hw:WF n)(h:SchC s n t z)(be:z.c=[]):
  Dz 19 [.j t] n fun v S=>Gr n S/\NewY n v S (newS z):=by
 refine Jn tabM (aT Tryz.func19 rfl) rfl hw fun K ad=> ?_;obtain⟨m,av⟩:=nxE n;have J:=Jcx z;have aw:=h;obtain⟨c,tv,sv,rfl,h1,h2,h3⟩:=h;obtain⟨M,hM⟩:∃M,M=z.b:=⟨_,rfl⟩
 obtain⟨l,ai⟩:∃l,l=z.a:=⟨_,rfl⟩
 obtain⟨fs,aj⟩:∃l,l=z.c:=⟨_,rfl⟩
 rw[<-hM]at h1;rw[<-ai]at h2;rw[<-aj]at h3;rw[<-ai,<-hM,<-aj]at J;have bf:=h1;obtain⟨nv,kv,es,rfl,x1,x2,x3,x4⟩:=h1.B;have l1:=h2.H;have l2:=h3.H;have bp:=x1.A;have bg:=x1.B;have bq:=x2.A;have bh:=x2.B;have bi:=h2.B;have bj:=h3.B;simp only[CT,Tryz.f19,XY,simprocAttr];rw[Ja];simp[XY,av,bg,bh,bi.1,bj.1];obtain⟨S0,ae⟩:=exE (n.B fun o=> .a o [.d .i64 M.A,ofL M.B,nv,kv,tv,sv]);have g0:Gr n S0:=by rw[ae];exact Gr.G hw (Jc _)
 obtain⟨t0,r0⟩:∃o,S0.A (up 0 m)= .a o [.d .i64 M.A,ofL M.B,nv,kv,tv,sv]:=⟨_,by rw[ae];simp[XZ,av];rfl⟩
 rw[<-ae];clear ae;rw[Jd,Ja];simp[XY,r0];refine Je (JtL (P:=s) be g0.D (aw.A g0.H)) ?_;rintro _ S1 ⟨g1,rfl⟩;have G1:=g0.A g1;by_cases hc:Qx z=0;rotate_left
 ·simp[XZ,hc];refine ad _ _ (fun r e=>G1.d r e) fun _=> ?_;rw[J,Xe hc];rfl
 rw[Xa (fun h=>h hc)]at J;obtain⟨ax,ay,_,_,_,bk⟩:=qr hc;rw[<-ai]at ax;rw[<-aj]at ay bk;simp[XY];rw[Ja];simp[XY,hc];have w1:=g1.D;obtain⟨X,Y⟩:=nxE S1;rw[Ja];simp[XY,Y];obtain⟨S2,U⟩:=exE ((((S1.B fun o=> .b o []).B fun o=> .b o []).B fun o=> .b o []).B fun o=> .a o [.e, .q (up 0 X), .q (up 1 X), .d .i64 0, .q (up 2 X)]);have g2:Gr S1 S2:=by rw[U];exact(((Gr.G w1 (Qb _)).L (Qb _)).L (Qb _)).L (Jc _)
 have hT:Tab (fun r=>r=up 0 X\/r=up 1 X\/r=up 2 X\/r=up 3 X) (fun _=>False) S2 (up 3 X) JF:=by
  refine⟨.e,up 0 X,up 1 X,up 2 X,[],[],⟨⟨_,by rw[U];simp only[XZ,simprocAttr,Y];rfl⟩,⟨.inr (.inr (.inr rfl)), .inl rfl, .inr (.inl rfl), .inr (.inr (.inl rfl))⟩, ?_,fun r f=>f.elim,⟨?_, ?_, ?_⟩,⟨rfl, .inl ⟨rfl,rfl⟩⟩,fun e h=>absurd h (by simp),rfl,fun i h=>absurd h (by simp),fun m h=>absurd h (by simp[JF]),by decide,⟨_,by rw[U];simp only[XZ,simprocAttr,Y];rfl⟩,⟨_,by rw[U];simp only[XZ,simprocAttr,Y];rfl⟩,⟨_,by rw[U];simp only[XZ,simprocAttr,Y];rfl⟩,rfl,fun i h=>absurd h (by simp)⟩⟩
  ·intro r hr;rcases hr with e|e|e|e
   all_goals rw[U,e];simp[XZ,Y]
   all_goals exact fun e=>by cases e
  ·rw[Jak];decide
  ·rw[Jak];decide
  ·rw[Jak];decide
 rw[<-U];obtain⟨W2,ak⟩:∃W:Pt->Prop,W=fun r=>r=up 0 X\/r=up 1 X\/r=up 2 X\/r=up 3 X:=⟨_,rfl⟩
 obtain⟨rt,al⟩:=exE (up 3 X);rw[<-ak,<-al]at hT;rw[<-al];have T2:TabZ S2 W2 (fun r=>n.A r≠ .none) rt JF:=⟨g2.D,_,hT,fun r f=>f.elim⟩
 have K2:Kept S1 (fun _=>False) S2 W2:=fun r e _=>⟨g2.d r e,fun w=>by
  rw[ak]at w;rcases w with w|w|w|w<;>exact e (by rw[w];exact nx0 w1 Y _)⟩
 have az:Kept S0 (fun _=>False) S2 W2:=fun r e m=>by
  obtain⟨a,b⟩:=K2 r (by rw[g1.d r e];exact e) m;exact⟨by rw[a,g1.d r e],b⟩
 clear U ak al hT;have aa:∀{S:St} {W:Pt->Prop},Kept S0 (fun _=>False) S W->∀r,n.A r≠ .none->S.A r=n.A r:=fun k r e=>by
  rw[(k r (by rw[g0.d r e];exact e) fun h=>h).1,g0.d r e]
 have a0:∀{S:St} {W:Pt->Prop} {e:List V} {o:Ty},Kept S0 (fun _=>False) S W->TyC s n e o->TyC (fun r=>¬W r) S e o:=fun k h=>h.A fun r p e=>⟨(k r (by rw[g0.d r e];exact e) fun h=>h).2,aa k r e⟩
 have Z:∀{S:St} {W:Pt->Prop},Kept S0 (fun _=>False) S W->S.A (up 0 m)= .a t0 [.d .i64 M.A,ofL M.B,nv,kv,tv,sv]:=fun k=>k.D r0 fun h=>h;refine Ju (fun Q S=>(∃W,Q 1= .g (up 0 m) 0/\Q 5= .g rt 0/\TabZ S W (fun r=>n.A r≠ .none) rt (Jr l JF).1/\Kept S0 (fun _=>False) S W/\(Jr l JF).2=0)) (fun J1 bl=> ?_) ?_
 ·rw[Ja];simp[XY,Z az,l1];obtain⟨I,hI⟩:=loE fun j Q S=>∃(i:Nat) (W:Pt->Prop) (tb:Tb),j+i=l.length/\Q 1= .g (up 0 m) 0/\Q 5= .g rt 0/\Q 30=tv/\Q 31= .d .i64 l.length/\Q 32= .d .i64 i/\TabZ S W (fun r=>n.A r≠ .none) rt tb/\Kept S0 (fun _=>False) S W/\Jr l JF=Jr (l.drop i) tb;refine JD I l.length (by omega) ((hI _ _ _).2 ⟨0,W2,JF,by omega,rfl,rfl,rfl,rfl,by rfl,T2,az,rfl⟩) ?_;intro j Q S am;obtain⟨i,W,tb,hj,f1,f5,a2,ao,af,hT,hK,O⟩:=(hI _ _ _).1 am;by_cases hi:i<l.length
  ·obtain⟨r,q,a5,a6,a1,a3,a4,a7,d1,d2,d3,d4⟩:=JdV h2 (aa hK) hi;obtain⟨N,a8⟩:∃N,N=l[i].1:=⟨_,rfl⟩
   obtain⟨T,ap⟩:∃T,T=l[i].2:=⟨_,rfl⟩
   have hd:l.drop i=(N,T)::l.drop (i+1):=by rw[Xc hi,a8,ap]
   rw[hd,Jcw]at O;rw[<-ap]at a7;rw[<-a8,<-ap]at a4;have wS:=hT.1;obtain⟨nS,ag⟩:=nxE S;have oq:=fun k=>nes (Jt wS ag a3 k);have aq:=wiN (i:=i) (by omega);rw[Ja];simp[XY,ao,af,hi];rw[Jd];simp[XY];rw[Jd];simp[XY];rw[Ja];simp[XY,a2,af,a1,a4,ag,d2,d4];obtain⟨S3,ar⟩:=exE ((S.B fun o=> .a o [ofL [], .d .i64 0,ofL [], .e, .e]).D (up 0 nS) S.t fun u=> .a u [ofL N, .d .i64 T.A,ofL T.B,a5,a6]);have g3:Gr S S3:=by rw[ar];exact(Gr.F wS).M ag (Jc _) (Jc _)
   obtain⟨t3,r3⟩:∃o,S3.A (up 0 nS)= .a o [ofL N, .d .i64 T.A,ofL T.B,a5,a6]:=⟨_,by rw[ar];simp[XZ];rfl⟩
   have q3:¬W (up 0 nS):=hT.x.A (nx0 wS ag 0);rw[<-ar];have K3:=hK.A (Kept.I g3 W);have T3:=hT.D g3;rw[Ja];simp[XY,f5,r3];refine Je (addZ T3 (fun r y=>by grind) (a0 K3 a7)) ?_;rintro _ S4 ⟨W4,T4,K4,rfl⟩;have KK:=K3.A K4;have r4:=K4.D r3 q3;simp[XY];by_cases he:(addT T 400 tb).2.2.1=0
   ·rw[Xa (fun h=>h he)]at O;obtain⟨tt,lv,ra,rn,rs,rc,tm,ms,au,T5,K5⟩:=T4.A N (addT T 400 tb).2.1;have au:=au S4 rfl;rw[Jd,Ja];simp[XY,he];simp[XZ,f5,rc,r4,au,af,aq];exact⟨l.length-(i+1),by omega,(hI _ _ _).2 ⟨i+1,W4,_,by omega,f1,f5,a2,ao,rfl,T5,KK.A K5,O⟩⟩
   ·rw[Xe he]at O;simp[XZ,he];refine ad _ _ (aa KK) fun _=> ?_;rw[J,O,Xe he];rfl
  ·rw[Xm (by omega),Jr]at O;simp[XZ,ao,af,hi];exact bl _ _ ⟨W,f1,f5,by grind,hK,by rw[O]⟩
 rintro Q S ⟨W,f1,f5,hT,hK,hz⟩;rw[Xa (fun h=>h hz)]at J;obtain⟨ab,a9⟩:∃o,o=(Jr l JF).1:=⟨_,rfl⟩
 rw[<-a9]at hT J;rw[Ja];simp[XY,f1,f5,Z hK];refine Je (addZ hT (fun r y=>by grind) (a0 hK bf)) ?_;rintro _ S3 ⟨W3,T3,K3,rfl⟩;have KK:=hK.A K3;simp[XY];by_cases he:(addT M 400 ab).2.2.1=0;rotate_left
 ·rw[Xe he]at J;simp[XZ,he];refine ad _ _ (aa KK) fun _=> ?_;rw[J];rfl
 rw[Xa (fun h=>h he)]at J;rw[Jd,Ja];simp[XY,he];obtain⟨tm,lv,ra,rn,rs,rc,T4,K4⟩:=T3.G (addT M 400 ab).2.1;rw[Ja];simp[XY,f5,rc];obtain⟨S4,ba⟩:=exE (S3.D rt tm fun u=> .a u [lv, .q ra, .q rn, .d .i64 ((addT M 400 ab).2.1:Nat), .q rs]);rw[<-ba]at T4 K4⊢;clear ba;have bb:=KK.A K4;obtain⟨ah,bc⟩:∃o:Tb,o={(addT M 400 ab).1 with b:=(addT M 400 ab).2.1}:=⟨_,rfl⟩
 rw[<-bc]at T4 J;refine Ju (fun Q S=>(∃W,Q 5= .g rt 0/\TabZ S W (fun r=>n.A r≠ .none) rt (Kb fs ah).1/\Kept S0 (fun _=>False) S W/\(Kb fs ah).2=0)) (fun J2 bm=> ?_) ?_
 ·rw[Ja];simp[XY,f1,Z bb,l2];obtain⟨I,hI⟩:=loE fun j Q S=>∃(i:Nat) (W:Pt->Prop) (tb:Tb),j+i=fs.length/\Q 5= .g rt 0/\Q 69=sv/\Q 70= .d .i64 fs.length/\Q 71= .d .i64 i/\TabZ S W (fun r=>n.A r≠ .none) rt tb/\Kept S0 (fun _=>False) S W/\Kb fs ah=Kb (fs.drop i) tb;refine JD I fs.length (by omega) ((hI _ _ _).2 ⟨0,W3,ah,by omega,f5,rfl,rfl,by rfl,T4,bb,rfl⟩) ?_;clear f1 f5;intro j Q S am;obtain⟨i,W,tb,hj,f5,br,bn,bo,hT,hK,O⟩:=(hI _ _ _).1 am;by_cases hi:i<fs.length
  ·exact absurd hi (by grind)
  ·rw[Xm (by omega),Kb]at O;simp[XZ,bn,bo,hi];exact bm _ _ ⟨W,f5,by grind,hK,by rw[O]⟩
 clear f1 f5;rintro Q S ⟨W,f5,hT,hK,hz⟩;rw[Xa (fun h=>h hz)]at J;simp[XZ,f5];refine ad _ _ (aa hK) fun _=> ?_;rw[J];obtain⟨wS,F,bd,hF⟩:=hT;have hL:=bd.B;refine⟨rt,fun r=>W r\/(F r/\S.A r≠ .none),rfl,⟨wS,⟨W,_,hL,fun r h=>h⟩,fun r h=> ?_⟩,fun r h=> ?_⟩
 ·rcases h with h|h
  ·exact fun e=>(TabX.A ⟨wS,_,bd⟩ e) h
  grind
 ·by_cases e:n.A r= .none
  ·exact e
  ·rcases h with h|h
   ·exact absurd h (hK r (by rw[g0.d r e];exact e) fun h=>h).2
   grind
theorem JuV {S:St}{q:Tb}{l m w y J h:V}{K:List Ty}{j:List Nat}(g:Gr n S)(N:RN (bs s n) S z q i d l m w y J h e K j q.b)(P:j.length=z.a.length)(L:LstAt (NmC (fun r=>(bs s n).A r≠ .none) (bs s n)) (fun r=>(bs s n).A r≠ .none) (bs s n) h 5 z.a)(Q:∀r,(Bt i d l e r\/rowOf m=some r)->n.A r= .none)(v:∀r,s r->n.A r≠ .none):DT (fun _=>False) S (fun r=>s r\/Bt i d l e r\/rowOf m=some r) i z q:=by
 have k:∀r,(bs s n).A r≠ .none->s r/\S.A r=(bs s n).A r:=fun r f=>⟨(Jd6 f).1,by rw[Jhw (Jd6 f).1,g.d r (Jd6 f).2]⟩
 have M:∀r,(Bt i d l e r\/rowOf m=some r)->¬s r:=fun r b t=>v r t (Q r b);refine⟨g.D,⟨s,d,l,m,w,y,J,h,e,K,j,⟨N.a.F g.D (fun r f=>(k r f).1) (fun r b=>⟨M r (.inl b),rfl⟩) fun r f=>rfl,N.t,N.d.F fun r f=>⟨Jdl (M r (.inr f)),rfl⟩,N.c,N.e,N.b⟩,P,L.G (fun _ _ x=>x.A fun r p f=>k r f) fun r p f=>k r f,fun r t=> .inl (.inl t),fun r f=> ?_,fun r o=> .inl (.inr (.inl (.inr (.inr (.inr o)))))⟩,fun r u=> ?_⟩
 ·rcases f with f|f|f|f
  ·exact .inr (.inl (.inl f))
  ·exact .inr (.inl (.inr (.inl f)))
  ·exact .inr (.inl (.inr (.inr (.inl f))))
  ·exact .inr (.inr f)
 ·rcases u with(t|b|b)|u
  ·rw[g.d r (v r t)];exact v r t
  ·exact N.a.A r b
  ·exact N.d.A b
  ·exact u.elim
theorem Jc2 (c:St)(d:Fr)(a b i n:Nat)(Q:V->St->Prop):resP c d [.s a, .s b, .a i n] Q=wW (QV c n (d i)) c fun v c=>Q (.p [d a,d b,v]) c:=by
 have h:=jC d c n (.s i);have h:(Kn c n (d i)).map (fun l=>(V.j l,Eff.a))=QV c n (d i):=h;rw[<-h];simp[resP,Ql,jx]
 cases Kn c n (d i)<;>rfl
def Box6 (z:List V):Prop:=∃z0 z1 z2 z3 z4 z5,z=[z0,z1,z2,z3,z4,z5]/\((z0.B=true/\z0.A=some [z0])/\(z1.B=true/\z1.A=some [z1])/\(z2.B=true/\z2.A=some [z2])/\(z3.B=true/\z3.A=some [z3])/\(z4.B=true/\z4.A=some [z4])/\(z5.B=true/\z5.A=some [z5]))
def JuW (st S:St)(v:V):Prop:=∃z,Box6 z/\(v= .p [.s, .s, .j z]\/∃(rt ru:Pt) (s:Sch) (tb:Tb) (U Ud:Pt->Prop),v= .p [.g rt 0, .g ru 0, .j z]/\TabU S U rt tb/\DT (fun _=>False) S Ud ru s tb/\OfF s tb/\s.c=[]/\(∀nd∈tb.a,nd.b.length<=4)/\(∀r,U r->¬Ud r)/\(∀r,U r\/Ud r->st.A r= .none)/\SchC (fun _=>True) S z s/\newS s=(some tb,0))
theorem Jit (h:SchC s n t z):Box6 t:=by
 obtain⟨j,k,l,rfl,c,f,g⟩:=h;obtain⟨M,i⟩:∃M,M=z.b:=⟨_,rfl⟩
 rw[<-i]at c;obtain⟨m,o,p,rfl,d,a,q,r⟩:=c.B;exact⟨_,_,_,_,_,_,rfl,⟨rfl,rfl⟩,⟨rfl,rfl⟩,⟨d.B,d.A⟩,⟨a.B,a.A⟩,f.B,g.B⟩
theorem Jr1 {q1:Rw}{ts:List Rw}(hw:WF n)(h1:RwC (fun _=>True) n t q1)(h2:QH (fun _=>True) n d ts):
  Dz 6 [.j t,d, .e] n fun v S=>Gr n S/\JuW n S v:=by
 refine Jn tabM (aT Tryz.func6 rfl) rfl hw fun K ab=> ?_;have g1:=h1;obtain⟨av,aw,ax,rfl,_,_,_,a1,a2,_,_,_⟩:=h1.A;have c1:=a1.A;have s1:=a1.B;have c2:=a2.A;have s2:=a2.B;have h3:QH (fun _=>True) n .e []:=⟨[],SlAt.K _ _ _,rfl,by decide,fun i h=>absurd h (by simp)⟩
 obtain⟨n0,ad⟩:=nxE n;simp only[CT,Tryz.f6,XY,simprocAttr];rw[Ja];simp[XY,ad,s1,s2];generalize al:up 0 n0=p3;generalize am:up 1 n0=p8;refine nm2 hw ad al am ?_;intro S1 G1 ay az _ ⟨t3,r3⟩ ⟨t8,r8⟩;have z0:Box6 [.d .i64 0,ofL [], .e, .e, .e, .e]:=⟨_,_,_,_,_,_,rfl,⟨rfl,rfl⟩,⟨rfl,rfl⟩,⟨rfl,rfl⟩,⟨rfl,rfl⟩,⟨rfl,rfl⟩,⟨rfl,rfl⟩⟩
 have kf:∀{S:St} {f:Nat} {l:List V} {r:Pt},r≠p8->(S.D p8 f fun u=> .a u l).A r=S.A r:=fun{S f l r} x=>Jj _ _ _ x;have Q:∀{S:St} {f:Nat} {z:List V},Gr n S->Box6 z->K (.p [.s, .s, .j z]) (S.D p8 f fun u=> .a u z):=fun{S f z} g h=>ab _ _ (fun r x=>by rw[kf fun y=>x (by grind),g.d r x]) fun _=>⟨z,h, .inl rfl⟩
 rw[Jd,Ja];simp[XY,r3];refine Je (JrO G1.D (g1.F G1) (h2.F G1) (h3.F G1)) ?_;rintro _ S2 ⟨G2,fb,rfl⟩;have g2:=G1.A G2
 cases fb with
 | false=>
   simp[XZ,Jc2,G2.B r8]
   grind
 |true=>
 simp[XY];rw[Ja];simp[XY,G2.B r3];refine Je (Jux rfl G2.D (g1.F g2) (h2.F g2) (h3.F g2)) ?_;rintro _ S3 ⟨G3,e,rfl,hs⟩;obtain⟨s,X⟩:∃s,s=jH q1 ts []:=⟨_,rfl⟩
 rw[<-X]at hs⊢;have o:s.c=[]:=by rw[X];rfl
 have hb:=Jit hs;obtain⟨ae,z1,z2,z3,z4,z5,rfl,hz⟩:=hb;have hb:=Jit hs;have g3:=g2.A G3;obtain⟨n3,af⟩:=nxE S3;simp[XY,hz,af];generalize ao:up 0 n3=p9;refine nmA G3.D af ao ?_;intro S4 Y a0 ⟨t9,r9⟩;have g4:=g3.A Y;have Z:=Y.B (G3.B (G2.B r8));by_cases hr:refS s=0;rotate_left
 ·rw[Jd,Ja];simp[XY,hr];rw[Ja];simp[XZ,Jc2,r9,Z,hz]
  grind
 rw[Jd,Ja];simp[XY,hr];obtain⟨T,hT⟩:∃T:Pt->Prop,∀r,T r<->S2.A r= .none/\S3.A r≠ .none:=⟨fun r=>S2.A r= .none/\S3.A r≠ .none,fun r=>Iff.rfl⟩
 have aa:∀{S':St},Gr S4 S'->SchC T S' [ae,z1,z2,z3,z4,z5] s:=fun{S'} g=>hs.A fun r a b=>⟨(hT r).2 ⟨a,b⟩,(Y.A g).d r b⟩
 have ag:∀{S':St},Gr S4 S'->∀r,T r->S'.A r≠ .none:=fun{S'} g r a=>by rw[(Y.A g).d r ((hT r).1 a).2];grind
 have a3:∀r,T r->n.A r= .none:=fun r a=>g2.I ((hT r).1 a).1;rw[Ja];simp[XY,r9];refine Je (newU Y.D (aa (Gr.F Y.D)) o) ?_;rintro v S5 ⟨q,hv⟩;have M:=q.B r9;have ah:=q.B Z;have g5:=g4.A q;have ai:SchC (fun r=>(bs T S5).A r≠ .none) S5 [ae,z1,z2,z3,z4,z5] s:=(aa q).A fun r a b=>⟨by rw[Jhw a];exact b,rfl⟩
 cases m:newS s with
 |mk oo er=>
 unfold NewY at hv;rw[m]at hv
 cases oo with
 | none=>
   have hv:v= .p [.s, .d .i64 er]:=hv;have ap:=JnC m;subst hv;simp[XY];rw[Ja];simp[XY,M];refine Je (JsO q.D (Jp2 q.D) ai o) ?_;rintro w S6 ⟨J,k⟩;unfold Jf4 at k;rw[m]at k;have k:w= .p [.s, .d .i64 er]:=k;subst k;simp[XY];rw[Jd,Ja];simp[XY,ap];rw[Ja];simp[XZ,Jc2,J.B M,J.B ah,hz];exact Q (g5.A J) hb
 | some tb=>
   obtain⟨rfl,hO⟩:=Jm3 m;obtain⟨rt,U,rfl,aj,hU⟩:=hv;simp[XY];rw[Ja];simp[XY,M];refine Je (JsO q.D (Jp2 q.D) ai o) ?_;rintro w S6 ⟨J,k⟩;unfold Jf4 at k;rw[m]at k;obtain⟨ru,lv,tv,dv,nv,kv,sv,a4,O,tr,a5,rfl,N,aq,L,P⟩:=k;have D:=JuV J N aq L P (ag q);simp[XY];rw[Jd,Ja];simp[XY];have ar:=J.B ah;have g6:=g5.A J;rw[Ja];simp[XZ,Jc2,J.B M,ar,hz];have f4:∀r,S4.A r= .none->n.A r= .none:=fun r a=>g4.I a;have f5:∀r,S5.A r= .none->n.A r= .none:=fun r a=>g5.I a;have au:∀r,U r->r≠p8:=fun r a e=>Jb Z (by grind);have ak:∀r,(T r\/Bt ru lv tv O r\/rowOf dv=some r)->r≠p8:=fun r a e=>by
    rcases a with a|a
    ·have:=((hT r).1 a).1;rw[e,G2.B r8]at this
     grind
    grind
   refine ab _ _ (fun r x=>by rw[kf fun y=>x (by grind),g6.d r x]) fun g=>⟨_,hb, .inr ⟨rt,ru,s,tb,U,_,rfl, ?_,D.A g.D fun r u=>kf (u.elim (ak r) fun u=>u.elim),hO,o,Jtt (X▸m),fun r a b=> ?_,fun r a=> ?_,(aa (q.A J)).A fun r a b=>⟨trivial,kf (ak r (.inl a))⟩,m⟩⟩
   ·obtain⟨_,⟨W,F,q1,q2⟩,q3⟩:=aj.A J;exact⟨g.D,⟨W,F,q1.A fun r a b=>kf (au r (q2 r a)),q2⟩,fun r u=>by simp_all⟩
   ·rcases b with b|b
    ·exact ag (Gr.F Y.D) r b (hU r a)
    ·exact aj.2.2 r a (P r b)
   grind
def PlcH (m d:Nat):Prop:=∀(P:Pt->Prop) (S:St) (v:V) (l:List Nod) (a:Int) (q:Pipe->Prop),WF S->NodsC P S m d v l->fitL q d l->
 Dz 22 [v, .d .i64 a] S fun u S'=>Gr S S'/\∃w,u= .p [w, .d .i64 (plcL l a).2]/\NodsC (fun r=>P r\/S.A r= .none) S' m d w (plcL l a).1
theorem kdN (m d:Nat):Jkh fun Q a e x=>NodC Q a m d e x:=fun _ _ _ _ _ _ h k=>NodC.A k h
theorem kdC (m d:Nat):Jkh fun Q a e x=>CasC (NodC Q a m d) Q a e x:=fun _ _ _ _ _ _ h k=>h.A (fun _ _ h=>NodC.A k h) k
abbrev TrnN (P:Pt->Prop)(S:St)(m d:Nat)(S':St)(v:V)(l out:List Nod)(i:Nat)(es:List (List V)):Prop:=TrnS (NodC P S m d) (fun Q st e x=>NodC Q st m d e x) (fun _=>False) P S S' v 9 l out i es
abbrev TrnK (P:Pt->Prop)(S:St)(m d:Nat)(S':St)(v:V)(l out:List (Str×List Nod))(i:Nat)(es:List (List V)):Prop:=TrnS (CasC (NodC P S m d) P S) (fun Q st e x=>CasC (NodC Q st m d) Q st e x) (fun _=>False) P S S' v 2 l out i es
theorem Jnl (ih:∀d',d'+1=b->PlcH v d'):PlcH v b:=by
 intro P S c l a q hw hN hf;refine Jn tabM (aT Tryz.func22 rfl) rfl hw fun K bx=> ?_;obtain⟨bc,h1,h2,h3⟩:=hN;have ct:l.length<100000:=hf.1;have bz:okC bc:=fun e he=>by
  obtain⟨j,hj,rfl⟩:=XU.1 he;exact(h3 j hj (by omega)).F
 obtain⟨n0,az⟩:=nxE S;simp only[CT,Tryz.f22,XY,simprocAttr];rw[Ja];simp[XY];rw[Ja];simp only[XY,simprocAttr,az];obtain⟨x0,a2⟩:=exE (up 0 n0);obtain⟨S1,al⟩:=exE (S.B fun t=>Row.a t []);have G1:Gr S S1:=by rw[al];exact Gr.G hw (Jc _)
 obtain⟨tx,rx⟩:∃t,S1.A x0= .a t []:=⟨_,by rw[al,a2];exact Qi az _⟩
 have b0:S.A x0= .none:=by rw[a2];exact nx0 hw az 0
 rw[<-al,<-a2];clear al;have b2:SlF S S1 (.m x0 0 0 9 0) 9 []:=⟨by simp, .inr ⟨x0,tx,b0,by grind, .inr rfl⟩⟩
 refine Qj (S0:=S) G1 b2 (h1.I G1) bz (by omega) (by simp;omega) fun S2 ov G2 be cs b5=> ?_;simp at be;simp only[XY,simprocAttr];refine Ju (fun O S'=>∃es,O 1= .d .i64 (plcL l a).2/\O 6=ov/\TrnN P S v b S' ov l (plcL l a).1 l.length es) (fun J hJ=> ?_) ?_;rotate_left
 ·rintro O S3 ⟨es,f1,f6,T⟩;have hl:=T.M (kdN v b) (jr l a);rw[Ja];simp[XZ,f1,f6];refine bx _ _ (fun r e=>T.g.d r e id) fun g=>⟨_,rfl,hl⟩
 ·rw[Ja];simp[XY];refine Jo (fun j O S'=>∃(i:Nat) (es:List (List V)),j+i=l.length/\O 1= .d .i64 (plcL (l.take i) a).2/\O 6=ov/\O 7= .d .i64 (i:Nat)/\TrnN P S v b S' ov l (plcL (l.take i) a).1 i es) l.length (by omega) ⟨0,bc,by omega,by simp[plcL,XZ],by simp[XZ],by simp[XZ]<;>rfl,TrnS.G (Ch.H _ G2) be h2 h3⟩ ?_;rintro L hL j O S3 ⟨i,es,hj,f1,f6,f7,T⟩;have bf:=T.K;by_cases hi:i<l.length;rotate_left
  ·simp[XZ,f6,f7,bf,hi];have:i=l.length:=by omega
   subst this;rw[XE]at f1 T;exact hJ _ _ ⟨es,f1,f6,T⟩
  have a3:=wiN (i:=i) (by omega);have W:i<es.length:=by rw[T.s];exact hi
  obtain⟨b,rfl⟩:∃d',b=d'+1:=by
   cases b with
   |zero=>exact(T.m i W hi (Xb _)).elim
   |succ b=>exact⟨b,rfl⟩
  have ho:(plcL (l.take i) a).1.length=i:=by rw[jr,XS];omega
  have bg:=T.m i W hi (Xb _);have U:=Jhy (l.take i) l[i] a;rw[<-Xn hi]at U;generalize hx:l[i]=x at bg U;have b6:fitN q (b+1) x:=hx▸hf.2 _ (Xh hi);generalize cu:(plcL (l.take i) a).2=at_ at f1 U;generalize cx:(plcL (l.take i) a).1=aa at T ho U;obtain⟨k,a0,s,nm,p,au,ca,he,cases⟩:=x;obtain⟨pv,bv,ev,cv,cb,hp,hb,bh,cc⟩:=bg;obtain⟨_,_,bi,bj,bk⟩:=b6;have T1:TrnN P S v (b+1) S3 ov l aa (i+1) (es.set i es[i]):=by rw[Zp];exact T.I
  rw[cb]at T1;obtain⟨Y,t1,F1,c1,c2,c3,c4,c6,c7,c8,c9⟩:=T1.A (kdN v (b+1)) W;rw[Jd,Ja];simp[XY,f6,f7,bf,hi];rw[Jd];simp[XY];rw[Ja];simp[XY,f1];rw[plcN]at U;generalize cy:IntKind.i64.wrap (at_+3)=a1 at U;rw[Ja];simp[XN,f6,f7,c4,c3];refine⟨by have:=c8 2 (by decide);omega, ?_⟩;refine nmW T1.g.D c3 ?_;intro S4 C4 r4;have T2:TrnN P S v (b+1) S4 ov l aa (i+1) (es.set i [.d .i64 k, .d .i64 a1,ofL s,ofL nm,pv,bv,ev, .h he,cv]):=c9 S4 1 [.d .i64 a1] (by simp) (by omega) (by omega) C4 r4;have am:∀{S':St},Ch (fun _=>False) S S'->∀r,P r->S.A r≠ .none->(P r/\S.A r≠ .none)/\S'.A r=S.A r:=fun g r p e=>⟨⟨p,e⟩,g.d r e id⟩
  obtain⟨q2,t2,F2,b1,_,Z,_,_,b7,_,_⟩:=T2.A (kdN v (b+1)) W;obtain rfl:Y=q2:=by grind
  have l5:=b7 5 (by simp);rw[Ja];simp[XY,f6,f7,c4,l5];refine Je (ih b rfl (fun r=>P r/\S.A r≠ .none) S4 bv au a1 q T2.g.D (NodsC.A hb (am T2.g)) ⟨bi.1,bi.2⟩) ?_;rintro _ S5 ⟨G5,wb,rfl,a4⟩;have T3:=T2.N (kdN v (b+1)) G5;obtain⟨q2,t3,F3,b1,_,Z,b4,_,b7,b8,b9⟩:=T3.A (kdN v (b+1)) W;obtain rfl:Y=q2:=by grind
  have y1:=(LstAt.B a4).1;have y2:=(LstAt.B a4).2;simp[XN,f6,f7,b4,Z,y1,y2];refine⟨by have:=b8 6 (by decide);omega, ?_⟩;refine nmW T3.g.D Z ?_;intro S6 C6 r6;have T4:TrnN P S v (b+1) S6 ov l aa (i+1) (es.set i [.d .i64 k, .d .i64 a1,ofL s,ofL nm,pv,wb,ev, .h he,cv]):=b9 S6 5 [wb] (by simp) (by omega) (by omega) C6 r6;generalize cz:(plcL au a1).2=aB at U;obtain⟨q2,t4,F4,d1,_,d3,d4,_,d7,_,_⟩:=T4.A (kdN v (b+1)) W;obtain rfl:Y=q2:=by grind
  have l8:ld1 (S6.A Y) (i*9+8)=some (cv, .a):=d7 8 (by simp);obtain⟨n6,ao⟩:=nxE S6;have o6:=fun k=>nes (Jt T4.g.D ao (Jb d3) k);obtain⟨av,k1,k2,k3⟩:=cc;have bl:okC av:=fun e he=>by
   obtain⟨j,hj,rfl⟩:=XU.1 he;exact(k3 j hj (by omega)).F
  have c0:cases.length<100000:=bk.1;rw[Ja];simp only[XY,simprocAttr,f6,f7,d4,ao,o6,l8];obtain⟨x7,a5⟩:=exE (up 0 n6);obtain⟨S7,ap⟩:=exE (S6.B fun t=>Row.a t []);have G7:Gr S6 S7:=by rw[ap];exact Gr.G T4.g.D (Jc _)
  obtain⟨t7,r7⟩:∃t,S7.A x7= .a t []:=⟨_,by rw[ap,a5];exact Qi ao _⟩
  have cd:S6.A x7= .none:=by rw[a5];exact nx0 T4.g.D ao 0
  rw[<-ap,<-a5];clear ap;have ce:SlF S6 S7 (.m x7 0 0 2 0) 2 []:=⟨by simp, .inr ⟨x7,t7,cd,by grind, .inr rfl⟩⟩
  refine Qj (S0:=S6) G7 ce (k1.D (Q:=fun _=>True) (st':=S7) fun r p e=>⟨trivial,(T4.g.I G7).d r e id⟩) bl (by omega) (by simp;omega) fun S8 cw G8 aw cf bw=> ?_;simp at aw;simp only[XY,simprocAttr];refine Ju (fun O S'=>∃w,O 1= .d .i64 (plcC cases aB).2/\O 6=ov/\O 7= .d .i64 (i:Nat)/\O 8=cw/\TrnK (fun r=>P r/\S.A r≠ .none) S6 v b S' cw cases (plcC cases aB).1 cases.length w) (fun J2 cg=> ?_) ?_;rotate_left
  ·rintro ch S9 ⟨w,g1,g6,g7,g8,K9⟩;have T6:=T4.X (kdN v (b+1)) K9.g;have a6:=K9.M (kdC v b) (JcO cases aB);generalize c5:(plcC cases aB).2=aC at U g1;obtain⟨q2,t9,F9,b1,_,Z,b4,_,b7,b8,b9⟩:=T6.A (kdN v (b+1)) W;obtain rfl:Y=q2:=by grind
   have y1:=(LstAt.B a6).1;have y2:=(LstAt.B a6).2;refine Jcp (fun O S'=>O 1= .d .i64 aC/\O 6=ov/\O 7= .d .i64 (i:Nat)/\Ch (fun p=>p=Y) S9 S'/\TrnN P S v (b+1) S' ov l aa (i+1) (es.set i [.d .i64 k, .d .i64 a1,ofL s,ofL nm,pv,wb,ev, .h he,cw])) (fun J3 cj=> ?_) ?_
   ·simp[XN,g6,g7,g8,b4,Z,y1,y2];refine⟨by have:=b8 9 (by decide);omega, ?_⟩;have aq:=(Ch.G (fun p=>p=Y) T6.g.D).J (f:=fun u=> .a u (Jw F9 (i*9+8) [cw])) (Jb Z) (congrArg _ Z) (.inl rfl) (Jc _);exact cj _ _ ⟨g1,g6,g7,aq,b9 _ 8 [cw] (by simp) (by omega) (by omega) aq ⟨_,Jh _ _ _ _⟩⟩
   clear y1 y2 Z b4 b7 b8 b9 F9;rintro ax ab ⟨g1,g6,g7,aq,T7⟩;obtain⟨q2,da,bm,b1,_,Z,b4,_,b7,_,_⟩:=T7.A (kdN v (b+1)) W;obtain rfl:Y=q2:=by grind
   have l6:ld1 (ab.A Y) (i*9+6)=some (ev, .a):=b7 6 (by simp);simp[XY,g1,g6,g7,b4,l6];refine Je (ih b rfl (fun r=>P r/\S.A r≠ .none) ab ev ca aC q T7.g.D (NodsC.A bh (am T7.g)) ⟨bj.1,bj.2⟩) ?_;rintro _ ad ⟨bn,we,rfl,a7⟩;have bo:ab.A Y≠ .none:=by rw[Z];exact fun h=>by cases h
   have T8:=T7.N (kdN v (b+1)) bn;obtain⟨q2,ck,cl,b1,_,Z,b4,_,_,b8,b9⟩:=T8.A (kdN v (b+1)) W;obtain rfl:Y=q2:=by grind
   have y1:=(LstAt.B a7).1;have y2:=(LstAt.B a7).2;simp[XN,g6,g7,b4,Z,y1,y2,a3];obtain⟨ah,ai⟩:∃ah,ah=ad.D Y ck fun u=> .a u (Jw cl (i*9+6) [we]):=⟨_,rfl⟩
   have ar:Ch (fun p=>p=Y) ad ah:=by rw[ai];exact(Ch.G _ T8.g.D).J (Jb Z) (by rw[Z];rfl) (.inl rfl) (Jc _)
   rw[<-ai];have T9:TrnN P S v (b+1) ah ov l aa (i+1) (es.set i [.d .i64 k, .d .i64 a1,ofL s,ofL nm,pv,wb,we, .h he,cw]):=b9 _ 6 [we] (by simp) (by omega) (by omega) ar ⟨_,by rw[ai];exact Jh _ _ _ _⟩;refine⟨by have:=b8 7 (by decide);omega,l.length-(i+1),by omega,hL _ _ _ ⟨i+1,es.set i [.d .i64 k, .d .i64 a1,ofL s,ofL nm,pv,wb,we, .h he,cw],by omega,by rw[U];rfl,g6,rfl, ?_⟩⟩;rw[U];simp only;have a8:Ch (fun p=>p=Y) S9 ah:=((aq.I bn).A ar fun r e=> .inl e)
   have H5:=((C6.A K9.g fun r f=>f.elim)).A a8 fun r e=> .inl e;have cm:∀r,S4.A r= .none->S.A r= .none/\rowOf ov≠some r/\r≠Y:=fun r e=>⟨T2.g.B e,(fun o=>by
    rw[c1]at o;injection o with o;subst o;rw[r4.choose_spec]at e;cases e),fun o=>by rw[o,r4.choose_spec]at e;cases e⟩
   have ax:∀r,ab.A r= .none->S.A r= .none/\rowOf ov≠some r/\r≠Y:=fun r e=>⟨T7.g.B e,(fun o=>by
    rw[c1]at o;injection o with o;subst o;exact absurd e bo),fun o=>bo (o▸e)⟩
   have cn:∀r,S6.A r= .none->S.A r= .none/\rowOf ov≠some r/\r≠Y:=fun r e=>⟨T4.g.B e,(fun o=>by
    rw[c1]at o;injection o with o;subst o;rw[d3]at e;cases e),fun o=>by rw[o,d3]at e;cases e⟩
   have nq:∀r,S.A r≠ .none->r≠Y:=fun r e o=>e (o▸c2);rw[<-ho]at T9⊢;have a9:aa.length<(es.set aa.length [V.d .i64 k, .d .i64 a1,ofL s,ofL nm,pv,wb,we, .h he,cw]).length:=by simp;omega
   refine T9.J a9 ?_;rw[X9];refine⟨pv,wb,we,cw,rfl,PipC.A hp fun r p e=>⟨.inl ⟨p,e⟩,T9.g.d r e id⟩,NodsC.A a4 fun r p e=> ?_,NodsC.A a7 fun r p e=> ?_,LstAt.G a6 (fun e x h=>kdC v b _ _ _ _ _ _ h fun r p e=> ?_) fun r p e=> ?_⟩
   ·rcases p with p|p
    ·exact⟨.inl p,H5.d r e (nq r p.2)⟩
    ·obtain⟨x,y,z⟩:=cm r p;exact⟨.inr ⟨x,y⟩,H5.d r e z⟩
   ·rcases p with p|p
    ·exact⟨.inl p,ar.d r e (nq r p.2)⟩
    ·obtain⟨x,y,z⟩:=ax r p;exact⟨.inr ⟨x,y⟩,ar.d r e z⟩
   all_goals
    rcases p with p|p
    ·exact⟨.inl p,a8.d r e (nq r p.2)⟩
    ·obtain⟨x,y,z⟩:=cn r p;exact⟨.inr ⟨x,y⟩,a8.d r e z⟩
  ·rw[Ja];simp[XY];refine Jo (fun j O S'=>∃(n:Nat) (w:List (List V)),j+n=cases.length/\O 1= .d .i64 (plcC (cases.take n) aB).2/\O 6=ov/\O 7= .d .i64 (i:Nat)/\O 8=cw/\O 9= .d .i64 (n:Nat)/\TrnK (fun r=>P r/\S.A r≠ .none) S6 v b S' cw cases (plcC (cases.take n) aB).1 n w) cases.length (by omega) ⟨0,av,by omega,by simp[plcC,XZ],by simp[XZ,f6],by simp[XZ,f7],by simp[XZ],by simp[XZ]<;>rfl,TrnS.G (Ch.H _ G8) aw k2 fun j x y=>(k3 j x y).A (fun e x h=>NodC.A (am T4.g) h) (am T4.g)⟩ ?_;rintro L2 co j2 ch S9 ⟨n,w,db,g1,g6,g7,g8,g9,K9⟩;have bp:=K9.K;by_cases hn:n<cases.length;rotate_left
   ·simp[XZ,g8,g9,bp,hn];have:n=cases.length:=by omega
    subst this;rw[XE]at g1 K9;exact cg _ _ ⟨w,g1,g6,g7,g8,K9⟩
   have bq:=wiN (i:=n) (by omega);have ba:n<w.length:=by rw[K9.s];exact hn
   have br:(plcC (cases.take n) aB).1.length=n:=by rw[JcO,XS];omega
   have ay:=K9.m n ba hn (Xb _);have af:=Jhz (cases.take n) cases[n] aB;rw[<-Xn hn]at af;have bt:=bk.2 _ (Xh hn);generalize cases[n]=y at ay af bt;generalize (plcC (cases.take n) aB).2=an at g1 af;generalize (plcC (cases.take n) aB).1=ae at K9 br af;obtain⟨tg,bd⟩:=y;obtain⟨bu,cp,cq⟩:=ay;have K1:TrnK (fun r=>P r/\S.A r≠ .none) S6 v b S9 cw cases ae (n+1) (w.set n w[n]):=by rw[Zp];exact K9.I
   rw[cp]at K1;obtain⟨u1,_,F9,e1,o,e3,e4,_,e7,_,_⟩:=K1.A (kdC v b) ba;have l1:ld1 (S9.A u1) (n*2+1)=some (bu, .a):=e7 1 (by simp);rw[Jd,Ja];simp[XY,g8,g9,bp,hn];rw[Jd];simp[XY,g1,g8,g9,e4,l1];refine Je (ih b rfl (fun r=>(P r/\S.A r≠ .none)/\S6.A r≠ .none) S9 bu bd an q K9.g.D (NodsC.A cq fun r p e=>⟨⟨p,e⟩,K9.g.d r e id⟩) bt) ?_;rintro _ ab ⟨cr,ag,rfl,aj⟩;have K2:=K1.N (kdC v b) cr;obtain⟨u2,t2,bm,b1,_,Z,b4,_,_,b8,b9⟩:=K2.A (kdC v b) ba;obtain rfl:u1=u2:=by grind
   have y1:=(LstAt.B aj).1;have y2:=(LstAt.B aj).2;simp[XN,g8,g9,b4,Z,y1,y2,bq];obtain⟨ad,ak⟩:∃ad,ad=ab.D u1 t2 fun u=> .a u (Jw bm (n*2+1) [ag]):=⟨_,rfl⟩
   have bb:Ch (fun p=>p=u1) ab ad:=by rw[ak];exact(Ch.G _ K2.g.D).J (Jb Z) (by rw[Z];rfl) (.inl rfl) (Jc _)
   rw[<-ak];have K3:TrnK (fun r=>P r/\S.A r≠ .none) S6 v b ad cw cases ae (n+1) (w.set n [ofL tg,ag]):=b9 _ 1 [ag] (by simp) (by omega) (by omega) bb ⟨_,by rw[ak];exact Jh _ _ _ _⟩;refine⟨by have:=b8 2 (by decide);omega,cases.length-(n+1),by omega,co _ _ _ ⟨n+1,w.set n [ofL tg,ag],by omega,by rw[af];rfl,g6,g7,g8,rfl, ?_⟩⟩;rw[af];simp only;rw[<-br]at K3⊢;have a9:ae.length<(w.set ae.length [ofL tg,ag]).length:=by simp;omega
   refine K3.J a9 ?_;rw[X9];refine⟨ag,rfl,NodsC.A aj fun r p e=> ?_⟩;rcases p with p|p
   ·exact⟨.inl p,bb.d r e fun z=>p.2 (z▸o)⟩
   ·have z:r≠u1:=fun z=>by rw[z,e3]at p;cases p
    exact⟨.inr ⟨K1.g.B p,fun o=>z (by rw[e1]at o;injection o with o;exact o.symm)⟩,bb.d r e z⟩
theorem Jr2 (m:Nat):∀d,PlcH m d:=by
 intro d
 induction d with
 |zero=>exact Jnl fun a h=>by omega
 |succ d b=>exact Jnl fun a h=>(GK h)▸b
def CpyH (d:Nat):Prop:=∀(P:Pt->Prop) (S:St) (v:V) (p:Pipe),WF S->PipC P S d v p->fitP d p->
 Dz 85 [v] S fun u S'=>Gr S S'/\PipC (fun r=>P r\/S.A r= .none) S' d u p
theorem kdO (d:Nat):Jkh fun Q a e x=>OprC Q a d e x:=fun _ _ _ _ _ _ h k=>OprC.A k h
theorem kdR (d:Nat):Jkh fun Q a e (x:List Opn)=>Jbt (OprC Q a d) Q a 7 e x:=fun _ _ _ _ _ _ h k=>h.A (fun _ _ h=>OprC.A k h) k
abbrev TrnR (P:Pt->Prop)(S:St)(d:Nat)(S':St)(v:V)(l out:Pipe)(i:Nat)(es:List (List V)):Prop:=TrnS (Jbt (OprC P S d) P S 7) (fun Q st e (x:List Opn)=>Jbt (OprC Q st d) Q st 7 e x) (fun _=>False) P S S' v 1 l out i es
abbrev TrnO (W P:Pt->Prop)(S:St)(d:Nat)(S':St)(v:V)(l out:List Opn)(i:Nat)(es:List (List V)):Prop:=TrnS (OprC P S d) (fun Q st e x=>OprC Q st d e x) W P S S' v 7 l out i es
theorem Js0 (ih:∀d',d'+1=v->CpyH d'):CpyH v:=by
 intro P S b p hw hN hf;refine Jn tabM (aT Tryz.func85 rfl) rfl hw fun K bz=> ?_;obtain⟨ay,h1,h2,h3⟩:=hN;have cn:p.length<100000:=hf.1;have b0:okC ay:=fun e he=>by
  obtain⟨j,hj,rfl⟩:=XU.1 he;exact(h3 j hj (by omega)).F
 simp only[CT,Tryz.f85,XY,simprocAttr];rw[Ja];simp[XY];rw[Ja];simp[XY];refine Je (jW (by simp) hw h1 b0 (by omega)) ?_;rintro ov S1 ⟨G1,b2⟩;have T0:TrnR P S v S1 ov p [] 0 ay:=TrnS.G (Ch.H _ G1) b2 h2 h3;have b5:=T0.K;simp[XY];refine Ju (fun l S'=>∃es,l 3=ov/\TrnR P S v S' ov p p p.length es) (fun J hJ=> ?_) ?_;rotate_left
 ·rintro l S3 ⟨es,f3,T⟩;have hl:=T.M (kdR v) rfl;rw[Ja];simp[XZ,f3];exact bz _ _ (fun r e=>T.g.d r e id) fun g=>hl
 ·rw[Ja];simp[XY,b5];refine Jo (fun j l S'=>∃(i:Nat) (es:List (List V)),j+i=p.length/\l 3=ov/\l 10=ov/\l 11= .d .i64 (p.length:Nat)/\l 12= .d .i64 (i:Nat)/\TrnR P S v S' ov p (p.take i) i es) p.length (by omega) ⟨0,ay,by omega,by simp[XZ],by simp[XZ],by simp[XZ],by simp[XZ]<;>rfl,T0⟩ ?_;rintro L hL j l S3 ⟨i,es,hj,f3,a8,az,am,T⟩;by_cases hi:i<p.length;rotate_left
  ·rw[Ja];simp[XZ,az,am,hi];have:i=p.length:=by omega
   subst this;rw[XE]at T;exact hJ _ _ ⟨es,f3,T⟩
  have a0:=wiN (i:=i) (by omega);have ao:i<es.length:=by rw[T.s];exact hi
  have a9:=T.m i ao hi (Xb _);have a1:=Xn hi;have ba:(p.take i).length=i:=by rw[XS];omega
  have bc:=hf.2 _ (Xh hi);generalize p[i]=c at a9 a1 bc;generalize p.take i=af at T ba a1;obtain⟨vv,b6,a2,o1,o2,o3⟩:=a9;have T1:TrnR P S v S3 ov p af (i+1) (es.set i es[i]):=by rw[Zp];exact T.I
  rw[b6]at T1;obtain⟨f,t1,F1,c1,c2,c3,c4,c6,_⟩:=T1.A (kdR v) ao;simp only[ZM]at c4 c6;obtain⟨n3,a3⟩:=nxE S3;have ca:=o1.B;have co:=fun k=>nes (Jt T.g.D a3 (Jb c3) k);rw[Ja];simp[XY,az,am,hi];rw[Jd];simp[XY];rw[Jd];simp[XY];rw[Ja];simp[XY,a8,am,c4,c6,a3,ca];generalize cb:up 0 n3=p5;refine nmA T.g.D a3 cb ?_;intro W G4 cp ⟨t5,r5⟩;have T4:=T1.N (kdR v) G4;obtain⟨q2,t4,F4,b1,_,b3,b4,_,_,b8,b9⟩:=T4.A (kdR v) ao;obtain rfl:f=q2:=by grind
  simp only[ZM]at b4 b8 b9;have bd:okC a2:=fun e he=>by
   obtain⟨j,hj,rfl⟩:=XU.1 he;exact(o3 j hj (by omega)).J
  have be:∀r,P r->S.A r≠ .none->(P r/\S.A r≠ .none)/\W.A r=S.A r:=fun r p e=>⟨⟨p,e⟩,T4.g.d r e id⟩
  have nq:∀r,S.A r≠ .none->r≠f:=fun r e O=>e (O▸c2);rw[Ja];simp[XY,f3,r5];refine Je (jW (by simp) G4.D (o1.D be) bd (by omega)) ?_;rintro w S5 ⟨G5,ab⟩;have bf:=G5.B b3;have w1:=ab.D.B;have w2:=ab.D.A;simp[XN,f3,b4,bf,w1,w2];refine⟨by have:=b8 1 (by decide);omega, ?_⟩;refine nmW G5.D bf ?_;intro S6 C6 ⟨t6,r6⟩;have bg:rowOf w≠some f:=fun e=>by
   have:=(ab.H e).1;rw[b3]at this
   cases this
  have bh:Ch (fun r=>r=f) W S6:=(Ch.H _ G5).A C6 fun r e=> .inl e;have bi:SlF W S6 w 7 a2:=ab.B fun r e=>C6.d r (ab.A e) fun O=>bg (O▸e);have T6:TrnR P S v S6 ov p af (i+1) (es.set i [w]):=b9 S6 0 [w] (by simp) (by omega) (by omega) bh ⟨t6,r6⟩;obtain⟨q2,t7,F6,b1,_,_,_,_,b7,_,_⟩:=T6.A (kdR v) ao;obtain rfl:f=q2:=by grind
  have l0:ld1 (S6.A f) i=some (w, .a):=by have:=b7 0 (by simp);rw[ZM]at this;exact this
  clear T6 b7;have cc:J8 w=some (.d .i64 (c.length:Nat), .a):=by rw[ab.D.G,o2]
  rw[Ja];simp[XY,f3,b4,l0,cc];refine Jo (fun j l S'=>∃(n:Nat) (os:List (List V)),j+n=c.length/\l 3=ov/\l 4= .d .i64 (i:Nat)/\l 10=ov/\l 11= .d .i64 (p.length:Nat)/\l 12= .d .i64 (i:Nat)/\l 28=w/\l 29= .d .i64 (c.length:Nat)/\l 30= .d .i64 (n:Nat)/\S'.A f=S6.A f/\TrnO (fun r=>r=f) (fun r=>P r/\S.A r≠ .none) W v S' w c (c.take n) n os) c.length (by omega) ⟨0,a2,by omega,by simp[XZ,f3],by simp[XZ],by simp[XZ,a8],by simp[XZ,az],by simp[XZ,am],by simp[XZ],by simp[XZ],by simp[XZ]<;>rfl,rfl,TrnS.G bh bi o2 fun j x y=>OprC.A be (o3 j x y)⟩ ?_;rintro L2 cd j2 cq S9 ⟨n,os,cr,g3,g4,bj,bk,bl,bm,a4,ap,rq,K9⟩;by_cases hn:n<c.length;rotate_left
  ·have:n=c.length:=by omega
   subst this;rw[XE]at K9;have ce:Ch (fun r=>r=f) W S9:=K9.g;have T9:TrnR P S v S9 ov p af (i+1) (es.set i [w]):=b9 S9 0 [w] (by simp) (by omega) (by omega) ce ⟨t6,rq.trans r6⟩;have bn:=K9.M (kdO v) rfl;rw[Ja];simp[XZ,a4,ap,bl,a0];refine⟨p.length-(i+1),by omega,hL _ _ _ ⟨i+1,es.set i [w],by omega,g3,bj,bk,rfl, ?_⟩⟩;rw[a1];rw[<-ba]at T9⊢;have a5:af.length<(es.set af.length [w]).length:=by simp;omega
   refine T9.J a5 ?_;rw[X9];have z:∀r,((P r/\S.A r≠ .none)\/W.A r= .none)->S9.A r≠ .none->(P r/\S.A r≠ .none\/S.A r= .none/\rowOf ov≠some r)/\S9.A r=S9.A r:=fun r h e=>⟨h.imp id fun h=>⟨T4.g.B h,fun O=>by rw[c1]at O;injection O with O;subst O;rw[b3]at h;cases h⟩,rfl⟩
   exact⟨w,rfl,LstAt.G bn (fun e x h=>OprC.A z h) z⟩
  have bo:=wiN (i:=n) (by omega);have aq:n<os.length:=by rw[K9.s];exact hn
  have bp:(c.take n).length=n:=by rw[XS];omega
  have ag:=K9.m n aq hn (Xb _);have a6:=Xn hn;have ar:=bc.2 _ (Xh hn);generalize c[n]=o at ag a6 ar;generalize c.take n=Q at K9 bp a6;obtain⟨v,rfl⟩:∃d',v=d'+1:=by
   cases v with
   |zero=>exact ag.elim
   |succ v=>exact⟨v,rfl⟩
  obtain⟨k,au,ax,sx,nn,bb,a7⟩:=o;obtain⟨pv,qv,cf,bq,br⟩:=ag;have cg:ax.length<100000/\fitP v a7:=⟨ar.1,ar.2.1,ar.2.2⟩
  have K1:TrnO (fun r=>r=f) (fun r=>P r/\S.A r≠ .none) W (v+1) S9 w c Q (n+1) (os.set n os[n]):=by rw[Zp];exact K9.I
  rw[cf]at K1;obtain⟨u1,tu,Fu,e1,O,e3,e4,e6,_⟩:=K1.A (kdO (v+1)) aq;have ch:=bq.B;have cj:=(LstAt.B br).1;obtain⟨n9,bt⟩:=nxE S9;rw[Ja];simp[XY,a4,ap,hn];rw[Jd];simp[XY];rw[Jd];simp[XY];rw[Ja];simp[XY,bm,ap,e4,e6,bt,ch,cj];generalize ck:up 0 n9=p7;refine nmAW (R:=fun S'=>wW _ S' _) K9.g.D bt ck ?_;intro X Y cs ⟨t7,r7⟩;have bu:ld1 (X.A f) i=some (w, .a):=by rw[Y.d f (by rw[rq,r6];exact fun h=>by cases h),rq];exact l0
  have cl:ld1 (X.A p7) 2=some (pv, .a):=by rw[r7];rfl
  have cm:ld1 (X.A p7) 6=some (qv, .a):=by rw[r7];rfl
  simp[XN,g3,g4,b4,bu,cl];have aa:∀r,(P r/\S.A r≠ .none)->W.A r≠ .none->((P r/\S.A r≠ .none)/\W.A r≠ .none)/\X.A r=W.A r:=fun r p e=>⟨⟨p,e⟩,by
   have h9:=K9.g.d r e (nq r p.2);rw[Y.d r (by rw[h9];exact e),h9]⟩
  refine Ji (jW (by simp) (Jq Y.D X.t) ((bq.D aa).L X.t) (Ya _) (by rw[Jv];omega)) ?_;rintro w1 q ad ah;have ah:SlF X q w1 1 (strs ax):=ah;have bv:ld1 (q.A p7) 6=some (qv, .a):=by rw[ad.d p7 (Jb r7)];exact cm
  simp[XN,bv];refine Ji (ih v rfl (fun r=>(P r/\S.A r≠ .none)/\W.A r≠ .none) {q with a:=q.t} qv a7 (Jq ad.D q.t) (PipC.A (st':={q with a:=q.t}) br fun r p e=>⟨(aa r p e).1,by
   show q.A r=_;rw[ad.d r (by rw[(aa r p e).2];exact e),(aa r p e).2]⟩) cg.2) ?_
  rintro w2 ae av ai;have ai:PipC (fun r=>((P r/\S.A r≠ .none)/\W.A r≠ .none)\/q.A r= .none) ae v w2 a7:=PipC.A ai fun r p e=>⟨p,rfl⟩
  have y1:=ah.D.B;have y2:=ah.D.A;have y3:=(LstAt.B ai).1;have y4:=(LstAt.B ai).2;have K2:=K1.N (kdO (v+1)) (Y.A (ad.A av));obtain⟨u2,t2,F2,z1,_,z3,z4,_,_,z8,z9⟩:=K2.A (kdO (v+1)) aq;obtain rfl:u1=u2:=by grind
  simp[XN,z3,z4,y1,y2,y3,y4,ap,bo];obtain⟨U,aj⟩:∃U,U=ae.D u1 t2 fun u=> .a u (Jw F2 (n*7+2) [w1]):=⟨_,rfl⟩
  have bw:Ch (fun r=>r=u1) ae U:=by rw[aj];exact(Ch.G _ K2.g.D).J (Jb z3) (by rw[z3];rfl) (.inl rfl) (Jc _)
  have ak:U.A u1= .a ae.t (Jw F2 (n*7+2) [w1]):=by rw[aj];exact Jh _ _ _ _
  have K3:TrnO (fun r=>r=f) (fun r=>P r/\S.A r≠ .none) W (v+1) U w c Q (n+1) (os.set n [.d .i64 k,ofL au,w1,ofL sx, .d .i64 nn, .h bb,qv]):=z9 U 2 [w1] (by simp) (by omega) (by omega) bw ⟨_,ak⟩;obtain⟨u2,t3,F3,x1,_,x3,_,_,_,x8,x9⟩:=K3.A (kdO (v+1)) aq;obtain rfl:u1=u2:=by grind
  obtain rfl:F3=Jw F2 (n*7+2) [w1]:=by rw[x3]at ak;injection ak
  obtain⟨Z,al⟩:∃Z,Z=U.D u1 ae.t fun u=> .a u (Jw (Jw F2 (n*7+2) [w1]) (n*7+6) [w2]):=⟨_,rfl⟩
  have bx:Ch (fun r=>r=u1) U Z:=by rw[al];exact(Ch.G _ K3.g.D).J (Jb ak) (by rw[ak];rfl) (.inl rfl) (Jc _)
  have K4:TrnO (fun r=>r=f) (fun r=>P r/\S.A r≠ .none) W (v+1) Z w c Q (n+1) (os.set n [.d .i64 k,ofL au,w1,ofL sx, .d .i64 nn, .h bb,w2]):=x9 Z 6 [w2] (by simp) (by omega) (by omega) bx ⟨_,by rw[al];exact Jh _ _ _ _⟩;rw[<-aj,<-al];have uq:f≠u1:=fun e=>bg (by rw[e1,e]);have aw:Ch (fun r=>r=u1) ae Z:=bw.A bx fun r e=> .inl e;have q9:S9.A f≠ .none:=by rw[rq,r6];exact fun h=>by cases h
  have gq:Z.A f=S6.A f:=by
   have g9:=(Y.A (ad.A av)).d f q9;rw[aw.d f (by rw[g9];exact q9) uq,g9,rq]
  refine⟨by have:=z8 3 (by decide);omega,by have:=x8 7 (by decide);omega,c.length-(n+1),by omega,cd _ _ _ ⟨n+1,os.set n [.d .i64 k,ofL au,w1,ofL sx, .d .i64 nn, .h bb,w2],by omega,g3,g4,bj,bk,bl,bm,a4,rfl,gq, ?_⟩⟩;rw[a6];rw[<-bp]at K4⊢;have a5:Q.length<(os.set Q.length [V.d .i64 k,ofL au,w1,ofL sx, .d .i64 nn, .h bb,w2]).length:=by simp;omega
  refine K4.J a5 ?_;rw[X9];have l:∀r,S9.A r= .none->W.A r= .none/\rowOf w≠some r/\r≠u1:=fun r e=>⟨K9.g.B e,(fun O=>by
   rw[e1]at O;injection O with O;subst O;rw[e3]at e;cases e),fun O=>by rw[O,e3]at e;cases e⟩
  refine⟨w1,w2,rfl,ah.D.D fun r p e=> ?_,PipC.A ai fun r p e=> ?_⟩
  ·obtain⟨x,y,z⟩:=l r (Y.I p);exact⟨.inr ⟨x,y⟩,by rw[aw.d r (by rw[av.d r e];exact e) z,av.d r e]⟩
  ·rcases p with p|p
   ·exact⟨.inl p,aw.d r e fun z=>p.2 (z▸O)⟩
   ·obtain⟨x,y,z⟩:=l r (Y.I (ad.I p));exact⟨.inr ⟨x,y⟩,aw.d r e z⟩
theorem JuX :∀d,CpyH d:=by
 intro d
 induction d with
 |zero=>exact Js0 fun a h=>by omega
 |succ d b=>exact Js0 fun a h=>(GK h)▸b
def CopH (m d:Nat):Prop:=∀(P:Pt->Prop) (S:St) (v:V) (l:List Nod),WF S->NodsC P S m d v l->fitL (fitP m) d l->
 Dz 43 [v] S fun u S'=>Gr S S'/\NodsC (fun r=>P r\/S.A r= .none) S' m d u l
abbrev TrnC (W P:Pt->Prop)(S:St)(m d:Nat)(S':St)(v:V)(l out:List (Str×List Nod))(i:Nat)(es:List (List V)):Prop:=TrnS (CasC (NodC P S m d) P S) (fun Q st e x=>CasC (NodC Q st m d) Q st e x) W P S S' v 2 l out i es
theorem Js1 (ih:∀d',d'+1=b->CopH v d'):CopH v b:=by
 intro P S c l hw hN hf;refine Jn tabM (aT Tryz.func43 rfl) rfl hw fun K ce=> ?_;obtain⟨az,h1,h2,h3⟩:=hN;have c8:l.length<100000:=hf.1;have cf:okC az:=fun e he=>by
  obtain⟨j,hj,rfl⟩:=XU.1 he;exact(h3 j hj (by omega)).F
 simp only[CT,Tryz.f43,XY,simprocAttr];rw[Ja];simp[XY];rw[Ja];simp[XY];refine Je (jW (by simp) hw h1 cf (by omega)) ?_;rintro ov S1 ⟨G1,cg⟩;have T0:TrnN P S v b S1 ov l [] 0 az:=TrnS.G (Ch.H _ G1) cg h2 h3;have ch:=T0.K;simp[XY];refine Ju (fun o Y=>∃es,o 3=ov/\TrnN P S v b Y ov l l l.length es) (fun J hJ=> ?_) ?_;rotate_left
 ·rintro o S3 ⟨es,f3,T⟩;have hl:=T.M (kdN v b) rfl;rw[Ja];simp[XZ,f3];exact ce _ _ (fun r e=>T.g.d r e id) fun g=>hl
 ·rw[Ja];simp[XY,ch];refine Jo (fun j o Y=>∃(i:Nat) (es:List (List V)),j+i=l.length/\o 3=ov/\o 10=ov/\o 11= .d .i64 (l.length:Nat)/\o 12= .d .i64 (i:Nat)/\TrnN P S v b Y ov l (l.take i) i es) l.length (by omega) ⟨0,az,by omega,by simp[XZ],by simp[XZ],by simp[XZ],by simp[XZ]<;>rfl,T0⟩ ?_;rintro L hL j o S3 ⟨i,es,hj,f3,be,a1,af,T⟩;by_cases hi:i<l.length;rotate_left
  ·rw[Ja];simp[XZ,a1,af,hi];have:i=l.length:=by omega
   subst this;rw[XE]at T;exact hJ _ _ ⟨es,f3,T⟩
  have a2:=wiN (i:=i) (by omega);have ag:i<es.length:=by rw[T.s];exact hi
  obtain⟨b,rfl⟩:∃d',b=d'+1:=by
   cases b with
   |zero=>exact(T.m i ag hi (Xb _)).elim
   |succ b=>exact⟨b,rfl⟩
  have bf:=T.m i ag hi (Xb _);have a3:=Xn hi;have bg:(l.take i).length=i:=by rw[XS];omega
  have bh:=hf.2 _ (Xh hi);generalize l[i]=x at bf a3 bh;generalize l.take i=ah at T bg a3;obtain⟨k,a0,s,nm,p,aw,bi,he,cases⟩:=x;obtain⟨pv,bv,ev,cv,cj,hp,hb,ax,bj⟩:=bf;obtain⟨ck,_,bk,bl,bm⟩:=bh;have T1:TrnN P S v (b+1) S3 ov l ah (i+1) (es.set i es[i]):=by rw[Zp];exact T.I
  rw[cj]at T1;obtain⟨q1,t1,F1,c1,c2,c3,c4,c6,_⟩:=T1.A (kdN v (b+1)) ag;obtain⟨n3,bn⟩:=nxE S3;have pz:=LstAt.B hp;have bz:=LstAt.B hb;have ez:=LstAt.B ax;have cz:=LstAt.B bj;have ab:∀{Y:St},Ch (fun _=>False) S Y->∀r,P r->S.A r≠ .none->(P r/\S.A r≠ .none)/\Y.A r=S.A r:=fun g r p e=>⟨⟨p,e⟩,g.d r e id⟩
  rw[Ja];simp[XY,a1,af,hi];rw[Jd];simp[XY];rw[Jd];simp[XY];rw[Ja];simp[XY,be,af,c4,c6,bn,pz.1,bz.1,ez.1,cz.1];generalize cl:up 0 n3=f;refine nmA T.g.D bn cl ?_;intro S4 G4 a4 ⟨t5,r5⟩;have g4:=T1.g.I G4;have o4:=ab g4;rw[Ja];simp[XN,r5];refine Ji (JuX v (fun r=>P r/\S.A r≠ .none) {S4 with a:=S4.t} pv p (Jq G4.D S4.t) (PipC.A (st':={S4 with a:=S4.t}) hp fun r p e=>o4 r p e) ck) ?_;rintro pw S5 G5 ai;have ai:PipC (fun r=>(P r/\S.A r≠ .none)\/S4.A r= .none) S5 v pw p:=PipC.A ai fun r p e=>⟨p,rfl⟩
  have bo:=G5.B r5;have g5:=g4.I G5;have o5:=ab g5;simp[XN,bo];refine Ji (ih b rfl (fun r=>P r/\S.A r≠ .none) {S5 with a:=S5.t} bv aw (Jq G5.D S5.t) (NodsC.A (st':={S5 with a:=S5.t}) hb fun r p e=>o5 r p e) ⟨bk.1,bk.2⟩) ?_;rintro bw S6 G6 aj;have aj:NodsC (fun r=>(P r/\S.A r≠ .none)\/S5.A r= .none) S6 v b bw aw:=NodsC.A aj fun r p e=>⟨p,rfl⟩
  have bp:=G6.B bo;have g6:=g5.I G6;have o6:=ab g6;simp[XN,bp];refine Ji (ih b rfl (fun r=>P r/\S.A r≠ .none) {S6 with a:=S6.t} ev bi (Jq G6.D S6.t) (NodsC.A (st':={S6 with a:=S6.t}) ax fun r p e=>o6 r p e) ⟨bl.1,bl.2⟩) ?_;rintro ew Q G7 ak;have ak:NodsC (fun r=>(P r/\S.A r≠ .none)\/S6.A r= .none) Q v b ew bi:=NodsC.A ak fun r p e=>⟨p,rfl⟩
  have a5:=G7.B bp;have g7:=g6.I G7;obtain⟨Z,k1,k2,k3⟩:=bj;have bq:okC Z:=fun e he=>by
   obtain⟨j,hj,rfl⟩:=XU.1 he;exact(k3 j hj (by omega)).F
  have c9:cases.length<100000:=bm.1;simp[XN,a5];refine Ji (jW (by simp) (Jq G7.D Q.t) ((k1.D (ab g7)).L Q.t) bq (by omega)) ?_;rintro O S8 G8 U;have U:SlF Q S8 O 2 Z:=U;have br:=G8.B a5;have y1:=LstAt.B ai;have y2:=LstAt.B aj;have y3:=LstAt.B ak;have y4:=U.D.B;have y5:=U.D.A;simp[XY,br,y1.1,y1.2,y2.1,y2.2,y3.1,y3.2,y4,y5];refine YW ?_;intro S9 bt;obtain⟨C9,t9,r9⟩:Ch (fun r=>r=f) S8 S9/\∃t,S9.A f= .a t [.d .i64 k, .d .i64 a0,ofL s,ofL nm,pw,bw,ew, .h he,O]:=by
   rw[bt];refine⟨?_,_,Jh _ _ _ _⟩;refine Ch.K ?_ (Jh _ _ _ _) rfl;refine Ch.K ?_ (Jh _ _ _ _) rfl;refine Ch.K ?_ (Jh _ _ _ _) rfl;exact Ch.K (Ch.G _ G8.D) br rfl
  clear bt;have bu:rowOf O≠some f:=fun e=>by
   have:=(U.H e).1;rw[a5]at this
   cases this
  have cm:Ch (fun r=>r=f) Q S9:=(Ch.H _ G8).A C9 fun r e=> .inl e;have bx:SlF Q S9 O 2 Z:=U.B fun r e=>C9.d r (U.A e) fun w=>bu (w▸e);have cn:J8 O=some (.d .i64 (cases.length:Nat), .a):=by rw[U.D.G,k2]
  have b0:=((G4.A G5).A (G6.A G7))
  have da:Q.A q1=S3.A q1:=b0.d q1 (Jb c3);refine Ju (fun o Y=>o 3=ov/\o 4= .d .i64 (i:Nat)/\o 5= .g f 0/\o 10=ov/\o 11= .d .i64 (l.length:Nat)/\o 12= .d .i64 (i:Nat)/\Y.A f=S9.A f/\∃q,TrnC (fun r=>r=f) (fun r=>P r/\S.A r≠ .none) Q v b Y O cases cases cases.length q) (fun J2 co=> ?_) ?_;rotate_left
  ·rintro o a6 ⟨g3,al,ad,am,ao,ap,rp,q,K9⟩;have b2:=K9.M (kdC v b) rfl;have C3:Ch (fun _=>False) S3 a6:=(Ch.H _ b0).A K9.g fun r e=> .inr (e▸a4);have T9:=T1.X (kdN v (b+1)) C3;obtain⟨q2,cp,cq,b1,_,b3,b4,_,_,b8,b9⟩:=T9.A (kdN v (b+1)) ag;obtain rfl:q1=q2:=by grind
   have cr:=rp.trans r9;have cs:Kc [.d .i64 k, .d .i64 a0,ofL s,ofL nm,pw,bw,ew, .h he,O]=true:=by simp[J9,Kv,jS,jT,Ja2,y1.1,y2.1,y3.1,y4]
   simp[XN,g3,al,ad,ap,cr,b3,b4,cs,y1.1,y2.1,y3.1,y4,a2];obtain⟨W,ae⟩:∃W,W=a6.D q1 cp fun u=> .a u (Jw cq (i*9) [.d .i64 k, .d .i64 a0,ofL s,ofL nm,pw,bw,ew, .h he,O]):=⟨_,rfl⟩
   have aq:Ch (fun r=>r=q1) a6 W:=by rw[ae];exact Ch.K (Ch.G _ T9.g.D) b3 rfl
   have TA:TrnN P S v (b+1) W ov l ah (i+1) (es.set i [.d .i64 k, .d .i64 a0,ofL s,ofL nm,pw,bw,ew, .h he,O]):=b9 W 0 [.d .i64 k, .d .i64 a0,ofL s,ofL nm,pw,bw,ew, .h he,O] (by simp) (by omega) (by omega) aq ⟨_,by rw[ae];exact Jh _ _ _ _⟩;rw[<-ae];refine⟨by have:=b8 9 (by decide);omega,l.length-(i+1),by omega,hL _ _ _ ⟨i+1,es.set i [.d .i64 k, .d .i64 a0,ofL s,ofL nm,pw,bw,ew, .h he,O],by omega,g3,am,ao,rfl, ?_⟩⟩;rw[a3];rw[<-bg]at TA⊢;have a7:ah.length<(es.set ah.length [V.d .i64 k, .d .i64 a0,ofL s,ofL nm,pw,bw,ew, .h he,O]).length:=by simp;omega
   refine TA.J a7 ?_;rw[X9];have q4:S4.A q1≠ .none:=by rw[G4.d q1 (Jb c3)];exact Jb c3
   have p4:S4.A f≠ .none:=Jb r5;have nq:∀r,S.A r≠ .none->r≠q1:=fun r e w=>e (w▸c2);have ar:∀r,S4.A r= .none->(S.A r= .none/\rowOf ov≠some r)/\r≠q1/\r≠f:=fun r e=>⟨⟨g4.B e,fun w=>by rw[c1]at w;injection w with w;exact q4 (w▸e)⟩,fun w=>q4 (w▸e),fun w=>p4 (w▸e)⟩
   have np:∀r,S.A r≠ .none->r≠f:=fun r e w=>by
    have:=T1.g.B (w▸a4:S3.A r= .none);exact e this
   have H8:Ch (fun r=>r=f\/r=q1) Q W:=(K9.g.F fun r e=> .inl e).A (aq.F fun r e=> .inr e) fun r e=> .inl e;have H5:∀{A:St},Gr A Q->∀r,A.A r≠ .none->r≠f->r≠q1->W.A r=A.A r:=fun g r e x y=>by
    have:=g.d r e;rw[H8.d r (by rw[this];exact e) (by rintro(h|h);exact x h;exact y h),this]
   refine⟨pw,bw,ew,O,rfl,PipC.A ai fun r h e=> ?_,NodsC.A aj fun r h e=> ?_,NodsC.A ak fun r h e=> ?_,LstAt.G b2 (fun e x h=>kdC v b _ _ _ _ _ _ h fun r h e=> ?_) fun r h e=> ?_⟩
   ·rcases h with h|h
    ·exact⟨.inl h,H5 (G6.A G7) r e (np r h.2) (nq r h.2)⟩
    ·obtain⟨x,y,z⟩:=ar r h;exact⟨.inr x,H5 (G6.A G7) r e z y⟩
   ·rcases h with h|h
    ·exact⟨.inl h,H5 G7 r e (np r h.2) (nq r h.2)⟩
    ·obtain⟨x,y,z⟩:=ar r (G5.I h);exact⟨.inr x,H5 G7 r e z y⟩
   ·rcases h with h|h
    ·exact⟨.inl h,H5 (Gr.F G7.D) r e (np r h.2) (nq r h.2)⟩
    ·obtain⟨x,y,z⟩:=ar r (G5.I (G6.I h));exact⟨.inr x,H5 (Gr.F G7.D) r e z y⟩
   all_goals
    rcases h with h|h
    ·exact⟨.inl h,aq.d r e (nq r h.2)⟩
    ·obtain⟨x,y,z⟩:=ar r (G5.I (G6.I (G7.I h)));exact⟨.inr x,aq.d r e y⟩
  ·have o7:=ab g7;have l8:ld1 (S9.A f) 8=some (O, .a):=by rw[r9];rfl
   rw[Ja];simp[XY,l8,cn];refine Jo (fun j o Y=>∃(n:Nat) (q:List (List V)),j+n=cases.length/\o 3=ov/\o 4= .d .i64 (i:Nat)/\o 5= .g f 0/\o 10=ov/\o 11= .d .i64 (l.length:Nat)/\o 12= .d .i64 (i:Nat)/\o 34=O/\o 35= .d .i64 (cases.length:Nat)/\o 36= .d .i64 (n:Nat)/\Y.A f=S9.A f/\TrnC (fun r=>r=f) (fun r=>P r/\S.A r≠ .none) Q v b Y O cases (cases.take n) n q) cases.length (by omega) ⟨0,Z,by omega,by simp[XZ,f3],by simp[XZ],by simp[XZ],by simp[XZ,be],by simp[XZ,a1],by simp[XZ,af],by simp[XZ],by simp[XZ],by simp[XZ]<;>rfl,rfl,TrnS.G cm bx k2 fun j x y=>(k3 j x y).A (fun e x h=>NodC.A o7 h) o7⟩ ?_;rintro L2 ct j2 db SA ⟨n,q,dc,g3,al,ad,am,ao,ap,b5,a8,au,rp,K9⟩;by_cases hn:n<cases.length;rotate_left
   ·have:n=cases.length:=by omega
    subst this;rw[XE]at K9;rw[Ja];simp[XZ,a8,au];exact co _ _ ⟨g3,al,ad,am,ao,ap,rp,q,K9⟩
   have b6:=wiN (i:=n) (by omega);have a9:n<q.length:=by rw[K9.s];exact hn
   have b7:(cases.take n).length=n:=by rw[XS];omega
   have ay:=K9.m n a9 hn (Xb _);have ba:=Xn hn;have ca:=bm.2 _ (Xh hn);generalize cases[n]=y at ay ba ca;generalize cases.take n=aa at K9 b7 ba;obtain⟨tg,bd⟩:=y;obtain⟨cb,cu,cc⟩:=ay;have K1:TrnC (fun r=>r=f) (fun r=>P r/\S.A r≠ .none) Q v b SA O cases aa (n+1) (q.set n q[n]):=by rw[Zp];exact K9.I
   rw[cu]at K1;obtain⟨u1,tu,Fu,e1,w,e3,e4,e6,_⟩:=K1.A (kdC v b) a9;have cx:=LstAt.B cc;obtain⟨n9,cd⟩:=nxE SA;rw[Ja];simp[XY,a8,au,hn];rw[Jd];simp[XY];rw[Jd];simp[XY];rw[Ja];simp[XY,b5,au,e4,e6,cd,cx.1];generalize cy:up 0 n9=p7;refine nmAW (R:=fun Y=>wW _ Y _) K9.g.D cd cy ?_;intro SB GB dd ⟨t7,r7⟩;have pA:SA.A f≠ .none:=by rw[rp,r9];exact fun h=>by cases h
   have c0:ld1 (SB.A f) 8=some (O, .a):=by rw[GB.d f pA,rp];exact l8
   have c5:ld1 (SB.A p7) 1=some (cb, .a):=by rw[r7];rfl
   have np:∀r,S.A r≠ .none->r≠f:=fun r e w=>e (T1.g.B (w▸a4:S3.A r= .none));have oB:∀r,(P r/\S.A r≠ .none)->Q.A r≠ .none->((P r/\S.A r≠ .none)/\Q.A r≠ .none)/\SB.A r=Q.A r:=fun r p e=>⟨⟨p,e⟩,by
    have h9:=K9.g.d r e (np r p.2);rw[GB.d r (by rw[h9];exact e),h9]⟩
   simp[XN,ad,c0,c5];refine Ji (ih b rfl (fun r=>(P r/\S.A r≠ .none)/\Q.A r≠ .none) {SB with a:=SB.t} cb bd (Jq GB.D SB.t) (NodsC.A (st':={SB with a:=SB.t}) cc fun r p e=>oB r p e) ca) ?_;rintro w2 SC GC av;have av:NodsC (fun r=>((P r/\S.A r≠ .none)/\Q.A r≠ .none)\/SB.A r= .none) SC v b w2 bd:=NodsC.A av fun r p e=>⟨p,rfl⟩
   have z1:=LstAt.B av;have K2:=K1.N (kdC v b) (GB.A GC);obtain⟨u2,t2,F2,x1,_,x3,x4,_,_,x8,x9⟩:=K2.A (kdC v b) a9;obtain rfl:u1=u2:=by grind
   simp[XN,x3,x4,z1.1,z1.2,au,b6];obtain⟨SD,bb⟩:∃SD,SD=SC.D u1 t2 fun u=> .a u (Jw F2 (n*2+1) [w2]):=⟨_,rfl⟩
   have CD:Ch (fun r=>r=u1) SC SD:=by rw[bb];exact Ch.K (Ch.G _ K2.g.D) x3 rfl
   have K3:TrnC (fun r=>r=f) (fun r=>P r/\S.A r≠ .none) Q v b SD O cases aa (n+1) (q.set n [ofL tg,w2]):=x9 SD 1 [w2] (by simp) (by omega) (by omega) CD ⟨_,by rw[bb];exact Jh _ _ _ _⟩;rw[<-bb];have c7:f≠u1:=fun e=>bu (by rw[e1,e]);have gp:SD.A f=S9.A f:=by
    have g9:=(GB.A GC).d f pA;rw[CD.d f (by rw[g9];exact pA) c7,g9,rp]
   refine⟨by have:=x8 2 (by decide);omega,cases.length-(n+1),by omega,ct _ _ _ ⟨n+1,q.set n [ofL tg,w2],by omega,g3,al,ad,am,ao,ap,b5,a8,rfl,gp, ?_⟩⟩;rw[ba];rw[<-b7]at K3⊢;have a7:aa.length<(q.set aa.length [ofL tg,w2]).length:=by simp;omega
   refine K3.J a7 ?_;rw[X9];refine⟨w2,rfl,NodsC.A av fun r p e=> ?_⟩;rcases p with p|p
   ·exact⟨.inl p,CD.d r e fun z=>p.2 (z▸w)⟩
   ·have bc:=GB.I p;have z:r≠u1:=fun z=>by rw[z,e3]at bc;cases bc
    exact⟨.inr ⟨K9.g.B bc,fun w=>z (by rw[e1]at w;injection w with w;exact w.symm)⟩,CD.d r e z⟩
theorem copC (m:Nat):∀d,CopH m d:=by
 intro d
 induction d with
 |zero=>exact Js1 fun a h=>by omega
 |succ d b=>exact Js1 fun a h=>(GK h)▸b
abbrev TmpC (P:Pt->Prop)(S:St)(m d:Nat)(v:V)(ts:List (Str×List Nod)):Prop:=LstAt (CasC (NodC P S m d) P S) P S v 2 ts
theorem Js2 {P:Pt->Prop}(hw:WF n)(hN:TmpC P n v b d k)(ax:k.length<100000)(aa:∀t∈k,fitL (fitP v) b t.2):
  Dz 25 [d] n fun u l=>Gr n l/\TmpC (fun r=>P r\/n.A r= .none) l v b u k:=by
 refine Jn tabM (aT Tryz.func25 rfl) rfl hw fun K ai=> ?_;obtain⟨y,h1,h2,h3⟩:=hN;have aj:okC y:=fun e he=>by
  obtain⟨j,hj,rfl⟩:=XU.1 he;exact(h3 j hj (by omega)).F
 simp only[CT,Tryz.f25,XY,simprocAttr];rw[Ja];simp[XY];rw[Ja];simp[XY];refine Je (jW (by simp) hw h1 aj (by omega)) ?_;rintro o S1 ⟨G1,ak⟩;have T0:TrnC (fun _=>False) P n v b S1 o k [] 0 y:=TrnS.G (Ch.H _ G1) ak h2 h3;have al:=T0.K;simp[XY];refine Ju (fun c l=>∃f,c 3=o/\TrnC (fun _=>False) P n v b l o k k k.length f) (fun J hJ=> ?_) ?_;rotate_left
 ·rintro c S3 ⟨f,f3,T⟩;have hl:=T.M (kdC v b) rfl;rw[Ja];simp[XZ,f3];exact ai _ _ (fun r e=>T.g.d r e id) fun g=>hl
 ·rw[Ja];simp[XY,al];refine Jo (fun j c l=>∃(i:Nat) (f:List (List V)),j+i=k.length/\c 3=o/\c 8=o/\c 9= .d .i64 (k.length:Nat)/\c 10= .d .i64 (i:Nat)/\TrnC (fun _=>False) P n v b l o k (k.take i) i f) k.length (by omega) ⟨0,y,by omega,by simp[XZ],by simp[XZ],by simp[XZ],by simp[XZ]<;>rfl,T0⟩ ?_;rintro L hL j c S3 ⟨i,f,hj,f3,f8,f9,q,T⟩;by_cases X:i<k.length;rotate_left
  ·rw[Ja];simp[XZ,f9,q,X];have:i=k.length:=by omega
   subst this;rw[XE]at T;exact hJ _ _ ⟨f,f3,T⟩
  have O:=wiN (i:=i) (by omega);have Q:i<f.length:=by rw[T.s];exact X
  have ab:=T.m i Q X (Xb _);have U:=Xn X;have ad:(k.take i).length=i:=by rw[XS];omega
  have ae:=aa _ (Xh X);generalize k[i]=x at ab U ae;generalize k.take i=w at T ad U;obtain⟨nm,af⟩:=x;obtain⟨bv,am,hb⟩:=ab;have T1:TrnC (fun _=>False) P n v b S3 o k w (i+1) (f.set i f[i]):=by rw[Zp];exact T.I
  rw[am]at T1;obtain⟨q1,t1,F1,c1,c2,c3,c4,c6,_⟩:=T1.A (kdC v b) Q;obtain⟨n3,ag⟩:=nxE S3;have bz:=LstAt.B hb;rw[Ja];simp[XY,f9,q,X];rw[Jd];simp[XY];rw[Jd];simp[XY];refine Jcp (fun c l=>c 3=o/\c 4= .d .i64 (i:Nat)/\c 8=o/\c 9= .d .i64 (k.length:Nat)/\c 10= .d .i64 (i:Nat)/\Gr S3 l/\∃Y t,c 5= .g Y 0/\l.A Y= .a t [ofL nm,bv]) (fun J3 ao=> ?_) ?_
  ·simp[XY,f8,q,c4,c6,ag,bz.1];generalize ap:up 0 n3=Y;refine nmAW (R:=fun l=>J3 _ l) T.g.D ag ap ?_;intro S4 Z ay ⟨t5,r5⟩;exact ao _ _ ⟨f3,rfl,f8,f9,q,Z,Y,t5,rfl,r5⟩
  rintro az S4 ⟨g3,aq,g8,g9,ar,Z,Y,t5,au,r5⟩;have g4:=T1.g.I Z;have o4:∀r,P r->n.A r≠ .none->(P r/\n.A r≠ .none)/\S4.A r=n.A r:=fun r p e=>⟨⟨p,e⟩,g4.d r e id⟩
  have l1:ld1 (S4.A Y) 1=some (bv, .a):=by rw[r5];rfl
  simp[XN,g3,aq,au,l1];refine Je (copC v b (fun r=>P r/\n.A r≠ .none) S4 bv af Z.D (NodsC.A hb o4) ae) ?_;rintro bw S5 ⟨G5,ah⟩;have y1:=LstAt.B ah;have T5:=T1.N (kdC v b) (Z.A G5);obtain⟨q2,av,F5,b1,_,b3,b4,_,_,b8,b9⟩:=T5.A (kdC v b) Q;obtain rfl:q1=q2:=by grind
  simp[XN,b3,b4,y1.1,y1.2,ar,O];obtain⟨S6,W⟩:∃S6,S6=S5.D q1 av fun u=> .a u (Jw F5 (i*2+1) [bw]):=⟨_,rfl⟩
  have C6:Ch (fun r=>r=q1) S5 S6:=by rw[W];exact Ch.K (Ch.G _ T5.g.D) b3 rfl
  have T6:TrnC (fun _=>False) P n v b S6 o k w (i+1) (f.set i [ofL nm,bw]):=b9 S6 1 [bw] (by simp) (by omega) (by omega) C6 ⟨_,by rw[W];exact Jh _ _ _ _⟩;rw[<-W];refine⟨by have:=b8 2 (by decide);omega,k.length-(i+1),by omega,hL _ _ _ ⟨i+1,f.set i [ofL nm,bw],by omega,g3,g8,g9,rfl, ?_⟩⟩;rw[U];rw[<-ad]at T6⊢;have aw:w.length<(f.set w.length [ofL nm,bw]).length:=by simp;omega
  refine T6.J aw ?_;rw[X9];have q4:S4.A q1≠ .none:=by rw[Z.d q1 (Jb c3)];exact Jb c3
  refine⟨bw,rfl,NodsC.A ah fun r h e=> ?_⟩;rcases h with h|h
  ·exact⟨.inl h,C6.d r e fun z=>h.2 (z▸c2)⟩
  ·exact⟨.inr ⟨g4.B h,fun e2=>by rw[c1]at e2;injection e2 with e2;exact q4 (e2▸h)⟩,C6.d r e fun z=>q4 (z▸h)⟩
def SamH (d:Nat):Prop:=∀(P P':Pt->Prop) (S:St) (v1 v2:V) (p:Pipe),WF S->PipC P S d v1 p->PipC P' S d v2 p->fitP d p->
 Dz 45 [v1,v2] S fun u S'=>Gr S S'/\u= .h true
theorem samO (ih:∀X,X+1=v->SamH X){e2:List V}{o:Opn}(hw:WF n)(h1:OprC s n v t o)(h2:OprC e n v e2 o)(hf:fitO v o):
  Dz 90 [.j t, .j e2] n fun u z=>Gr n z/\u= .h true:=by
 refine Jn tabM (aT Tryz.func90 rfl) rfl hw fun K aa=> ?_;obtain⟨v,rfl⟩:∃X,v=X+1:=by
  cases v with
  |zero=>exact h1.elim
  |succ v=>exact⟨v,rfl⟩
 obtain⟨k,ah,c,sx,a,b,p⟩:=o;obtain⟨pv,qv,rfl,ha,hq⟩:=h1;obtain⟨ai,ab,rfl,f,M⟩:=h2;obtain⟨aj,ad,N⟩:=hf;have z1:=ha.B;have z2:=(LstAt.B hq).1;have z3:=f.B;have z4:=(LstAt.B M).1;have Y:=ha.G;have O:=f.G;rw[Jv]at Y O;obtain⟨n0,Q⟩:=nxE n;simp only[CT,Tryz.f90,XY,simprocAttr];rw[Ja];simp[XY,Q,z1,z2,z3,z4];generalize ae:up 0 n0=p2;generalize af:up 1 n0=p3;refine nm2 hw Q ae af ?_;intro S1 Z ak al am ⟨t2,r2⟩ ⟨t3,r3⟩;rw[Jd,Ja];simp[XY,r2,r3,Y,O];refine Je (ih v rfl s e S1 qv ab p Z.D (PipC.A hq Z.H) (PipC.A M Z.H) ⟨ad,N⟩) ?_;rintro _ S2 ⟨G2,rfl⟩;have T:=Z.A G2;simp[XY];refine Ju (fun y z=>Gr n z) (fun J hJ=> ?_) ?_;rotate_left
 ·rintro y S3 l;rw[Ja];simp[XZ];exact aa _ _ l.d fun _=>rfl
 rw[Ja];simp[XY];refine Jo (fun j y z=>∃i:Nat,j+i=c.length/\Gr S2 z/\y 2= .g p2 0/\y 3= .g p3 0/\y 5= .d .i64 (i:Nat)) c.length (by omega) ⟨0,by omega,Gr.F G2.D,by simp[XZ],by simp[XZ],by simp[XZ]<;>rfl⟩ ?_;rintro L hL j y S3 ⟨i,hj,l,f2,f3,f5⟩;have m:=(G2.A l).B r2;have ag:=(G2.A l).B r3;by_cases U:i<c.length;rotate_left
 ·simp[XZ,f2,f5,m,Y,U];exact hJ _ _ (T.A l)
 have w:=wiN (i:=i) (by omega);obtain⟨r,q,a1,_,x1,_,a5⟩:=ha.H (i:=i) (by rw[Jv];exact U);obtain⟨r',q',b1,_,y1,_,b5⟩:=f.H (i:=i) (by rw[Jv];exact U);have x:(strs c)[i]'(by rw[Jv];exact U)=[ofL c[i]]:=by simp[strs]
 have W:=T.A l;have a0:=a5 0 (by rw[x];simp);have b0:=b5 0 (by rw[x];simp);simp[x]at a0 b0;rw[<-W.d r x1]at a0;rw[<-W.d r' y1]at b0;rw[Jd,Ja];simp[XY,f2,f5,m,Y,U];rw[Jd];simp[XY];rw[Ja];simp[XZ,f2,f3,f5,m,ag,a1,b1,a0,b0,w];exact⟨c.length-(i+1),by omega,hL _ _ _ ⟨i+1,by omega,l,f2,f3,rfl⟩⟩
theorem samS (ih:∀d',d'+1=v->SamH d'):SamH v:=by
 intro P P' S v1 v2 p hw h1 h2 hf;refine Jn tabM (aT Tryz.func45 rfl) rfl hw fun K Y=> ?_;have Z:=LstAt.H h1;have l2:=LstAt.H h2;have af:p.length<100000:=hf.1;simp only[CT,Tryz.f45,XY,simprocAttr];rw[Ja];simp[XY];rw[Jd,Ja];simp[XY,Z,l2];refine Ju (fun f u=>Gr S u) (fun J hJ=> ?_) ?_;rotate_left
 ·rintro f S3 h;rw[Ja];simp[XZ];exact Y _ _ h.d fun _=>rfl
 rw[Ja];simp[XY];refine Jo (fun j f u=>∃i:Nat,j+i=p.length/\Gr S u/\f 0=v1/\f 1=v2/\f 5= .d .i64 (i:Nat)) p.length (by omega) ⟨0,by omega,Gr.F hw,rfl,rfl,by simp[XZ]<;>rfl⟩ ?_;rintro L hL j f S3 ⟨i,hj,h,O,f1,Q⟩;by_cases x:i<p.length;rotate_left
 ·simp[XZ,O,Q,Z,x];exact hJ _ _ h
 have k:=wiN (i:=i) (by omega);obtain⟨r,q,e,T,_,a3,_,⟨w,rfl,hc⟩,_,a7⟩:=LstAt.A h1 x;obtain⟨r',q',e',b1,_,b3,_,⟨w',rfl,l⟩,_,b7⟩:=LstAt.A h2 x;have y:=hf.2 _ (Xh x);generalize p[i]=c at hc l y;have m1:∀{A:St},Gr S A->ld1 (A.A r) q=some (w, .a):=fun g=>by rw[g.d r a3];exact a7 0 (by simp)
 have m2:∀{A:St},Gr S A->ld1 (A.A r') q'=some (w', .a):=fun g=>by rw[g.d r' b3];exact b7 0 (by simp)
 have k1:=LstAt.H hc;have k2:=LstAt.H l;have n1:=m1 h;have n2:=m2 h;rw[Jd,Ja];simp[XY,O,Q,Z,x];rw[Jd];simp[XY];rw[Jd,Ja];simp[XY,O,f1,Q,T,b1,n1,n2,k1,k2];rw[Ja];simp[XY];refine Jo (fun j f u=>∃n:Nat,j+n=c.length/\Gr S3 u/\f 0=v1/\f 1=v2/\f 5= .d .i64 (i:Nat)/\f 6= .d .i64 (n:Nat)) c.length (by omega) ⟨0,by omega,Gr.F h.D,by simp[XZ,O],by simp[XZ,f1],by simp[XZ,Q],by simp[XZ]<;>rfl⟩ ?_;rintro L2 aa j2 ag m ⟨n,ah,G4,z,g1,U,W⟩;have b:=h.A G4;have n3:=m1 b;have n4:=m2 b;by_cases X:n<c.length;rotate_left
 ·have:n=c.length:=by omega
  subst this;rw[Jd,Ja];simp[XZ,z,U,W,T,n3,k1,k];exact⟨p.length-(i+1),by omega,hL _ _ _ ⟨i+1,by omega,b,z,g1,rfl⟩⟩
 have M:=wiN (i:=n) (by omega);obtain⟨s,t,oe,c1,_,c3,c4,c5,_⟩:=LstAt.A hc X;obtain⟨s',t',ab,d1,_,d3,d4,d5,_⟩:=LstAt.A l X;have N:=y.2 _ (Xh X);generalize c[n]=o at c5 d5 N;have ad:ldn (m.A s) t 7=some (.j oe, .a):=by rw[b.d s c3];exact c4
 have ae:ldn (m.A s') t' 7=some (.j ab, .a):=by rw[b.d s' d3];exact d4
 rw[Jd,Ja];simp[XY,z,U,W,T,n3,k1,X];rw[Jd];simp[XY];rw[Ja];simp[XY,z,g1,U,W,T,b1,n3,n4,c1,d1,ad,ae];refine Ji (samO ih (Jq b.D m.t) (OprC.A (st':={m with a:=m.t}) b.H c5) (OprC.A (st':={m with a:=m.t}) b.H d5) N) ?_;rintro _ S5 G5 rfl;simp[XZ,W,M];exact⟨c.length-(n+1),by omega,aa _ _ _ ⟨n+1,by omega,G4.A G5,z,g1,U,rfl⟩⟩
theorem samC :∀d,SamH d:=by
 intro d
 induction d with
 |zero=>exact samS fun a h=>by omega
 |succ d b=>exact samS fun a h=>(GK h)▸b
def SbdH (m d:Nat):Prop:=∀(P P':Pt->Prop) (S:St) (v1 v2:V) (l:List Nod),WF S->NodsC P S m d v1 l->NodsC P' S m d v2 l->fitL (fitP m) d l->
 Dz 28 [v1,v2] S fun u S'=>Gr S S'/\u= .h true
theorem sbdS (ih:∀d',d'+1=b->SbdH v d'):SbdH v b:=by
 intro P P' S v1 v2 l hw h1 h2 hf;refine Jn tabM (aT Tryz.func28 rfl) rfl hw fun K az=> ?_;have l1:=LstAt.H h1;have l2:=LstAt.H h2;have be:l.length<100000:=hf.1;simp only[CT,Tryz.f28,XY,simprocAttr];rw[Ja];simp[XY];rw[Jd,Ja];simp[XY,l1,l2];refine Ju (fun o S'=>Ch (fun _=>False) S S') (fun J hJ=> ?_) ?_;rotate_left
 ·rintro o S3 z;rw[Ja];simp[XZ];exact az _ _ (fun r e=>z.d r e id) fun _=>rfl
 rw[Ja];simp[XY];refine Jo (fun j o S'=>∃i:Nat,j+i=l.length/\Ch (fun _=>False) S S'/\o 0=v1/\o 1=v2/\o 5= .d .i64 (i:Nat)) l.length (by omega) ⟨0,by omega,Ch.G _ hw,rfl,rfl,by simp[XZ]<;>rfl⟩ ?_;rintro L hL j o S3 ⟨i,hj,z,f0,f1,f5⟩;by_cases hi:i<l.length;rotate_left
 ·simp[XZ,f0,f5,l1,hi];exact hJ _ _ z
 have W:=wiN (i:=i) (by omega);obtain⟨b,rfl⟩:∃d',b=d'+1:=by
  cases b with
  |zero=>obtain⟨_,_,_,_,_,_,_,a5,_⟩:=LstAt.A h1 hi;exact a5.elim
  |succ b=>exact⟨b,rfl⟩
 obtain⟨r,q,e,a1,_,a3,a4,a5,_⟩:=LstAt.A h1 hi;obtain⟨r',q',e',b1,_,b3,b4,b5,_⟩:=LstAt.A h2 hi;have ah:=hf.2 _ (Xh hi);generalize l[i]=x at a5 b5 ah;obtain⟨k,a0,s,nm,p,ai,a2,he,cases⟩:=x;obtain⟨pv,bv,ev,cv,rfl,hp,hb,T,X⟩:=a5;obtain⟨a6,a7,a8,bf,rfl,aj,ak,u,y⟩:=b5;obtain⟨a9,_,al,am,Y⟩:=ah;have ao:=a4;rw[<-z.d r a3 id]at ao;have ap:=b4;rw[<-z.d r' b3 id]at ap;obtain⟨n3,Z⟩:=nxE S3;have rr:=fun k=>nes (Jt z.D Z (by rw[z.d r' b3 id];exact b3:S3.A r'≠ .none) k);have y1:=(LstAt.B hp).1;have y2:=(LstAt.B hb).1;have y3:=(LstAt.B T).1;have y4:=(LstAt.B X).1;have z1:=(LstAt.B aj).1;have z2:=(LstAt.B ak).1;have z3:=(LstAt.B u).1;have z4:=(LstAt.B y).1;rw[Jd,Ja];simp[XY,f0,f5,l1,hi];rw[Jd];simp[XY];rw[Ja];simp[XY,f0,f1,f5,a1,b1,ao,ap,Z,y1,y2,y3,y4,z1,z2,z3,z4,rr];refine⟨by simp[JM,rowOf,put,rr], ?_⟩;refine YW ?_;intro S4 M;generalize ba:up 0 n3=p6 at M⊢;generalize bb:up 1 n3=p7 at M⊢;obtain⟨C4,⟨t6,r6⟩,t7,r7⟩:=nm22 z.D Z ba bb M;clear M;have g4:=z.A C4 fun r f=>f.elim;have o4:∀{Q:Pt->Prop} r,Q r->S.A r≠ .none->Q r/\S4.A r=S.A r:=fun r h e=>⟨h,g4.d r e id⟩
 have k1:=LstAt.H X;have k2:=LstAt.H y;rw[Jd,Ja];simp[XY,r6,r7];refine Je (samC v P P' S4 pv a6 p g4.D (PipC.A hp o4) (PipC.A aj o4) a9) ?_;rintro _ S5 ⟨G5,rfl⟩;simp[XY,G5.B r6,G5.B r7];have g5:=g4.I G5;have o5:∀{Q:Pt->Prop} r,Q r->S.A r≠ .none->Q r/\S5.A r=S.A r:=fun r h e=>⟨h,g5.d r e id⟩
 refine Je (ih b rfl P P' S5 bv a7 ai g5.D (NodsC.A hb o5) (NodsC.A ak o5) ⟨al.1,al.2⟩) ?_;rintro _ S6 ⟨G6,rfl⟩;have aa:=G5.A G6;simp[XY,aa.B r6,aa.B r7];have g6:=g5.I G6;have o6:∀{Q:Pt->Prop} r,Q r->S.A r≠ .none->Q r/\S6.A r=S.A r:=fun r h e=>⟨h,g6.d r e id⟩
 refine Je (ih b rfl P P' S6 ev a8 a2 g6.D (NodsC.A T o6) (NodsC.A u o6) ⟨am.1,am.2⟩) ?_;rintro _ S7 ⟨G7,rfl⟩;have aq:=aa.A G7;have ar:=aq.B r6;have au:=aq.B r7;simp[XY,ar,au,k1,k2];have g7:=g6.I G7;rw[Ja];simp[XY];refine Jo (fun j o S'=>∃n:Nat,j+n=cases.length/\Gr S7 S'/\o 0=v1/\o 1=v2/\o 5= .d .i64 (i:Nat)/\o 6= .g p6 0/\o 7= .g p7 0/\o 8= .d .i64 (n:Nat)) cases.length (by have:=Y.1;omega) ⟨0,by omega,Gr.F G7.D,by simp[XZ,f0],by simp[XZ,f1],by simp[XZ,f5],by simp[XZ],by simp[XZ],by simp[XZ]<;>rfl⟩ ?_;rintro L2 bc j2 bg U ⟨n,bh,G8,g0,g1,av,N,aw,g8⟩;have ab:=G8.B ar;have bd:=G8.B au;by_cases hn:n<cases.length;rotate_left
 ·have:n=cases.length:=by omega
  subst this;rw[Jd,Ja];simp[XZ,av,N,g8,ab,k1,W];exact⟨l.length-(i+1),by omega,hL _ _ _ ⟨i+1,by omega,g7.I G8,g0,g1,rfl⟩⟩
 have ax:=wiN (i:=n) (by have:=Y.1;omega);obtain⟨s1,t1,ce,c1,_,c3,_,⟨w,rfl,c5⟩,_,c7⟩:=LstAt.A X hn;obtain⟨s2,t2,bi,d1,_,d3,_,⟨w',rfl,d5⟩,_,d7⟩:=LstAt.A y hn;have ay:=Y.2 _ (Xh hn);generalize cases[n]=c at c5 d5 ay c7 d7;have O:=g7.I G8;have ad:=c7 0 (by simp);have ae:=c7 1 (by simp);have af:=d7 0 (by simp);have ag:=d7 1 (by simp);rw[<-O.d s1 c3 id]at ad ae;rw[<-O.d s2 d3 id]at af ag;simp at ad ae af ag;have o8:∀{Q:Pt->Prop} r,Q r->S.A r≠ .none->Q r/\U.A r=S.A r:=fun r h e=>⟨h,O.d r e id⟩
 rw[Jd,Ja];simp[XY,N,g8,ab,k1,hn];rw[Jd];simp[XY];rw[Ja];simp[XY,N,aw,g8,ab,bd,c1,d1,ad,ae,af,ag];refine Ji (ih b rfl P P' {U with a:=U.t} w w' c.2 (Jq O.D U.t) (NodsC.A (st':={U with a:=U.t}) c5 fun r h e=>o8 r h e) (NodsC.A (st':={U with a:=U.t}) d5 fun r h e=>o8 r h e) ay) ?_;rintro _ S9 G9 rfl;simp[XZ,g8,ax];exact⟨cases.length-(n+1),by omega,bc _ _ _ ⟨n+1,by omega,G8.A G9,g0,g1,av,N,aw,rfl⟩⟩
theorem sbdC (m:Nat):∀d,SbdH m d:=by
 intro d
 induction d with
 |zero=>exact sbdS fun a h=>by omega
 |succ d b=>exact sbdS fun a h=>(GK h)▸b
theorem JuY {X:V}(hw:WF n)(h1:TmpC s n v b d k)(h2:TmpC e n v b X k)(aa:k.length<100000)(M:∀t∈k,fitL (fitP v) b t.2):
  Dz 12 [d,X] n fun u N=>Gr n N/\u= .h true:=by
 refine Jn tabM (aT Tryz.func12 rfl) rfl hw fun K Y=> ?_;have Z:=LstAt.H h1;have l2:=LstAt.H h2;simp only[CT,Tryz.f12,XY,simprocAttr];rw[Ja];simp[XY];rw[Jd,Ja];simp[XY,Z,l2];refine Ju (fun z N=>Gr n N) (fun J hJ=> ?_) ?_;rotate_left
 ·rintro z g l;rw[Ja];simp[XZ];exact Y _ _ l.d fun _=>rfl
 rw[Ja];simp[XY];refine Jo (fun j z N=>∃i:Nat,j+i=k.length/\Gr n N/\z 0=d/\z 1=X/\z 5= .d .i64 (i:Nat)) k.length (by omega) ⟨0,by omega,Gr.F hw,rfl,rfl,by simp[XZ]<;>rfl⟩ ?_;rintro L hL j z g ⟨i,hj,l,U,f1,W⟩;by_cases O:i<k.length;rotate_left
 ·simp[XZ,U,W,Z,O];exact hJ _ _ l
 have o:=wiN (i:=i) (by omega);obtain⟨s1,t1,ce,c1,_,c3,_,⟨w,rfl,c5⟩,_,c7⟩:=LstAt.A h1 O;obtain⟨s2,t2,ab,d1,_,d3,_,⟨w',rfl,d5⟩,_,d7⟩:=LstAt.A h2 O;have T:=M _ (Xh O);generalize k[i]=c at c5 d5 T c7 d7;have p:=c7 0 (by simp);have q:=c7 1 (by simp);have x:=d7 0 (by simp);have y:=d7 1 (by simp);rw[<-l.d s1 c3]at p q;rw[<-l.d s2 d3]at x y;simp at p q x y;have o3:∀{Q:Pt->Prop} r,Q r->n.A r≠ .none->Q r/\g.A r=n.A r:=fun r h f=>⟨h,l.d r f⟩
 rw[Jd,Ja];simp[XY,U,W,Z,O];rw[Jd];simp[XY];rw[Ja];simp[XY,U,f1,W,c1,d1,p,q,x,y];refine Ji (sbdC v b s e {g with a:=g.t} w w' c.2 (Jq l.D g.t) (NodsC.A (st':={g with a:=g.t}) c5 fun r h f=>o3 r h f) (NodsC.A (st':={g with a:=g.t}) d5 fun r h f=>o3 r h f) T) ?_;rintro _ S4 G4 rfl;simp[XZ,W,o];exact⟨k.length-(i+1),by omega,hL _ _ _ ⟨i+1,by omega,l.A G4,U,f1,rfl⟩⟩
theorem Jt1 {S:St}{b:List (List R10)}(hw:WF S)(h:jJ (fun _=>True) S d b):
  Dz 5 [d] S fun v p=>Gr S p/\(v= .h false\/v= .h true/\b.length<=4/\∀r∈b,r.length<=6/\∀x∈r,sz10 x<=14):=by
 refine Jn tabM (aT Tryz.func5 rfl) rfl hw fun K l=> ?_;obtain⟨us,u1,u2,u3⟩:=h;have f:=u1.G;rw[u2]at f;simp only[CT,Tryz.f5,XY,simprocAttr];rw[Ja];simp[XY];by_cases h4:(b.length:Int)>4
 ·rw[Jd,Ja];simp[XZ,f,h4];exact l _ _ (fun _ _=>rfl) fun _=> .inl rfl
 rw[Jd,Ja];simp[XY,f,h4];refine Ju (fun o p=>Gr S p/\∀r∈b,r.length<=6/\∀x∈r,sz10 x<=14) (fun J hJ=> ?_) ?_;rotate_left
 ·rintro o S3 ⟨z,O⟩;rw[Ja];simp[XZ];exact l _ _ z.d fun _=> .inr ⟨rfl,by omega,O⟩
 rw[Ja];simp[XY];refine Jo (fun j o p=>∃i:Nat,j+i=b.length/\Gr S p/\o 0=d/\o 3= .d .i64 (i:Nat)/\∀r∈b.take i,r.length<=6/\∀x∈r,sz10 x<=14) b.length (by omega) ⟨0,by omega,Gr.F hw,rfl,by simp[XZ]<;>rfl,by simp⟩ ?_;rintro L hL j o S3 ⟨i,hj,z,P,Q,O⟩;by_cases Z:i<b.length;rotate_left
 ·simp[XZ,P,Q,f,Z];have:i=b.length:=by omega
  subst this;rw[XE]at O;exact hJ _ _ ⟨z,O⟩
 have y:=wiN (i:=i) (by omega);obtain⟨r,q,T,_,a3,_,a5⟩:=u1.H (i:=i) (by omega);obtain⟨w,U,es,e1,e2,e3,e4⟩:=u3 i (by omega) Z;have ht:=Xn Z;generalize b[i]=c at e2 e3 e4 ht;have a0:=a5 0 (by rw[U];simp);simp[U]at a0;have m1:∀{A:St},Gr S A->ld1 (A.A r) q=some (w, .a):=fun g=>by rw[g.d r a3];exact a0
 have n1:=m1 z;have k:=e1.G;rw[e2]at k;rw[Jd,Ja];simp[XY,P,Q,f,Z];rw[Jd];simp[XY];by_cases h6:(c.length:Int)>6
 ·rw[Jd,Ja];simp[XZ,P,Q,T,n1,k,h6];exact l _ _ z.d fun _=> .inl rfl
 rw[Jd,Ja];simp[XY,P,Q,T,n1,k,h6];rw[Ja];simp[XY];refine Jo (fun j o p=>∃n:Nat,j+n=c.length/\Gr S p/\o 0=d/\o 3= .d .i64 (i:Nat)/\o 4= .d .i64 (n:Nat)/\∀x∈c.take n,sz10 x<=14) c.length (by omega) ⟨0,by omega,z,by simp[XZ,P],by simp[XZ,Q],by simp[XZ]<;>rfl,by simp⟩ ?_;rintro L2 aa j2 ab S4 ⟨n,ad,M,W,g3,g4,hx⟩;have n2:=m1 M;by_cases hn:n<c.length;rotate_left
 ·have:n=c.length:=by omega
  subst this;rw[XE]at hx;rw[Jd,Ja];simp[XZ,W,g3,g4,T,n2,k,y];refine⟨b.length-(i+1),by omega,hL _ _ _ ⟨i+1,by omega,M,W,rfl,fun r N=> ?_⟩⟩;rw[ht]at N;rcases Xs.1 N with N|N
  ·exact O r N
  ·rw[Xj.1 N];exact⟨by omega,hx⟩
 have X:=wiN (i:=n) (by omega);obtain⟨s,t,c1,_,c3,c4,_⟩:=e1.H (i:=n) (by omega);have Y:=c4;rw[<-M.d s c3]at Y;rw[Jd,Ja];simp[XY,W,g3,g4,T,n2,k,hn];rw[Jd];simp[XY];rw[Ja];simp[XY,W,g3,g4,T,n2,c1,Y];refine Je (JtX (e4 n (by omega) hn) S4 M 15 (by decide) (by decide)) ?_;rintro _ S5 ⟨G5,m,rfl,m1,m2⟩;by_cases hm:m=0
 ·simp[XZ,hm];exact l _ _ (M.A G5).d fun _=> .inl rfl
 ·simp[XZ,g4,hm,X];refine⟨c.length-(n+1),by omega,aa _ _ _ ⟨n+1,by omega,M.A G5,W,g3,rfl,fun x e=> ?_⟩⟩;rw[Xn hn]at e;rcases Xs.1 e with e|e
  ·exact hx x e
  ·rw[Xj.1 e];omega
theorem Jt2 (mm:Nat):∀(X:Ty),tsz X<mm->∀{P:Pt->Prop} {l:St} {e:List V},WF l->TyC P l e X->fitT X=true->Dz 41 [.j e] l fun v S=>Gr l S/\∃k nm a b,v= .j [.d .i64 k,ofL nm,a,b]/\a.B=true/\b.B=true:=by
 induction mm with
 |zero=>intro X h;exact absurd h (XH _)
 |succ mm ih=>
 intro X hX P l e hw y aw;obtain⟨k,n,ns,ks⟩:=X;obtain⟨bt,bu,ba⟩:=Jaa aw;obtain⟨nv,kv,f,rfl,x1,x2,x3,x4⟩:=y.D;have c1:=x1.A;have c2:=x1.B;have c3:=x2.A;have c4:=x2.B;refine Jn tabM (aT Tryz.func41 rfl) rfl hw fun K bb=> ?_;obtain⟨n0,z⟩:=nxE l;simp only[CT,Tryz.f41,XY,simprocAttr];rw[Ja];simp only[XY,simprocAttr,z,c1,c2,c3,c4];refine YW ?_;intro S1 Z;have G1:Gr l S1:=by rw[Z];exact(Gr.G hw (Jc _)).L (Jc _)
 obtain⟨p1,aa⟩:=exE (up 0 n0);obtain⟨p2,ab⟩:=exE (up 1 n0);obtain⟨t1,r1⟩:∃t,S1.A p1= .a t [.d .i64 k,ofL n,nv,kv]:=⟨_,by rw[Z,aa];simp only[XZ,simprocAttr,z];rfl⟩
 obtain⟨t2,r2⟩:∃t,S1.A p2= .a t [.d .i64 0,ofL [], .e, .e]:=⟨_,by rw[Z,ab];simp only[XZ,simprocAttr,z];rfl⟩
 have ax:l.A p1= .none:=by rw[aa];exact nx0 hw z 0
 have bc:l.A p2= .none:=by rw[ab];exact nx0 hw z 1
 have bd:p1≠p2:=by rw[aa,ab];exact fun e=>by have:=congrArg Pt.A e;rw[JbL,JbL]at this;omega
 rw[<-aa,<-ab];clear Z;have be:okC (strs ns):=Ya _;have bf:okC f:=fun a ha=>by
  obtain⟨i,hi,rfl⟩:=X1 ha;exact(x4 i hi (by omega)).J
 rw[Ja];simp only[XY,simprocAttr,r1];refine Ji (Jdu (.inr rfl) (Q:=fun _=>True) (Jq G1.D _) ((x1.I G1).L _) be (by rw[Jv];omega) fun _ _=>trivial) ?_;rintro na S2 G2 ay;have ad:=G2.B r1;simp only[XY,simprocAttr,ad];refine Ji (jW (by simp) (Jq G2.D _) (((x2.I G1).I G2).L _) bf (by omega)) ?_;rintro N S3 G3 O;have ae:=G3.B ad;have ak:=ay.B;have az:=ay.A;have al:=O.D.B;have a0:=O.D.A;have a1:=G2.A G3;simp only[XY,simprocAttr,ae,ak,az,al,a0];refine YW ?_;intro S4 af;have G4:Gr l S4:=by
  rw[af];refine Gr.J (Gr.J (G1.A a1) ax ?_ ?_ (Jc _)) ax ?_ ?_ (Jc _)
  all_goals first
   |(simp only[XZ,simprocAttr,ae];done)
   |(simp only[XZ,simprocAttr,ae];rfl)
   |(intro e;simp only[XZ,simprocAttr,ae]at e;cases e)
 obtain⟨t4,am⟩:∃t,S4.A p1= .a t [.d .i64 k,ofL n,na,N]:=⟨_,by rw[af];simp only[XZ,simprocAttr];rfl⟩
 have k4:∀r,r≠p1->S4.A r=S3.A r:=fun r e=>by rw[af];simp only[JQ,e,X8]
 have a2:S4.A p2= .a t2 [.d .i64 0,ofL [], .e, .e]:=(k4 p2 (Ne.symm bd)).trans (a1.B r2);clear af;have early:∀r,S2.A r= .none->l.A r= .none:=fun r e=>Ch.B (Ch.H (fun _=>False) (G1.A G2)) e;have bg:∀r,rowOf N=some r->r≠p1/\r≠p2:=fun r hr=>by
  have h0:=(O.H hr).1;exact⟨fun e=>by rw[e]at h0;exact Jb ad h0,fun e=>by rw[e]at h0;exact Jb (G2.B r2) h0⟩
 have h4:SlF l S4 N 4 f:=(O.J fun r e=>early r e).B fun r hr=>k4 r fun e=>by
  have:=(O.H hr).1;rw[e]at this;exact Jb ad this
 have bh:=h4.D.G;rw[Jd,Ja];simp only[XY,simprocAttr,am,bh];obtain⟨L,hL⟩:=loE fun j fr S'=>∃(i:Nat) (s:List (List V)),j+i=f.length/\s.length=i/\fr 1= .g p1 0/\fr 2= .g p2 0/\fr 14=N/\fr 15= .d .i64 (f.length:Nat)/\fr 16= .d .i64 i/\Gr l S'/\SlF l S' N 4 (s++f.drop i)/\(∃t,S'.A p1= .a t [.d .i64 k,ofL n,na,N])/\(∃t,S'.A p2= .a t [.d .i64 0,ofL [], .e, .e]);refine JD L f.length (by omega) ((hL _ _ _).2 ⟨0,[],by omega,rfl,rfl,rfl,rfl,rfl,by simp only[XZ,simprocAttr]<;>rfl,G4,by simpa using h4,⟨t4,am⟩,⟨t2,a2⟩⟩) ?_;clear h4 am a2;intro j fr S5 bi;obtain⟨i,s,hj,ao,f1,f2,ap,ag,U,G5,h5,⟨t5,a3⟩,⟨bj,a4⟩⟩:=(hL _ _ _).1 bi;by_cases hi:i<f.length;rotate_left
 ·have aq:¬(i:Int)<f.length:=by omega
  rw[Ja];simp only[XY,simprocAttr,ag,U,aq];rw[Jd];simp only[XY,simprocAttr];rw[Ja];simp only[XZ,simprocAttr,f1,f2,a3,a4,ak,az,al,a0];exact bb _ _ (fun r e=>by rw[JQ,Xa fun c=>e (by rw[c];exact bc),G5.d r e]) fun _=>⟨_,_,na,N,rfl,ak,al⟩
 have aq:(i:Int)<f.length:=by omega
 have ar:IntKind.i64.wrap ((i:Int)+1)=((i+1:Nat):Int):=by rw[JX (by omega) (by omega)];rfl
 rw[Xc hi]at h5;have au:i<ks.length:=by omega
 have ah:=x4 i hi au;have a5:tsz ks[i]<mm:=by have:=Yv (k:=k) (n:=n) (ns:=ns) au;omega
 have a6:=qx ba i au;obtain⟨T,hT⟩:=exE (ks[i]);rw[<-hT]at ah a5 a6;obtain⟨e,he⟩:∃e,e=f[i]:=⟨_,rfl⟩
 rw[<-he]at h5 ah;obtain⟨o,p,bv,rfl,y1,y2,_,_⟩:=ah.B;have W:(s++[.d .i64 T.A,ofL T.B,o,p]::f.drop (i+1)).length=f.length:=by simp;omega
 have Y:∀x∈s,x.length=4:=fun x y=>h5.1 x (Z5 _ y);obtain⟨q,tq,q1,q2,q3⟩:∃r t,l.A r= .none/\S5.A r= .a t (s++[.d .i64 T.A,ofL T.B,o,p]::f.drop (i+1)).flatten/\(N= .w r 0 f.length 4\/N= .m r 0 f.length 4 f.length):=by
  rcases h5.2 with⟨_,e⟩|⟨r,t,k1,k2,k3⟩
  ·have:=congrArg List.length e;rw[W]at this;have:f.length=0:=this;omega
  ·rw[W]at k3;exact⟨r,t,k1,k2,k3⟩
 have bk:=Jp h5.1;rw[W]at bk;have bw:i*4+4<=f.length*4:=by rw[<-Zm];exact XT _ hi
 have ha:Js 4 N (.d .i64 (i:Nat))=some (.g q (i*4), .a):=by
  rcases q3 with e|e
  ·rw[e,kX,Xe (by omega)];simp
  ·rw[e,jf,Xe (by omega)];simp
 have bl:ldn (S5.A q) (i*4) 4=some (.j [.d .i64 T.A,ofL T.B,o,p], .a):=by
  rw[q2,Ym,Xe (by omega),<-ao,JpM Y rfl]
 have bm:rowOf N=some q:=by rcases q3 with e|e<;>(rw[e];rfl)
 obtain⟨bn,bo⟩:=bg q bm;have d1:=y1.B;have d2:=y1.A;have d3:=y2.B;have d4:=y2.A;have w5:=G5.D;obtain⟨n5,av⟩:=nxE S5;rw[Ja];simp only[XY,simprocAttr,ag,U,aq];rw[Jd];simp only[XY,simprocAttr];rw[Jd];simp only[XY,simprocAttr];rw[Ja];simp only[XY,simprocAttr,ap,U,ha,bl,av,d1,d2,d3,d4];obtain⟨S6,ai⟩:=exE ((S5.B fun t=>Row.a t [V.d .i64 0,ofL [],V.e,V.e]).D (up 0 n5) S5.t fun u=>Row.a u [.d .i64 T.A,ofL T.B,o,p]);have G6:Gr S5 S6:=by rw[ai];exact(Gr.F w5).M av (Jc _) (Jc _)
 obtain⟨p4,a7⟩:=exE (up 0 n5);obtain⟨t6,r6⟩:∃t,S6.A p4= .a t [.d .i64 T.A,ofL T.B,o,p]:=⟨_,by rw[ai,a7];simp only[XZ,simprocAttr,av];rfl⟩
 rw[<-ai,<-a7];clear ai;have a8:=G6.B a3;have a9:=G5.A G6;simp only[XY,simprocAttr,f1,U,a8,r6];refine Ji (ih T a5 (Jq G6.D _) ((ah.H a9).I _) a6) ?_;rintro _ S7 G7 ⟨k',aj,a',b',rfl,sa,sb⟩;have q7:S7.A q= .a tq (s++[.d .i64 T.A,ofL T.B,o,p]::f.drop (i+1)).flatten:=G7.B (G6.B q2);have ca:=(One.A sa).2;have cb:=(One.A sb).2;have bp:i*4+4<=(s++[.d .i64 T.A,ofL T.B,o,p]::f.drop (i+1)).flatten.length:=by omega
 simp only[XM,simprocAttr,f1,f2,ap,ag,U,ha,q7,bp,sa,sb,ca,cb,ar];have bq:=a9.A G7;refine⟨f.length-(i+1),by omega,(hL _ _ _).2 ⟨i+1,s++[[.d .i64 k',ofL aj,a',b']],by omega,by simp[ao],f1,f2,ap,ag,rfl,bq.J q1 (Jb q7) (by rw[q7];rfl) (Jc _), ?_,⟨t5,by rw[JQ,Xa (Ne.symm bn)];exact G7.B a8⟩,⟨bj,by rw[JQ,Xa (Ne.symm bo)];exact G7.B (G6.B a4)⟩⟩⟩;have e1:(s++[[.d .i64 k',ofL aj,a',b']])++f.drop (i+1)=s++[.d .i64 k',ofL aj,a',b']::f.drop (i+1):=by simp
 rw[e1];have br:(s++[V.d .i64 k',ofL aj,a',b']::f.drop (i+1)).length=f.length:=by simp;omega
 refine⟨fun x y=> ?_, .inr ⟨q,S7.t,q1, ?_,by rw[br];exact q3⟩⟩
 ·rcases Xs.1 y with y|y
  ·exact Y x y
  ·rcases Xq.1 y with rfl|y
   ·rfl
   ·exact x2.1 x (ZO y)
 ·simp only[JQ,ZS];rw[<-ao,Jll Y rfl rfl]
end Go.Proofs.YtdajkeoobbonjaaGreat
