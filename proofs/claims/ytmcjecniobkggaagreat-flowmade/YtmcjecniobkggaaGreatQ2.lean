/- The document's way to tell Opts in Opts. All types of a schema: the document's. The doc -/
import Derived.Test.YtmcjecniobkggaaGreatQ1
set_option linter.constructorNameAsVariable false
set_option maxHeartbeats 16000000
set_option linter.unusedVariables false
set_option linter.unusedSimpArgs false
set_option linter.unusedSectionVars false
set_option maxRecDepth 100000
namespace Go.Proofs.YtmcjecniobkggaaGreat
open Eva Go.RowKit
variable {P e Q:Pt->Prop}{v:List V}{n p:St}{t:List Ty}{k:Nat}{z:Sch}{b:Pt}{d f:V}{i:List Nat}{r:List (List V)}{q:List Nd}{l:Tb}
theorem JfH (l:List (Str×Ty))(t:Ty){i:Nat}(h:(KP l i t).A≠9):∀j,KP l (i+j) t=KP l i t
 |0=>rfl
 | j+1=>by
   rw[<-ZU,je,JfH l t h j,Xa h]
theorem JsW {E e:List V}{s:Sch}{t:Ty}(hw:WF n)(h:SchC P n E s)(ht:TyC P n e t)(hP:∀r,P r->n.A r≠ .none)(hl:s.a.length<=100):
  Dz 113 [.j E, .j e] n fun v S=>Gr n S/\∃e',v= .j e'/\TyC P n e' (KP s.a (s.a.length+1) t):=by
 refine Jn tabM (aT Tryz.func113 rfl) rfl hw fun K O=> ?_;obtain⟨m,o⟩:=nxE n;have Q:=h;obtain⟨c,tv,sv,rfl,h1,h2,h3⟩:=h;obtain⟨l,U⟩:∃l,l=s.a:=⟨_,rfl⟩
 rw[<-U]at h2 hl O;obtain⟨W,X,au,rfl,x1,x2,x3,x4⟩:=h1.B;have ab:=ht;obtain⟨nv,kv,es,rfl,y1,y2,y3,y4⟩:=ht.B;have l1:=h2.H;have av:=x1.A;have ad:=x1.B;have aw:=x2.A;have ae:=x2.B;have af:=h2.G;have ag:=h3.G;have ax:=y1.A;have ah:=y1.B;have ay:=y2.A;have ai:=y2.B;obtain⟨I,hI⟩:=opE fun q S=>(Gr n S/\q 2= .e (up 0 m) 0/\q 3= .e (up 1 m) 0/\q 4= .e (up 2 m) 0/\(∃u,S.A (up 0 m)= .a u [.d .i64 s.b.A,ofL s.b.B,W,X,tv,sv])/\(∃u,S.A (up 1 m)= .a u [.d .i64 t.A,ofL t.B,nv,kv])/\(∃u,S.A (up 2 m)= .a u [.d .i64 0,ofL [], .g, .g]))
 simp only[CT,Tryz.f113,XY,simprocAttr];refine YQ I ?_ ?_
 ·simp[XZ,o,ad,ae,af.1,ag.1,ah,ai];exact(hI _ _).2 ⟨((Gr.G hw (Jd _)).L (Jd _)).L (Jd _),rfl,rfl,rfl,⟨_,by simp[XZ,o];rfl⟩,⟨_,by simp[XZ,o];rfl⟩,⟨_,by simp[XZ,o];rfl⟩⟩
 intro q S aj;obtain⟨g0,x,w,M,⟨t0,r0⟩,⟨t1,r1⟩,⟨t2,r2⟩⟩:=(hI _ _).1 aj;rw[Je,Ja];simp[XY];have ak:=fun r (e:n.A r≠ .none) (k:Nat)=>Jr hw o e k;have al:up 0 m≠up 1 m:=by grind
 have am:up 2 m≠up 1 m:=by rw[Jab];decide
 obtain⟨L,hL⟩:=loE fun j q N=>∃(i:Nat) (c:List V),j+i=l.length+1/\q 2= .e (up 0 m) 0/\q 3= .e (up 1 m) 0/\q 4= .e (up 2 m) 0/\q 5= .d .i64 i/\Gr n N/\(∃u,N.A (up 0 m)= .a u [.d .i64 s.b.A,ofL s.b.B,W,X,tv,sv])/\(∃u,N.A (up 1 m)= .a u c)/\(∃u,N.A (up 2 m)= .a u [.d .i64 0,ofL [], .g, .g])/\TyC P n c (KP l i t);refine JC L (l.length+1) (by omega) ((hL _ _ _).2 ⟨0,_,by omega,x,w,M,by rfl,g0,⟨_,r0⟩,⟨_,r1⟩,⟨_,r2⟩,ab⟩) ?_;clear x w M r0 r1 r2;intro j q N ao;obtain⟨i,c,hj,x,w,M,f5,Y,⟨u0,r0⟩,⟨u1,r1⟩,⟨u2,r2⟩,hc⟩:=(hL _ _ _).1 ao;obtain⟨T,hT⟩:∃T,T=KP l i t:=⟨_,rfl⟩
 rw[<-hT]at hc;have y:=je l i t;rw[<-hT]at y;have az:=hc;obtain⟨Z,aa,a0,rfl,z1,z2,z3,z4⟩:=hc.B;have d1:=z1.A;have d2:=z1.B;have d3:=z2.A;have d4:=z2.B;have done:KP l (l.length+1) t=T->K (.j [.d .i64 T.A,ofL T.B,Z,aa]) (N.D (up 2 m) u2 fun u=> .a u [.d .i64 T.A,ofL T.B,Z,aa]):=fun hh=>by
  refine O _ _ (fun r e=> ?_) fun _=>⟨_,rfl,by grind⟩
  rw[Ji _ _ _ (ak r e 2),Y.d r e]
 by_cases hi:i<=l.length
 ·by_cases k9:T.A=9
  ·have z:=wiN (i:=i) (by omega);simp[XZ,x,w,f5,r0,l1,hi,r1,k9];refine Jc (JrZ (P:=P) (s:=s) T.B Y.D (Q.A Y.H) (by grind)) ?_;rw[<-U];rintro _ S2 ⟨g2,E',rfl,hE⟩;have hE:TyC P n E' ((defN l T.B).getD QF):=hE.A fun r p e=>⟨p,(Y.d r (hP r p)).symm⟩
   have ap:=g2.A r0;have r12:=g2.A r1;have r22:=g2.A r2;obtain⟨aq,ar,a1,rfl,w1,w2,w3,w4⟩:=hE.B;have e1:=w1.A;have e2:=w1.B;have e3:=w2.A;have e4:=w2.B;have G2:=Y.B g2;have g3:=G2.J (p:=up 1 m) (t:=u1) (f:=fun u=> .a u [.d .i64 ((defN l T.B).getD QF).A,ofL ((defN l T.B).getD QF).B,aq,ar]) (nx0 hw o 1) (Jb r12) (by rw[r12];rfl) (Jd _);simp[XZ,w,f5,r12,e2,e4,z];exact⟨l.length+1-(i+1),by omega,(hL _ _ _).2 ⟨i+1,_,by omega,x,w,M,rfl,g3,⟨u0,by rw[Ji _ _ _ al,ap]⟩,⟨_,Jk _ _ _ _⟩,⟨u2,by rw[Ji _ _ _ am,r22]⟩,by grind⟩⟩
  ·have a2:KP l (l.length+1) t=T:=by
    have:=JfH l t (i:=i) (by grind) (l.length+1-i)
    grind
   simp[XZ,x,w,M,f5,r0,l1,hi,r1,r2,k9,d2,d4]
   grind
 ·have a3:i=l.length+1:=by omega
  simp[XZ,x,w,M,f5,r0,l1,hi,r1,r2,d2,d4]
  grind
theorem JpA :∀(m:Nat) (ty:Ty),tsz ty<m->∀(P:Pt->Prop) (N:St) (s:Sch) (E e:List V),WF N->SchC P N E s->TyC P N e ty->(∀r,P r->N.A r≠ .none)->s.a.length<=100->cntT ty<1000000->okO ty=true->
  Dz 62 [.j E, .j e] N fun v ae=>Gr N ae/\v= .h (YC s.a ty)
 |0,_,h=>absurd h (by omega)
 | m+1, .mk k nm ns f,hm=>by
   intro P N s E e hw U hx hP hl af Y;refine Jn tabM (aT Tryz.func62 rfl) rfl hw fun K ag=> ?_;obtain⟨W,Z⟩:=nxE N;have y:=U;obtain⟨c,tv,sv,rfl,h1,h2,h3⟩:=U;obtain⟨ah,ai,ax,rfl,x1,x2,x3,x4⟩:=h1.B;obtain⟨nv,kv,es,rfl,y1,y2,y3,y4⟩:=hx.D;have l2:=y2.G;rw[y3]at l2;have ay:=x1.A;have aj:=x1.B;have az:=x2.A;have ak:=x2.B;have al:=h2.G;have am:=h3.G;have a0:=y1.A;have ao:=y1.B;have a6:=y2.A;have ap:=y2.B;have O:=Jjn s.a k nm ns f;rw[Jff]at O;rw[Jo4,Xj,Zt,Zl,Zl]at Y;have aw:f.length<1000000:=by have h1:=Jb7 f;rw[Ys]at af;omega
   obtain⟨I,hI⟩:=opE fun w S=>(Gr N S/\w 2= .e (up 0 W) 0/\w 3= .e (up 1 W) 0/\(∃u,S.A (up 0 W)= .a u [.d .i64 s.b.A,ofL s.b.B,ah,ai,tv,sv])/\(∃u,S.A (up 1 W)= .a u [.d .i64 k,ofL nm,nv,kv]))
   simp only[CT,Tryz.f62,XY,simprocAttr];refine YQ I ?_ ?_
   ·simp[XZ,Z,aj,ak,al.1,am.1,ao,ap];exact(hI _ _).2 ⟨(Gr.G hw (Jd _)).L (Jd _),rfl,rfl,⟨_,by simp[XZ,Z];rfl⟩,⟨_,by simp[XZ,Z];rfl⟩⟩
   intro w S ab;obtain⟨Q,z,x,⟨t0,r0⟩,⟨t1,r1⟩⟩:=(hI _ _).1 ab;have aq:∀b,YC s.a (.mk k nm ns f)=b->∀S',Gr S S'->K (.h b) S':=fun b hb S' g=>ag _ _ (fun r e=>(Q.B g).d r e) fun _=>by rw[hb]
   have ad:∀{S':St} {i:Nat} (M:i<f.length),Gr S S'->∃q o E,Jo 4 kv (.d .i64 i)=some (.e q o, .a)/\ldn (S'.A q) o 4=some (.j E, .a)/\TyC P S' E f[i]:=fun{S' i} M g=>by
    have G:=Q.B g;have ar:LstAt (TyC P S') P S' kv 4 f:=⟨es,y2.H G,y3,fun i a b=>(y4 i a b).H G⟩
    obtain⟨q,qo,E',a1,a2,a3,a4,hE,e4,a5⟩:=ar.A M
    grind
   have PS:∀{S':St},Gr S S'->∀r,P r->S'.A r≠ .none:=fun g r p=>by rw[(Q.B g).d r (hP r p)];grind
   refine Jz (fun w S'=>(Gr S S'/\w 2= .e (up 0 W) 0/\w 3= .e (up 1 W) 0/\YC s.a (.mk k nm ns f)=f.any (YC s.a))) (fun J hJ=> ?_) ?_
   ·by_cases k6:k=6
    ·have h0:0<f.length:=Y.1.resolve_left fun h=>h k6;obtain⟨q,o,E',a1,a2,a3⟩:=ad h0 (Gr.F Q.D);have a1:Jo 4 kv (.d .i64 0)=some (.e q o, .a):=a1;have hd:f.headD QF=f[0]:=by cases f with
      |nil=>grind
      |cons a r=>rfl
     rw[Xd k6,hd]at O;rw[Ja];simp[XY,z,x,r0,r1,k6,a1,a2];refine Jj (JsW (P:=P) (s:=s) (Js Q.D S.t) ((y.A Q.H).B S.t) (a3.I S.t) (fun r p=>PS (Gr.F Q.D) r p) hl) ?_;rintro _ S2 g2 ⟨e',rfl,au⟩;obtain⟨a7,a8,a9,rfl,w1,w2,w3,w4⟩:=au.B;obtain⟨T,hT⟩:∃T,T=KP s.a (s.a.length+1) f[0]:=⟨_,rfl⟩
     rw[<-hT]at O⊢;by_cases t6:T.A=6
     ·rw[Xo t6,Gi]at O;simp[XZ,t6]
      grind
     ·rw[Xq t6,ZF]at O;simp[XZ,t6];exact hJ _ _ ⟨g2,z,x,O⟩
    ·rw[Xa k6,ZF]at O;rw[Ja];simp[XZ,x,r1,k6];exact hJ _ _ ⟨Gr.F Q.D,z,x,O⟩
   clear z x ab hI;rintro w S1 ⟨g1,z,x,O⟩;rw[Je,Ja];simp[XY];obtain⟨L,hL⟩:=loE fun j w S'=>∃(i:Nat),j+i=f.length/\w 2= .e (up 0 W) 0/\w 3= .e (up 1 W) 0/\w 5= .d .i64 i/\Gr S S'/\f.any (YC s.a)=(f.drop i).any (YC s.a);refine JC L f.length (by omega) ((hL _ _ _).2 ⟨0,by omega,z,x,by rfl,g1,rfl⟩) ?_;clear z x;intro j w S' av;obtain⟨i,hj,z,x,f5,X,l⟩:=(hL _ _ _).1 av;have r0:=X.A r0;have r1:=X.A r1;by_cases M:i<f.length
   ·have aa:=wiN (i:=i) (by omega);obtain⟨q,o,E',a1,a2,a3⟩:=ad M X;have ba:=jB M;have bb:=Ys k nm ns f;rw[Xc M,Ga]at l;simp[XZ,z,x,f5,r0,r1,l2,M,a1,a2];refine Jj (JpA m f[i] (by have:=YP (k:=k) (n:=nm) (ns:=ns) M;omega) P _ s _ E' (Js X.D S'.t) ((y.A (Q.B X).H).B S'.t) (a3.I S'.t) (fun r p=>PS X r p) hl (by omega) (Jfg Y.2 _ (Xh M))) ?_;rintro _ S2 g2 rfl
    cases hb:YC s.a f[i]with
    | true=>
      rw[hb,Gi]at l;simp[XZ];exact aq _ (by grind) _ (X.B g2)
    | false=>
      rw[hb,ZF]at l;simp[XZ,f5,aa];exact⟨f.length-(i+1),by omega,(hL _ _ _).2 ⟨i+1,by omega,z,x,rfl,X.B g2,l⟩⟩
   ·rw[Xm (by omega)]at l;simp[XZ,x,f5,r1,l2,M]
    grind
theorem JtJ {s:Sch}(hw:WF n)(h:SchC P n v s)(ai:s.a.length<=1000)(h0:s.c=[])(hQ:∀r,P r->Q r)(hN:∀r,n.A r= .none->Q r):
  Dz 61 [.j v] n fun v' U=>Gr n U/\LstAt (TyC Q U) Q U v' 4 (Qk s):=by
 refine Jn tabM (aT Tryz.func61 rfl) rfl hw fun K aa=> ?_;obtain⟨f,ab⟩:=nxE n;obtain⟨c,tv,sv,rfl,h1,Z,h3⟩:=h;obtain⟨M,hM⟩:∃M,M=s.b:=⟨_,rfl⟩
 obtain⟨l,hl⟩:∃l,l=s.a:=⟨_,rfl⟩
 obtain⟨W,ad⟩:∃l,l=s.c:=⟨_,rfl⟩
 have aj:Qk s=l.map Prod.snd++[M]++qd W:=by rw[hM,hl,ad];rfl
 rw[aj]at aa;rw[<-hM]at h1;rw[<-hl]at Z ai;rw[<-ad]at h3 h0;obtain⟨nv,kv,es,rfl,x1,x2,x3,x4⟩:=h1.B;have ak:TyC P n [.d .i64 M.A,ofL M.B,nv,kv] M:=h1;have l1:=Z.H;have l2:=h3.H;simp only[CT,Tryz.f61,XY,simprocAttr];rw[Ja];simp[XY,ab,x1.B,x2.B,Z.G.1,h3.G.1];obtain⟨m,z⟩:=exE (n.B fun t=> .a t [.d .i64 M.A,ofL M.B,nv,kv,tv,sv]);have N:Gr n m:=by rw[z];exact Gr.G hw (Jd _)
 obtain⟨t0,r0⟩:∃t,m.A (up 0 f)= .a t [.d .i64 M.A,ofL M.B,nv,kv,tv,sv]:=⟨_,by rw[z];simp[XZ,ab];rfl⟩
 rw[<-z];clear z;have al:TyC P m [.d .i64 M.A,ofL M.B,nv,kv] M:=ak.H N;have Z:LstAt (NmC P m) P m tv 5 l:=Z.B (fun v x h=>h.A N.H) N.H;have h3:LstAt (SgC P m) P m sv 6 W:=h3.B (fun v x h=>h.A N.H) N.H;have hN:∀r,m.A r= .none->Q r:=fun r h=>hN r (N.I h);have c1:=x1.A;have c2:=x1.B;have c3:=x2.A;have c4:=x2.B;rw[Ja];simp[XY];refine Jz (fun o S=>(∃k,o 1= .e (up 0 f) 0/\o 3=k/\Gr m S/\TysF P m S k (l.map Prod.snd))) (fun J hJ=> ?_) ?_
 ·rw[Ja];simp[XY];obtain⟨I,hI⟩:=loE fun j o S=>∃(i:Nat) (k:V),j+i=l.length/\o 1= .e (up 0 f) 0/\o 3=k/\o 4= .d .i64 i/\Gr m S/\TysF P m S k ((l.take i).map Prod.snd);refine JC I l.length (by omega) ((hI _ _ _).2 ⟨0, .g,by omega,rfl,rfl,by rfl,Gr.F N.D,TysF.F _ _ _⟩) ?_;intro j o S X;obtain⟨i,k,hj,w,L,f4,p,y⟩:=(hI _ _ _).1 X;have rS:=p.A r0;by_cases O:i<l.length
  ·obtain⟨r,q,ae,af,a1,a3,a4,ag,d1,d2,d3,d4⟩:=Jdw Z (fun r v=>p.d r v) O;have a6:=Jcg (a:=1) (b:=4) a4;have a6:ldn (S.A r) (q+1) 4=some (.j [.d .i64 l[i].2.A,ofL l[i].2.B,ae,af], .a):=a6;have wS:=p.D;obtain⟨nS,u⟩:=nxE S;have Y:=wiN (i:=i) (by omega);have ah:(l.take (i+1)).map Prod.snd=(l.take i).map Prod.snd++[l[i].2]:=by rw[XD O,ZA];rfl
   obtain⟨T,hT⟩:∃T,T=l[i].2:=⟨_,rfl⟩
   rw[<-hT]at ag ah a6;simp[XZ,w,L,f4,rS,l1,O,a1,a6,u,d2,d4];have gn:Gr S (S.B fun t=> .a t [.d .i64 T.A,ofL T.B,ae,af]):=Gr.G wS (Jd _);refine JdY (ts':=[T]) (p.B gn) (y.A gn) (JhH u ag.G) rfl (fun i a b=>by
    grind) (by simp) (by grind) ?_
   intro S2 v2 g2 h5 rv kp;rw[<-ah]at h5;simp[XZ,f4,Y];exact⟨l.length-(i+1),by omega,(hI _ _ _).2 ⟨i+1,v2,by omega,w,rfl,rfl,g2,h5⟩⟩
  ·simp[XZ,w,f4,rS,l1,O];rw[Xr (by omega)]at y;exact hJ _ _ ⟨k,w,L,p,y⟩
 rintro o S ⟨k,w,L,p,y⟩;have r1:=p.A r0;have wS:=p.D;obtain⟨nS,u⟩:=nxE S;rw[Ja];simp[XY,w,L,r1,u,c2,c4];have gn:Gr S (S.B fun t=> .a t [.d .i64 M.A,ofL M.B,nv,kv]):=Gr.G wS (Jd _);refine JdY (ts':=[M]) (p.B gn) (y.A gn) (JhH u al.G) rfl (fun i a b=>by
  grind) (by simp) (by grind) ?_
 intro S2 v2 g2 h5 _ _;simp[XY];refine Jz (fun o S=>(∃k,o 3=k/\Gr m S/\TysF P m S k (l.map Prod.snd++[M]++qd W))) (fun J2 am=> ?_) ?_
 ·rw[Ja];simp[XY];obtain⟨I,hI⟩:=loE fun j o S=>∃(i:Nat) (k:V),j+i=W.length/\o 1= .e (up 0 f) 0/\o 3=k/\o 5= .d .i64 i/\Gr m S/\TysF P m S k (l.map Prod.snd++[M]++qd (W.take i));refine JC I W.length (by grind) ((hI _ _ _).2 ⟨0,v2,by omega,w,rfl,by rfl,g2,by rw[GJ];unfold qd;grind⟩) ?_;clear w L;intro j o S X;obtain⟨i,k,hj,w,L,f5,p,y⟩:=(hI _ _ _).1 X;have rS:=p.A r0;by_cases O:i<W.length
  ·rw[h0]at O;cases O
  ·simp[XZ,w,f5,rS,l2,O];rw[Xr (by omega)]at y;exact am _ _ ⟨k,L,p,y⟩
 rintro o S ⟨k,L,p,y⟩;simp[XZ,L];exact aa _ _ (fun r v=>(N.B p).d r v) fun _=>y.D p hQ hN
theorem Jg8 (d:Str->Bool):∀(p:Option Str) (j:List Sg) (e:Nat),(Qs d p j e).1=0->∀f∈j,okOs (f.a++[f.b])=true
 |p,[],e,h=>fun f h=>by cases h
 | p,f::r,e,h=>by
   rw[Y2]at h
   split at h
   ·cases h
   split at h
   ·cases h
   split at h
   ·cases h
   split at h
   ·omega
   rename_i k
   intro g i;rcases Xw.1 i with rfl|i
   ·exact JaS d _ _ _ (by simpa using k)
   ·exact Jg8 d (some f.c) r _ h g i
theorem JpB {p:Option Str}{n:Str}{r:List Str}(a:Ya n=false)(b:Ky p n=false):Kb p (n::r)=Kb (some n) r:=by
 rw[Kb,Xa (by grind),Xa (by grind)]
theorem Jq1 (h0:z.c=[])(hw:WF n)(h:SchC P n v z)(hP:∀r,P r->n.A r≠ .none):
  Dz 27 [.j v] n fun v' ak=>Gr n ak/\v'= .d .i64 (refS z):=by
 refine Jn tabM (aT Tryz.func27 rfl) rfl hw fun K bd=> ?_;obtain⟨f,be⟩:=nxE n;have bf:=JgN z;have bg:=h;obtain⟨c,tv,sv,rfl,h1,h2,h3⟩:=h;obtain⟨M,hM⟩:∃M,M=z.b:=⟨_,rfl⟩
 obtain⟨l,ab⟩:∃l,l=z.a:=⟨_,rfl⟩
 obtain⟨Y,ae⟩:∃l,l=z.c:=⟨_,rfl⟩
 have y:refS z=
  if 12<l.length\/12<Y.length then 3 else
  if Kb none (l.map Prod.fst)≠0 then Kb none (l.map Prod.fst)else
  if(JD (hasN l) (l.map Prod.snd) 1 0).1≠0 then(JD (hasN l) (l.map Prod.snd) 1 0).1 else
  if(mayS (hasN l) M 1 (JD (hasN l) (l.map Prod.snd) 1 0).2).1≠0 then(mayS (hasN l) M 1 (JD (hasN l) (l.map Prod.snd) 1 0).2).1 else
  if(Qs (hasN l) none Y (mayS (hasN l) M 1 (JD (hasN l) (l.map Prod.snd) 1 0).2).2).1≠0 then(Qs (hasN l) none Y (mayS (hasN l) M 1 (JD (hasN l) (l.map Prod.snd) 1 0).2).2).1 else
  if(finR l (l.length+1) []).length≠l.length then 14 else
  if(Qk z).any (YC l)then 17 else 0:=by rw[ab,hM,ae];rfl
 rw[<-hM]at h1;rw[<-ab]at h2;rw[<-ae]at h3;rw[<-ab,<-hM,<-ae]at bf;have bw:=h1;obtain⟨nv,kv,es,rfl,x1,x2,x3,x4⟩:=h1.B;have l1:=h2.H;have l2:=h3.H;have co:=x1.A;have bh:=x1.B;have cp:=x2.A;have bi:=x2.B;have bj:=h2.G;have bk:=h3.G;simp only[CT,Tryz.f27,XY,simprocAttr];rw[Ja];simp only[XY,simprocAttr,be,bh,bi,bj.1,bk.1];obtain⟨S,hS⟩:=exE (n.B fun t=> .a t [.d .i64 M.A,ofL M.B,nv,kv,tv,sv]);have g0:Gr n S:=by rw[hS];exact Gr.G hw (Jd _)
 obtain⟨t0,r0⟩:∃t,S.A (up 0 f)= .a t [.d .i64 M.A,ofL M.B,nv,kv,tv,sv]:=⟨_,by rw[hS];simp only[XZ,simprocAttr,be];rfl⟩
 rw[<-hS];clear hS;by_cases b1:12<l.length
 ·have al:(12:Int)<l.length:=by omega
  rw[Je,Ja];simp only[XZ,simprocAttr,r0,l1,al];refine bd _ _ (fun r e=>g0.d r e) fun _=> ?_
  grind
 have al:¬(12:Int)<l.length:=by omega
 by_cases b2:12<Y.length
 ·have ay:(12:Int)<Y.length:=by omega
  rw[Je,Ja];simp only[XZ,simprocAttr,r0,l1,l2,al,ay]
  grind
 have ay:¬(12:Int)<Y.length:=by omega
 rw[Xa (fun h=>by omega)]at y;rw[Je,Ja];simp only[XY,simprocAttr,r0,l1,l2,al,ay];refine Jz (fun L S'=>(S=S'/\L 1= .e (up 0 f) 0/\Kb none (l.map Prod.fst)=0)) (fun J0 bx=> ?_) ?_
 ·rw[Ja];simp only[XY,simprocAttr];obtain⟨I,hI⟩:=loE fun j L S'=>∃(i:Nat) (p:Option Str),j+i=l.length/\L 1= .e (up 0 f) 0/\L 3= .d .i64 i/\S=S'/\Kb none (l.map Prod.fst)=Kb p ((l.map Prod.fst).drop i)/\(p=if i=0 then none else(l.map Prod.fst)[i-1]?);refine JC I l.length (by omega) ((hI _ _ _).2 ⟨0,none,by omega,rfl,by rfl,rfl,rfl,rfl⟩) ?_;intro j L S' Z;obtain⟨i,p,hj,o,f3,rfl,k,hp⟩:=(hI _ _ _).1 Z;have kS:∀r,n.A r≠ .none->S.A r=n.A r:=fun r e=>g0.d r e;by_cases hi:i<l.length
  ·have O:(i:Int)<l.length:=by omega
   obtain⟨r,q,bl,bm,a1,a3,a4,_⟩:=Jdw h2 kS hi;have a5:=JdZ a4 (j:=0) (by decide) rfl;have a5:ld1 (S.A r) q=some (ofL l[i].1, .a):=a5;obtain⟨N,hN⟩:∃N,N=l[i].1:=⟨_,rfl⟩
   rw[<-hN]at a5;have hd:(l.map Prod.fst).drop i=N::(l.map Prod.fst).drop (i+1):=by
    rw[Xc (by grind),Zv,<-hN]
   rw[hd]at k;have T:=wiN (i:=i) (by omega);have bn:Ya N=true->Kb none (l.map Prod.fst)=15:=fun hb=>by rw[k,Kb,Xd hb]
   have cq:=JqD N;simp only[XZ,simprocAttr,o,f3,r0,l1,O,a1,a5];refine Jc (JmF N _) ?_;rintro _ _ ⟨rfl,rfl⟩
   cases hid:Ks N with
   | false=>
     have hv:=bn (by grind);simp only[XZ,simprocAttr]
     grind
   | true=>
     simp only[XZ,simprocAttr,o,f3,r0,a1,a5];refine Jc (JsT N _) ?_;rintro _ _ ⟨rfl,rfl⟩
     cases cr:Jfc.contains N with
     | true=>
       have hv:=bn (by grind);simp only[XZ,simprocAttr]
       grind
     | false=>
       have bz:Ya N=false:=by grind
       have next:∀{am:Fr},Ky p N=false->am 1= .e (up 0 f) 0->am 3= .d .i64 ((i+1:Nat):Int)->∃j',j'<j/\I j' am S:=fun{am} hl v e3=>
        ⟨l.length-(i+1),by omega,(hI _ _ _).2 ⟨i+1,some N,by omega,v,e3,rfl,by rw[k,JpB bz hl],by grind⟩⟩
       by_cases h0:i=0
       ·have ao:¬(0:Int)<(i:Int):=by omega
        simp only[XZ,simprocAttr,f3,ao,T];exact next (by rw[hp,Xd h0];rfl) o rfl
       ·have ao:(0:Int)<(i:Int):=by omega
        have ax:IntKind.i64.wrap ((i:Int)-1)=((i-1:Nat):Int):=by rw[JV (by omega) (by omega)];omega
        have b0:i-1<l.length:=by omega
        obtain⟨r',q',cs,ct,b1,b3,b4,_⟩:=Jdw h2 kS b0;have b5:=JdZ b4 (j:=0) (by decide) rfl;have b5:ld1 (S.A r') q'=some (ofL l[i-1].1, .a):=b5;have bo:p=some l[i-1].1:=by grind
        cases hl:Op.bytesLess l[i-1].1 N with
        | false=>
          have hv:Kb none (l.map Prod.fst)=6:=by rw[k,Kb,Xa (by grind),Xd (by rw[bo,Ky,hl];rfl)]
          simp only[XZ,simprocAttr,o,f3,r0,ao,ax,a1,a5,b1,b5,JaR,hl]
          grind
        | true=>
          simp only[XZ,simprocAttr,o,f3,r0,ao,ax,a1,a5,b1,b5,JaR,hl,T];exact next (by rw[bo,Ky,hl];rfl) o rfl
  ·have O:¬(i:Int)<l.length:=by omega
   have hv:Kb none (l.map Prod.fst)=0:=by rw[k,Xm (by grind),Kb]
   simp only[XZ,simprocAttr,o,f3,r0,l1,O];exact bx _ _ ⟨rfl,o,hv⟩
 rintro L S' ⟨rfl,o,b6⟩;rw[Xa (fun h=>h b6)]at y;have w0:=g0.D;obtain⟨n2,az⟩:=nxE S;rw[Ja];simp only[XY,simprocAttr,o,r0,az,bh,bi,bj.1,bk.1];obtain⟨S3,ap⟩:=exE (S.B fun t=> .a t [.d .i64 M.A,ofL M.B,nv,kv,tv,sv, .d .i64 0]);have g3:Gr S S3:=by rw[ap];exact Gr.G w0 (Jd _)
 obtain⟨U,a0⟩:=exE (up 0 n2);obtain⟨tk,rk⟩:∃u,S3.A U= .a u [.d .i64 M.A,ofL M.B,nv,kv,tv,sv, .d .i64 ((0:Nat):Int)]:=⟨_,by rw[ap,a0];simp only[XZ,simprocAttr,az];rfl⟩
 have b7:S.A U= .none:=by rw[a0];exact nx0 w0 az 0
 rw[<-ap,<-a0];clear ap;have G3:=g0.B g3;have aq:up 0 f≠U:=fun h=>by grind
 have r0:=g3.A r0;have qk:n.A U= .none:=g0.I b7;have af:∀r,n.A r≠ .none->r≠U:=fun r e h=>e (by grind);have b8:∀r,P r->r≠U:=fun r p=>af r (hP r p);have keep:∀{S':St},Ch (fun r=>r=U) S3 S'->∀r,n.A r≠ .none->S'.A r=n.A r:=fun c r e=>by rw[c.d r (by rw[G3.d r e];exact e) (af r e),G3.d r e]
 have W:∀{S':St} {p:Pt} {u:Nat} {x:List V},Ch (fun r=>r=U) S3 S'->S3.A p= .a u x->p≠U->S'.A p= .a u x:=fun c e f=>by rw[c.d _ (Jb e) f,e]
 have X:∀{S':St},Ch (fun r=>r=U) S3 S'->SchC P S' ([.d .i64 M.A,ofL M.B,nv,kv]++[tv,sv]) z:=fun c=>bg.A fun r p e=>⟨p,keep c r e⟩
 have bp:∀{S':St} {E:List V} {t:Ty} {ad:Nat},Ch (fun r=>r=U) S3 S'->TyC P S' E t->(∃u,S'.A U= .a u [.d .i64 M.A,ofL M.B,nv,kv,tv,sv, .d .i64 (ad:Int)])->ad<=400->
   Dz 58 [.e U 0, .j E, .d .i64 1] S' fun g ak=>Ch (fun r=>r=U) S' ak/\(∃u,ak.A U= .a u [.d .i64 M.A,ofL M.B,nv,kv,tv,sv, .d .i64 ((mayS (hasN l) t 1 ad).2:Nat)])/\g= .d .i64 (mayS (hasN l) t 1 ad).1:=fun{S' E t ad} c ht hk hm=>by
  rw[ab];exact Jr0 _ t (XK _) P S' U z ad _ E 1 c.D (X c) ht b8 hk (by decide) hm (by grind) (.inr trivial)
 rw[Ja];simp only[XY,simprocAttr];refine Jz (fun L S'=>(L 1= .e (up 0 f) 0/\L 4= .e U 0/\L 5= .d .i64 (JD (hasN l) (l.map Prod.snd) 1 0).1/\Ch (fun r=>r=U) S3 S'/\∃u,S'.A U= .a u [.d .i64 M.A,ofL M.B,nv,kv,tv,sv, .d .i64 ((JD (hasN l) (l.map Prod.snd) 1 0).2:Nat)])) (fun J1 bq=> ?_) ?_
 ·rw[Ja];simp only[XY,simprocAttr];obtain⟨I,hI⟩:=loE fun j L S'=>∃(i mi:Nat) (x:Int),j+i=l.length/\L 1= .e (up 0 f) 0/\L 4= .e U 0/\L 5= .d .i64 x/\L 6= .d .i64 i/\Ch (fun r=>r=U) S3 S'/\(∃u,S'.A U= .a u [.d .i64 M.A,ofL M.B,nv,kv,tv,sv, .d .i64 (mi:Int)])/\JD (hasN l) (l.map Prod.snd) 1 0=(if x≠0 then(x,mi)else JD (hasN l) ((l.map Prod.snd).drop i) 1 mi)/\(x=0->mi<=400);refine JC I l.length (by omega) ((hI _ _ _).2 ⟨0,0,0,by omega,o,rfl,rfl,by rfl,Ch.G _ g3.D,⟨tk,rk⟩,by rfl,fun _=>by omega⟩) ?_;clear o;intro j L S2 Z;obtain⟨i,mi,x,hj,o,f4,f5,f6,C2,⟨ub,ar⟩,ag,a2⟩:=(hI _ _ _).1 Z;have ah:=W C2 r0 aq;by_cases hi:i<l.length
  ·have O:(i:Int)<l.length:=by omega
   by_cases hx:x=0
   ·rw[Xa (fun h=>h hx),Xc (by grind),Kg,Zv]at ag;obtain⟨r,q,bl,bm,a1,a3,a4,b9,d1,d2,d3,d4⟩:=Jdw h2 (keep C2) hi;have a6:=Jcg (a:=1) (b:=4) a4;have a6:ldn (S2.A r) (q+1) 4=some (.j [.d .i64 l[i].2.A,ofL l[i].2.B,bl,bm], .a):=a6;have T:=wiN (i:=i) (by omega);simp only[XZ,simprocAttr,o,f4,f5,f6,ah,l1,O,hx,a1,a6];refine Jc (bp C2 (b9.A fun r p e=>⟨p,keep C2 r e⟩) ⟨ub,ar⟩ (a2 hx)) ?_;rintro _ S4 ⟨c4,⟨u4,au⟩,rfl⟩;have C4:=C2.A c4 fun r w=> .inl w;have ca:=QN (hasN l) l[i].2 1 mi (a2 hx);simp only[XZ,simprocAttr,f6,T];exact⟨l.length-(i+1),by omega,(hI _ _ _).2 ⟨i+1,_,_,by omega,o,f4,rfl,rfl,C4,⟨u4,au⟩,ag,ca.2⟩⟩
   ·rw[Xd hx]at ag;simp only[XZ,simprocAttr,o,f5,f6,ah,l1,O,hx];exact bq _ _ ⟨o,f4,by simp only[XZ,simprocAttr,f5,ag],C2,ub,by grind⟩
  ·have O:¬(i:Int)<l.length:=by omega
   have br:JD (hasN l) (l.map Prod.snd) 1 0=(x,mi):=by
    rw[ag,Xm (by grind),QU]
    grind
   simp only[XZ,simprocAttr,o,f6,ah,l1,O];exact bq _ _ ⟨o,f4,by simp only[XZ,simprocAttr,f5,br],C2,ub,by grind⟩
 clear o;rintro L S2 ⟨o,f4,f5,C2,⟨u2,ar⟩⟩;by_cases aa:(JD (hasN l) (l.map Prod.snd) 1 0).1=0;rotate_left
 ·rw[Je,Ja];simp only[XY,simprocAttr,f5,aa];rw[Je,Ja];simp only[XZ,simprocAttr,f5,aa]
  grind
 rw[Xa (fun h=>h aa)]at y;rw[aa]at f5;have cb:=kQ (hasN l) (l.map Prod.snd) 1 0 aa;have a7:=(YJ (hasN l) (l.map Prod.snd) 1 0 (by decide)).2 aa;have bt:=JaS (hasN l) (l.map Prod.snd) 1 0 aa;obtain⟨m1,cc⟩:∃m,m=(JD (hasN l) (l.map Prod.snd) 1 0).2:=⟨_,rfl⟩
 rw[<-cc]at y ar a7 cb;have ah:=W C2 r0 aq;rw[Je,Ja];simp only[XY,simprocAttr,f5];simp only[XZ,simprocAttr,o,f4,ah];refine Jc (bp C2 (bw.A fun r p e=>⟨p,keep C2 r e⟩) ⟨u2,ar⟩ a7) ?_;rintro _ S4 ⟨c4,⟨u4,au⟩,rfl⟩;have C4:=C2.A c4 fun r w=> .inl w;by_cases he:(mayS (hasN l) M 1 m1).1=0;rotate_left
 ·simp only[XZ,simprocAttr,he]
  grind
 rw[Xa (fun h=>h he)]at y;have bu:=Jao (hasN l) M 1 m1 he;have a8:=(QN (hasN l) M 1 m1 a7).2 he;have cm:=Jfh (hasN l) M 1 m1 he;obtain⟨m2,cd⟩:∃m,m=(mayS (hasN l) M 1 m1).2:=⟨_,rfl⟩
 rw[<-cd]at y au a8 bu;simp only[XY,simprocAttr];rw[Je,Ja];simp only[XY,simprocAttr,he];refine Jz (fun L S'=>(L 1= .e (up 0 f) 0/\Ch (fun r=>r=U) S3 S'/\(Qs (hasN l) none Y m2).1=0)) (fun J2 ce=> ?_) ?_
 ·rw[Ja];simp only[XY,simprocAttr];obtain⟨I,hI⟩:=loE fun j L S'=>∃(i mi:Nat) (p:Option Str),j+i=Y.length/\L 1= .e (up 0 f) 0/\L 4= .e U 0/\L 5= .d .i64 0/\L 7= .d .i64 i/\Ch (fun r=>r=U) S3 S'/\(∃u,S'.A U= .a u [.d .i64 M.A,ofL M.B,nv,kv,tv,sv, .d .i64 (mi:Int)])/\mi<=400/\Qs (hasN l) none Y m2=Qs (hasN l) p (Y.drop i) mi/\(p=if i=0 then none else(Y.map Sg.c)[i-1]?);refine JC I Y.length (by omega) ((hI _ _ _).2 ⟨0,m2,none,by omega,o,f4,by rfl,by rfl,C4,⟨u4,au⟩,a8,rfl,rfl⟩) ?_;clear o f4 f5;intro j L S5 Z;obtain⟨i,mi,p,hj,o,f4,f5,f7,C5,⟨u5,cu⟩,a2,k,hp⟩:=(hI _ _ _).1 Z;have av:=W C5 r0 aq;by_cases hi:i<Y.length
  ·rw[ae,h0]at hi;cases hi
  ·have O:¬(i:Int)<Y.length:=by omega
   rw[Xm (by omega),Qs]at k;simp only[XZ,simprocAttr,o,f7,av,l2,O];exact ce _ _ ⟨o,C5,by rw[k]⟩
 clear o f4 f5;rintro L S5 ⟨o,C5,a9⟩;rw[Xa (fun h=>h a9)]at y;obtain⟨cv,cw,cx⟩:=Jb9 (hasN l) none Y m2 a8 a9;have cn:=Jg8 (hasN l) none Y m2 a9;have av:=W C5 r0 aq;have w5:=C5.D;rw[Je,Ja];simp only[XY,simprocAttr,o,av];refine Jj (Jpy (P:=P) (s:=z) (Js w5 S5.t) ((X C5).B S5.t) (by grind) (by grind)) ?_;rw[<-ab];rintro fv S6 g6 cf;have lf:=cf.G;rw[Jw]at lf;have C6:=C5.I g6;have aw:=g6.A av;obtain⟨F,hF⟩:∃F,F=(finR l (l.length+1) []).length:=⟨_,rfl⟩
 rw[<-hF]at lf y;by_cases cg:F=l.length;rotate_left
 ·have ai:¬(F:Int)=(l.length:Int):=by omega
  simp only[XZ,simprocAttr,o,lf,aw,l1,ai]
  grind
 have ai:(F:Int)=(l.length:Int):=by omega
 rw[Xa (fun h=>h cg)]at y;simp only[XY,simprocAttr,o,lf,aw,l1,ai];rw[Ja];simp only[XY,simprocAttr,o,aw];refine Jc (JtJ (P:=P) (Q:=fun r=>P r\/S6.A r= .none) (s:=z) C6.D (X C6) (by grind) h0 (fun r p=> .inl p) fun r p=> .inr p) ?_;rintro ev S7 ⟨g7,aj⟩;have C7:=C6.I g7;have ch:=g7.A aw;have bv:∀t∈Qk z,cntT t<1000000/\okO t=true:=fun t ht=>by
  rw[bf]at ht;rcases Xy.1 ht with ht|ht
  ·rcases Xy.1 ht with ht|ht
   ·exact⟨by have:=Jmi ht;omega,Jfg bt t ht⟩
   grind
  ·unfold qd at ht
   grind
 have ba:(Qk z).length<1000000:=by
  have hk:qd Y=[]:=by rw[ae,h0];rfl
  grind
 have le:=aj.H;simp only[XY,simprocAttr];rw[Je,Ja];simp only[XY,simprocAttr];obtain⟨A,hA⟩:∃A,A=Qk z:=⟨_,rfl⟩
 rw[<-hA]at aj le ba bv y;obtain⟨I,hI⟩:=loE fun j L S'=>∃(i:Nat),j+i=A.length/\L 1= .e (up 0 f) 0/\L 10=ev/\L 11= .d .i64 i/\Gr S7 S'/\A.any (YC l)=(A.drop i).any (YC l);refine JC I A.length (by omega) ((hI _ _ _).2 ⟨0,by omega,o,rfl,by rfl,Gr.F g7.D,rfl⟩) ?_;clear o;intro j L S8 Z;obtain⟨i,hj,o,bb,bc,g8,k⟩:=(hI _ _ _).1 Z;have C8:=C7.I g8;have cj:=g8.A ch;by_cases hi:i<A.length
 ·have O:(i:Int)<A.length:=by omega
  obtain⟨q2,qo,E',c1,c2,c3,c4,hE,e4,c5⟩:=(aj.B (fun e x h=>h.H g8) g8.H:LstAt (TyC (fun r=>P r\/S6.A r= .none) S8) (fun r=>P r\/S6.A r= .none) S8 ev 4 A).A hi;have T:=wiN (i:=i) (by omega);rw[Xc hi,Ga]at k;obtain⟨ck,cl⟩:=bv _ (Xh hi);simp only[XZ,simprocAttr,o,bb,bc,cj,le,O,c1,c4];refine Jj (JpA _ A[i] (XK _) (fun r=>S8.A r≠ .none) _ z _ E' (Js C8.D S8.t) (((X C8).A fun r p e=>⟨e,rfl⟩).B S8.t) ((hE.A fun r p e=>⟨e,rfl⟩:TyC (fun r=>S8.A r≠ .none) S8 E' A[i]).I S8.t) (fun r p=>p) (by grind) ck cl) ?_;rw[<-ab];rintro _ S9 g9 rfl
  cases hb:YC l A[i]with
  | true=>
    rw[hb,Gi]at k;simp only[XZ,simprocAttr];refine bd _ _ (keep (C8.I g9)) fun _=> ?_
    grind
  | false=>
    rw[hb,ZF]at k;simp only[XZ,simprocAttr,bc,T];exact⟨A.length-(i+1),by omega,(hI _ _ _).2 ⟨i+1,by omega,o,bb,rfl,g8.B g9,k⟩⟩
 ·have O:¬(i:Int)<A.length:=by omega
  rw[Xm (by omega)]at k;simp only[XZ,simprocAttr,bb,bc,le,O]
  grind
theorem JhS (b:z.c=[])(f:WF n)(h:SchC P n v z):
  Dz 27 [.j v] n fun g a=>Gr n a/\g= .d .i64 (refS z):=
 Jq1 (P:=fun r=>P r/\n.A r≠ .none) b f (h.A fun r p e=>⟨⟨p,e⟩,rfl⟩) fun r p=>p.2
theorem JpC {R:Row}(h:ldn R k 5=some (.j (d::v), .a)):ldn R (k+1) 4=some (.j v, .a):=by
 have b:∀l:List V,(if k+5<=l.length then some (V.j ((l.drop k).take 5),Eff.a)else none)=some (V.j (d::v),Eff.a)->(if k+1+4<=l.length then some (V.j ((l.drop (k+1)).take 4),Eff.a)else none)=some (V.j v,Eff.a):=fun l e=>by
  by_cases g:k+5<=l.length
  ·rw[Xd g]at e;injection e with e;injection e with e;injection e with e;have i:l.drop (k+1)=(l.drop k).drop 1:=by rw[ZH]
   rw[Xd (by omega),i];generalize l.drop k=D at e
   cases D with
   |nil=>cases e
   | cons a r=>
     simp only[Hl]at e;injection e with _ e;simp[e]
  ·rw[Xa g]at e;cases e
 cases R with
 |a t l=>rw[kO]at h⊢;exact b l h
 |f l=>rw[Jez]at h⊢;exact b l h
 |_=>cases h
theorem _root_.Eva.RT.F {S':St}{w x:V}{rest':List V}(h:RT n p b w x v P q t)(g:Gr n S')(y:∃c,S'.A b= .a c (w::x::rest'))(k:∀r,Bt b w x P r->r≠b->S'.A r=p.A r):RT n S' b w x rest' P q t:=by
 obtain⟨z,l1,l2,l3⟩:=h.l;obtain⟨K,t1,t2,t3⟩:=h.t;refine⟨g,h.m,y,⟨z,l1.B fun r e=>k r (.inr (.inl e)) (h.f r e).2,l2,fun i a s=>(l3 i a s).A fun r u _=>⟨u,k r (.inr (.inr (.inr u))) (h.o r u).2.2.1⟩⟩,⟨K,t1.B fun r e=>k r (.inr (.inr (.inl e))) (h.j r e),t2,fun i a s=>(t3 i a s).A fun r u _=>⟨u,by rw[g.d r u,h.g.d r u]⟩⟩,h.f,h.j,fun r u=> ?_⟩;obtain⟨a,s⟩:=h.o r u;exact⟨by rw[k r (.inr (.inr (.inr u))) s.2.1];exact a,s⟩
structure RN (S1 S:St) (s:Sch) (tb:Tb) (ru:Pt) (lv tv dv nv kv sv tyv:V) (O:Pt->Prop) (tr:List Ty) (ids:List Nat) (mn:Nat):Prop where
 a:RT S1 S ru lv tv [.d .i64 s.b.A,ofL s.b.B,nv,kv,tyv,sv,dv, .d .i64 (mn:Nat), .g] O tb.a tr
 t:KZ tb.a tr
 d:SlF S1 S dv 1 (ints ids)
 c:∀r,rowOf dv=some r->¬Bt ru lv tv O r
 e:ids.length<=s.a.length
 b:∀k (h:k<ids.length) (h':k<s.a.length),Kh tb.a s.a[k].2=some ids[k]
theorem JpD (d:z.c=[]):newS z=if Qv z≠0 then(none,Qv z)else if(Jq z.a JE).2≠0 then(none,(Jq z.a JE).2)else if(addT z.b 400 (Jq z.a JE).1).2.2.1≠0 then(none,(addT z.b 400 (Jq z.a JE).1).2.2.1)else(some {(addT z.b 400 (Jq z.a JE).1).1 with b:=(addT z.b 400 (Jq z.a JE).1).2.1},0):=by
 rw[Jcb,d];simp[Kc]
theorem Jng (h:KZ q t)(l:k<q.length)(f:k<t.length):q[k].d=t[k].B:=by
 have c:=h.b k f;generalize t[k]=X at c;obtain⟨a,n,m,g⟩:=X;rw[Kh]at c
 cases e:JT q g with
 |none=>rw[e]at c;cases c
 | some j=>
   rw[e]at c;obtain⟨_,b⟩:=jC c;rw[GZ]at b;obtain⟨_,b⟩:=Xz.1 b;rw[b];rfl
structure RD (S1 S:St) (s:Sch) (tb:Tb) (ru:Pt):Prop where
 a:∃lv tv dv nv kv sv tyv O tr ids,RN S1 S s tb ru lv tv dv nv kv sv tyv O tr ids tb.b/\ids.length=s.a.length/\LstAt (NmC (fun r=>S1.A r≠ .none) S1) (fun r=>S1.A r≠ .none) S1 tyv 5 s.a
 b:kg s tb
theorem JpE {id o:Nat}(hD:RD n p z l b)(ho:Ku l (l.a.length+1) id=(o,true)):
  Dz 125 [.e b 0, .d .i64 (id:Nat)] p fun v U=>v= .p [.d .i64 (o:Nat), .h true]/\p=U:=by
 refine Jl (aT Tryz.func125 rfl) rfl ?_;have W:=hD.b;obtain⟨lv,tv,dv,nv,kv,sv,af,O,tr,y,N,ap,ag⟩:=hD.a;obtain⟨t,X⟩:=N.a.d;obtain⟨es,l1,l2,l3⟩:=N.a.l;obtain⟨ts,u1,u2,u3⟩:=N.a.t;have ll:=l1.D.G;rw[l2]at ll;have ar:=N.t.c;have aq:=(JaN W.e).1;have P:LstAt (NmC (fun r=>n.A r≠ .none) p) (fun r=>n.A r≠ .none) p af 5 z.a:=ag.B (fun _ _ x=>x.A fun r m _=>⟨m,N.a.g.d r m⟩) fun r m _=>⟨m,N.a.g.d r m⟩
 have ah:=P.H;have hid:id<l.a.length:=Xf fun c=>by rw[qG (by omega)]at ho;cases ho
 have n0:¬((id:Nat):Int)<0:=by omega
 have n1:¬((l.a.length:Nat):Int)<=((id:Nat):Int):=by omega
 simp only[CT,Tryz.f125,XY,simprocAttr];rw[Ja];simp[XY];rw[Je,Ja];simp[XY,X,ll,n0,n1];obtain⟨L,hL⟩:=loE fun f Q U=>∃i:Nat,Q 0= .e b 0/\Q 1= .d .i64 (i:Nat)/\Ku l f i=(o,true)/\U=p;rw[Je];simp[XY];refine JC L (l.a.length+1) (by omega) ((hL _ _ _).2 ⟨id,rfl,rfl,ho,rfl⟩) ?_;intro f Q U ai;obtain⟨i,w,Y,u,rfl⟩:=(hL _ _ _).1 ai
 cases f with
 |zero=>cases u
 |succ f=>
 have hi:i<l.a.length:=Xf fun c=>by rw[qG (by omega)]at u;cases u
 obtain⟨r,q,a1,_,_,_,a5⟩:=l1.D.I (i:=i) (by omega);obtain⟨xv,yv,he,_,_⟩:=l3 i (by omega) hi;have d0:ld1 (U.A r) q=some (.d .i64 l.a[i].a, .a):=by
  have:=a5 0 (by rw[he];simp);rw[show q=q+0 from rfl,this];simp[he]
 by_cases h9:l.a[i].a=9;rotate_left
 ·rw[qH hi h9]at u;injection u with u;subst u;rw[Je,Ja];simp[XZ,w,Y,X,a1,d0,h9]
 have aj:hasN z.a l.a[i].d=true:=W.c.a i _ (Xg hi) h9;obtain⟨T,hT⟩:=Jcd aj;have au:=N.t.a;have aa:i<tr.length:=by omega
 have ak:=Jng N.t hi aa;obtain⟨r',q',b1,_,_,_,b5⟩:=u1.D.I (i:=i) (by omega);obtain⟨av,aw,ax,ab,_,_,_,_⟩:=(u3 i (by omega) aa).B;have d1:ld1 (U.A r') (q'+1)=some (ofL l.a[i].d, .a):=by
  have:=b5 1 (by rw[ab];simp);rw[this,ak];simp[ab]
 rw[Je,Ja];simp[XY,w,Y,X,a1,d0,h9];rw[Ja];simp[XY];refine Jy (fun j Q S2=>∃k:Nat,j+k=z.a.length/\Q 0= .e b 0/\Q 1= .d .i64 (i:Nat)/\Q 6= .d .i64 (k:Nat)/\(∀k' (h:k'<z.a.length),k'<k->z.a[k'].1≠l.a[i].d)/\S2=U) z.a.length (by omega) ⟨0,by omega,w,Y,by simp[XZ]<;>rfl,fun k' _ h=>absurd h (XO _),rfl⟩ ?_;rintro M hM j Q S2 ⟨k,hj,w,Y,f6,ad,rfl⟩;by_cases hk:k<z.a.length;rotate_left
 ·obtain⟨k',al,e⟩:=X1 hT;exact absurd (by rw[e]) (ad k' al (by omega))
 have Z:=wiN (i:=k) (by omega);obtain⟨r2,q2,e2,c1,_,_,_,⟨ce,am,_⟩,c5,c6⟩:=P.A hk;have d2:ld1 (S2.A r2) q2=some (ofL z.a[k].1, .a):=by
  have:=c6 0 (by omega);rw[show q2=q2+0 from rfl,this];simp[am]
 rw[Je,Ja];simp[XY,w,f6,X,ah,hk];rw[Je];simp[XY];by_cases K:z.a[k].1=l.a[i].d
 ·have ae:k<y.length:=by omega
  obtain⟨jj,g1,g2⟩:=W.b _ (Xh hk);have ao:jj=y[k]:=by
   have:=N.b k ae hk;rw[g2]at this;injection this
  subst ao;rw[K]at g1;rw[j7 hi h9 g1]at u;obtain⟨r3,q3,p1,_,_,_,p5⟩:=N.d.D.I (i:=k) (by rw[JS];exact ae);have d3:ld1 (S2.A r3) q3=some (.d .i64 (y[k]:Nat), .a):=by
   have:=p5 0 (by simp[ints]);rw[show q3=q3+0 from rfl,this];simp[ints]
  rw[Ja];simp[XY,w,Y,f6,X,c1,d2,b1,d1,K];simp[XZ,w,f6,X,p1,d3];exact⟨f,by omega,(hL _ _ _).2 ⟨y[k],w,rfl,u,rfl⟩⟩
 ·rw[Ja];simp[XY,w,Y,f6,X,c1,d2,b1,d1,K];simp[w,Z];exact⟨z.a.length-(k+1),by omega,hM _ _ _ ⟨k+1,by omega,w,Y,rfl,fun k2 h2 h3=>by
   by_cases e:k2=k
   ·subst e;exact K
   ·exact ad k2 h2 (by omega),rfl⟩⟩
def JfI (Sb st S:St)(s:Sch)(v:V):Prop:=match newS s with
 |(none,e)=>v= .p [.s, .d .i64 e]
 |(some tb,_)=>∃ru lv tv dv nv kv sv tyv O tr ids,v= .p [.e ru 0, .d .i64 0]/\RN Sb S s tb ru lv tv dv nv kv sv tyv O tr ids tb.b/\ids.length=s.a.length/\LstAt (NmC (fun r=>Sb.A r≠ .none) Sb) (fun r=>Sb.A r≠ .none) Sb tyv 5 s.a/\∀r,(Bt ru lv tv O r\/rowOf dv=some r)->st.A r= .none
theorem Jr3 (hw:WF p)(hb:Gr n p)(h:SchC (fun r=>n.A r≠ .none) p v z)(hs:z.c=[]):
  Dz 18 [.j v] p fun l S=>Gr p S/\JfI n p S z l:=by
 refine Jn tabM (aT Tryz.func18 rfl) rfl hw fun K ar=> ?_;have P:=JpD hs;obtain⟨n0,bg⟩:=nxE p;have bh:=h;obtain⟨c,y,sv,rfl,h1,h2,h3⟩:=h;rw[hs]at h3;obtain⟨M,hM⟩:=exE (z.b);rw[<-hM]at h1;obtain⟨nv,kv,es,rfl,x1,x2,x3,x4⟩:=h1.B;have l2:=h2.H;have l3:JU sv=some (.d .i64 0, .a):=h3.I;have ca:=x1.A;have bi:=x1.B;have cb:=x2.A;have bj:=x2.B;have bk:=h2.G;have bl:=h3.G;simp only[CT,Tryz.f18,XY,simprocAttr];rw[Ja];simp[XY,bg,bi,bj,bk.1,bl.1];refine Jmu ?_;intro S0 ax;have g0:Gr p S0:=by rw[ax];exact Gr.G hw (Jd _)
 obtain⟨p1,bm⟩:=exE (up 0 n0);obtain⟨t0,r0⟩:∃t,S0.A p1= .a t [.d .i64 M.A,ofL M.B,nv,kv,y,sv]:=⟨_,by rw[ax,bm];simp[XZ,bg];rfl⟩
 rw[<-bm];clear ax;have bn:∀{S:St},Gr p S->SchC (fun r=>S.A r≠ .none) S [.d .i64 M.A,ofL M.B,nv,kv,y,sv] z:=fun g=>bh.A fun r w q=>⟨by rw[g.d r q];exact q,g.d r q⟩
 rw[Je,Ja];simp[XY,r0];refine Jc (JhS hs g0.D (bn g0)) ?_;rintro _ S1 ⟨g1,rfl⟩;have r1:=g1.A r0;have ae:=g0.B g1;rw[Jo7];by_cases hc:Qv z=0;rotate_left
 ·rw[Xd hc]at P;simp[XY,hc];rw[Ja];simp[XY,r1];refine Jc (JhS hs ae.D (bn ae)) ?_;rintro _ S2 ⟨g2,rfl⟩;rw[Jo7];simp[XZ];refine ar _ _ (fun r e=>(ae.B g2).d r e) fun _=> ?_;unfold JfI;rw[P]
 rw[Xa fun k=>k hc]at P;obtain⟨ay,ai,aj⟩:=JkL hc;obtain⟨b8,_⟩:=JaN hc;simp[XY,hc];obtain⟨n1,az⟩:=nxE S1;have w1:=ae.D;obtain⟨W,a0⟩:=exE (up 0 n1);rw[Ja];simp[XY,r1,az,bi,bj,bk.1,bl.1];rw[<-a0];obtain⟨S2,au⟩:=exE (S1.B fun t=> .a t [.g, .g, .d .i64 M.A,ofL M.B,nv,kv,y,sv, .g, .d .i64 0, .g]);have g2:Gr S1 S2:=by rw[au];exact Gr.G w1 (Jd _)
 obtain⟨t2,r2⟩:∃t,S2.A W= .a t [.g, .g, .d .i64 M.A,ofL M.B,nv,kv,y,sv, .g, .d .i64 0, .g]:=⟨_,by rw[au,a0];simp[XZ,az];rfl⟩
 have run:S1.A W= .none:=by rw[a0];exact nx0 w1 az 0
 rw[<-au];clear au;have a6:∀{r},S1.A r= .none->n.A r= .none:=fun{r} e=>(hb.B ae).I e;have R2:RT n S2 W .g .g [.d .i64 M.A,ofL M.B,nv,kv,y,sv, .g, .d .i64 0, .g] (fun _=>False) JE.a []:=⟨(hb.B ae).B g2,a6 run,⟨t2,r2⟩,⟨[],SlF.I _ _ _,rfl,fun i h=>absurd h (XO _)⟩,⟨[],SlF.I _ _ _,rfl,fun i h=>absurd h (XO _)⟩,fun r e=>(nomatch e),fun r e=>(nomatch e),fun r (e:False)=>e.elim⟩
 have N2:RN n S2 z JE W .g .g .g nv kv sv y (fun _=>False) [] [] 0:=⟨by grind,KZ.F,SlF.I _ _ _,(fun r e=>by cases e),XC _,fun k h=>absurd h (XO _)⟩
 obtain⟨F,hF⟩:∃F:St->Prop,∀S,F S<->∀r,S1.A r≠ .none->S.A r=S1.A r:=⟨_,fun _=>Iff.rfl⟩
 have F2:F S2:=(hF _).2 fun r e=>g2.d r e;have ag:∀{S:St},F S->∀{r},p.A r≠ .none->S.A r=p.A r:=fun{S} f {r} e=>by rw[(hF _).1 f r (by rw[ae.d r e];exact e),ae.d r e]
 have a7:∀{S:St},F S->∀{r},S.A r= .none->S1.A r= .none:=fun{S} f {r} e=>Xf fun c=>c (by grind);have ak:∀{S:St},F S->S.A p1= .a t0 [.d .i64 M.A,ofL M.B,nv,kv,y,sv]:=fun f=>((hF _).1 f p1 (Jb r1)).trans r1;have bv:∀{S:St},F S->LstAt (NmC (fun r=>n.A r≠ .none) S) (fun r=>n.A r≠ .none) S y 5 z.a:=fun f=>h2.B (fun _ _ x=>x.A fun r w e=>⟨w,ag f e⟩) fun r w e=>⟨w,ag f e⟩
 rw[Je,Ja];simp[XY];obtain⟨J,hJ⟩:=opE fun fr S=>∃(lv tv dv:V) (O:Pt->Prop) (tr:List Ty) (Y:List Nat),fr 1= .e p1 0/\fr 4= .e W 0/\RN n S z (Jq z.a JE).1 W lv tv dv nv kv sv y O tr Y 0/\F S/\(∀r,Bt W lv tv O r\/rowOf dv=some r->S1.A r= .none)/\Y.length=z.a.length/\(Jq z.a JE).2=0;refine Jy (fun j fr S=>∃(i:Nat) (lv tv dv:V) (O:Pt->Prop) (tr:List Ty) (Y:List Nat) (U:Tb),j+i=z.a.length/\fr 1= .e p1 0/\fr 4= .e W 0/\fr 5= .d .i64 (i:Nat)/\RN n S z U W lv tv dv nv kv sv y O tr Y 0/\F S/\(∀r,Bt W lv tv O r\/rowOf dv=some r->S1.A r= .none)/\Y.length=i/\Jq z.a JE=Jq (z.a.drop i) U) z.a.length (by omega) ⟨0, .g, .g, .g,_,[],[],JE,by omega,rfl,rfl,by rfl,N2,F2,(fun r e=>by rcases e with(e|e|e|e)|e<;>first|grind|cases e),rfl,rfl⟩ ?_;rintro L hL j fr S3 ⟨i,lv,tv,dv,O,tr,Y,U,hj,f1,f4,f5,N,F3,fb,b9,ab⟩;have g3:=N.a.g;by_cases hi:i<z.a.length
 ·have a8:=wiN (i:=i) (by omega);obtain⟨q,o,e,a1,a2,a3,a4,⟨ce,he,av⟩,cc,a5⟩:=(bv F3).A hi;obtain⟨hf,bo⟩:=ay _ (Xh hi);rw[Xc hi]at ab;obtain⟨X,hX⟩:=exE (z.a[i]);rw[<-hX]at av hf bo ab he;obtain⟨bw,bx,cd,rfl,y1,y2,_,_⟩:=av.B;subst he;have d0:=a5 1 (by simp);have bz:ldn (S3.A q) (o+1) 4=some (.j [.d .i64 X.2.A,ofL X.2.B,bw,bx], .a):=JpC a4;rw[Je,Ja];simp[XY,f1,f5,ak F3,l2,hi];rw[Je];simp[XY];rw[Ja];simp[XY,f1,f4,f5,ak F3,a1,bz];by_cases Z:(addT X.2 400 U).2.2.1=0;rotate_left
  ·refine Jc (Jpv _ X.2 (XK _) N.a N.t av Z hf bo ⟨_,_,_,_,_,_,_,_,_,rfl⟩) ?_;rintro _ S4 ⟨g4,K4,rfl⟩;have hz:(Jq z.a JE).2=20:=by
    rw[ab,show X=(X.1,X.2)from rfl,Jjz Z];exact(Je4 X.2 400 U).resolve_left Z
   simp[XZ];refine ar _ _ (fun r e=>by rw[K4.c r (by grind) fun b=>e (by grind),ag F3 e]) fun _=> ?_;unfold JfI
   grind
  refine Jc (JmE _ X.2 (XK _) N.a N.t av Z ⟨_,_,_,_,_,_,_,_,_,rfl⟩) ?_;rintro _ S4 ⟨Q,T,O4,a9,R4,T4,K4,rfl⟩;obtain⟨t4,r4⟩:=R4.d;obtain⟨_,_,am,_⟩:=Yt X.2 Z;obtain⟨rn,ao⟩:=Jbz Z;obtain⟨ah,af⟩:=exE ((addT X.2 400 U).1);obtain⟨id,hid⟩:=exE ((addT X.2 400 U).2.1);rw[<-af]at R4 T4 am ao;rw[<-hid]at am⊢;have ba:Jq z.a JE=Jq (z.a.drop (i+1)) {ah with c:=setI X.1 id ah.c}:=by rw[ab,show X=(X.1,X.2)from rfl,JkM Z,af,hid]
  have bb:∀r,rowOf dv=some r->S3.A r≠ .none:=fun r e=>N.d.A e;have bc:SlF n S4 dv 1 (ints Y):=N.d.B fun r hr=>K4.c r (bb r hr) (N.c r hr);have ap:∀r,rowOf dv=some r->¬Bt W Q T O4 r:=fun r hr b=>by
   rcases K4.d r b with x|x
   ·exact N.c r hr x
   grind
  have w4:=R4.g.D;obtain⟨n4,bp⟩:=nxE S4;have cf:=fun k=>nes (Jr w4 bp (Jb r4) k);have F4:F S4:=(hF _).2 fun r e=>by rw[K4.c r (by grind) fun b=>e (fb r (.inl b)),(hF _).1 F3 r e]
  have b0:∀r,Bt W Q T O4 r->S1.A r= .none:=fun r b=>(K4.d r b).elim (fun x=>fb r (.inl x)) fun x=>a7 F3 x;simp[XY];rw[Je,Ja];simp[XY];simp[XY,f4,r4,bp];obtain⟨A5,bd⟩:=exE (S4.B fun t=>Row.a t [V.d .i64 (id:Nat)]);have aa:Gr S4 A5:=by rw[bd];exact Gr.G w4 (Jd _)
  have bq:SlAt (fun r=>r=up 0 n4) A5 (.m (up 0 n4) 0 1 1 1) 1 [[.d .i64 (id:Nat)]]:=by
   have:=Ql (st:=S4) (z:=1) (e:=[.d .i64 (id:Nat)]) rfl
   grind
  rw[<-bd];clear bd;have r5:=aa.A r4;refine QG (S0:=n) (R4.g.B aa) (bc.G aa) bq (fun e he=>by rw[Xn.1 he];rfl) (by simp) (by simp) (by rw[JS];grind) ?_;intro A6 ad g6 h6 br be;have r6:A6.A W= .a t4 [Q,T, .d .i64 z.b.A,ofL z.b.B,nv,kv,y,sv,dv, .d .i64 ((0:Nat):Int), .g]:=(be W (Jb r5) fun e=>ap W e (.inl rfl)).trans r5;have b1:=h6.D.B;have b2:=h6.D.A;simp[XZ,f5,r6,b1,b2,a8];have bt:∀r,A5.A r≠ .none->r≠A5.b:=fun r e c=>e (by rw[c];exact J9 aa.D);have k7:∀r,Bt W Q T O4 r->r≠W->(A6.D W t4 fun u=>Row.a u [Q,T, .d .i64 z.b.A,ofL z.b.B,nv,kv,y,sv,ad, .d .i64 ((0:Nat):Int), .g]).A r=S4.A r:=fun r b hr=>by
   have al:=R4.A r b;rw[J6,Xa hr,be r (by rw[aa.d r al];exact al) fun e=>ap r e b,aa.d r al]
  have g7:Gr n (A6.D W t4 fun u=>Row.a u [Q,T, .d .i64 z.b.A,ofL z.b.B,nv,kv,y,sv,ad, .d .i64 ((0:Nat):Int), .g]):=g6.J (a6 run) (Jb r6) (by rw[r6];rfl) (Jd _);have aw:∀r,rowOf ad=some r->¬Bt W Q T O4 r:=fun r e b=>by
   rw[br]at e;injection e with e;have al:=R4.A r b;exact bt r (by rw[aa.d r al];exact al) e.symm
  have b3:=R4.F (rest':=[.d .i64 z.b.A,ofL z.b.B,nv,kv,y,sv,ad, .d .i64 ((0:Nat):Int), .g]) g7 ⟨_,Jk _ _ _ _⟩ k7;have b4:SlF n (A6.D W t4 fun u=>Row.a u [Q,T, .d .i64 z.b.A,ofL z.b.B,nv,kv,y,sv,ad, .d .i64 ((0:Nat):Int), .g]) ad 1 (ints (Y++[id])):=by
   have e:ints (Y++[id])=ints Y++[[.d .i64 (id:Nat)]]:=by simp[ints]
   rw[e];exact h6.B fun r hr=>by rw[J6,Xa fun c=>aw r hr (.inl c)]
  have F7:F (A6.D W t4 fun u=>Row.a u [Q,T, .d .i64 z.b.A,ofL z.b.B,nv,kv,y,sv,ad, .d .i64 ((0:Nat):Int), .g]):=(hF _).2 fun r e=>by
   have e4:S4.A r≠ .none:=by grind
   rw[J6,Xa fun x=>e (fb r (.inl (.inl x))),be r (by rw[aa.d r e4];exact e4) fun x=>e (fb r (.inr x)),aa.d r e4,(hF _).1 F4 r e]
  have b5:∀r,Bt W Q T O4 r\/rowOf ad=some r->S1.A r= .none:=fun r e=>by
   rcases e with e|e
   ·grind
   ·rw[br]at e;injection e with e;exact a7 F4 (Xf fun c=>bt r (by rw[aa.d r c];exact c) e.symm)
  refine⟨z.a.length-(i+1),by omega,hL _ _ _ ⟨i+1,Q,T,ad,O4,a9,Y++[id],{ah with c:=setI X.1 id ah.c},by omega,f1,f4,rfl,⟨b3,T4,b4,aw,by grind,fun k hk bf=> ?_⟩,F7,b5,by grind,ba⟩⟩;by_cases e:k<Y.length
  ·rw[Xx e];have:=N.b k e bf;rw[ao];exact Y1 _ this
  grind
 ·rw[Xm (by omega),Jq]at ab;rw[ab,Xa fun k=>k rfl,<-hM]at P;have P:newS z=if(addT M 400 U).2.2.1≠0 then(none,(addT M 400 U).2.2.1)else(some {(addT M 400 U).1 with b:=(addT M 400 U).2.1},0):=P;rw[<-hM]at ai aj;have bu:TyC (fun r=>n.A r≠ .none) S3 [.d .i64 M.A,ofL M.B,nv,kv] M:=h1.A fun r w e=>⟨w,ag F3 e⟩
  have b6:ldn (S3.A p1) 0 4=some (.j [.d .i64 M.A,ofL M.B,nv,kv], .a):=by rw[ak F3];rfl
  rw[Je,Ja];simp[XY,f1,f5,ak F3,l2,hi];rw[Ja];simp[XY,f1,f4,b6];by_cases Z:(addT M 400 U).2.2.1=0;rotate_left
  ·refine Jc (Jpv _ M (XK _) N.a N.t bu Z ai aj ⟨_,_,_,_,_,_,_,_,_,rfl⟩) ?_;rintro _ S4 ⟨g4,K4,rfl⟩;simp[XZ];refine ar _ _ (fun r e=>by rw[K4.c r (by grind) fun b=>e (by grind),ag F3 e]) fun _=> ?_;unfold JfI;rw[P,Xd Z,(Je4 M 400 U).resolve_left Z]
  rw[Xa fun k=>k Z]at P;refine Jc (JmE _ M (XK _) N.a N.t bu Z ⟨_,_,_,_,_,_,_,_,_,rfl⟩) ?_;rintro _ S4 ⟨Q,T,O4,a9,R4,T4,K4,rfl⟩;obtain⟨t4,r4⟩:=R4.d;obtain⟨rn,ao⟩:=Jbz Z;obtain⟨ah,af⟩:=exE ((addT M 400 U).1);obtain⟨id,hid⟩:=exE ((addT M 400 U).2.1);rw[<-af]at R4 T4 ao P;rw[<-hid]at P⊢;have bb:∀r,rowOf dv=some r->S3.A r≠ .none:=fun r e=>N.d.A e;have bc:SlF n S4 dv 1 (ints Y):=N.d.B fun r hr=>K4.c r (bb r hr) (N.c r hr);have ap:∀r,rowOf dv=some r->¬Bt W Q T O4 r:=fun r hr b=>by
   rcases K4.d r b with x|x
   ·exact N.c r hr x
   grind
  simp[XY];rw[Je,Ja];simp[XY];rw[Ja];simp[XY,f4,r4];obtain⟨S5,aq⟩:=exE (S4.D W t4 fun u=> .a u [Q,T, .d .i64 z.b.A,ofL z.b.B,nv,kv,y,sv,dv, .d .i64 (id:Nat), .g]);have g5:Gr n S5:=by rw[aq];exact R4.g.J (a6 run) (Jb r4) (by rw[r4];rfl) (Jd _)
  have k5:∀r,r≠W->S5.A r=S4.A r:=fun r e=>by rw[aq,J6,Xa e]
  have r5:∃t,S5.A W= .a t [Q,T, .d .i64 z.b.A,ofL z.b.B,nv,kv,y,sv,dv, .d .i64 (id:Nat), .g]:=⟨_,by rw[aq,J6,Xd rfl]⟩
  rw[<-aq];clear aq;have F4:F S4:=(hF _).2 fun r e=>by rw[K4.c r (by grind) fun b=>e (fb r (.inl b)),(hF _).1 F3 r e]
  have b0:∀r,Bt W Q T O4 r->S1.A r= .none:=fun r b=>(K4.d r b).elim (fun x=>fb r (.inl x)) fun x=>a7 F3 x;have F5:F S5:=(hF _).2 fun r e=>by grind
  have b7:¬(0:Int)<0:=by omega
  rw[Je,Ja];simp[XY];refine j9 (by omega) ?_;simp[XZ,f1,f4,ak F5,l3,b7];refine ar _ _ (fun r e=>ag F5 e) fun _=> ?_;unfold JfI;rw[P];refine⟨W,Q,T,dv,nv,kv,sv,y,O4,a9,Y,rfl,⟨R4.F g5 r5 fun r _ e=>k5 r e,T4,bc.B fun r hr=>k5 r fun e=>ap r hr (.inl e),ap,by omega,fun k hk bf=> ?_⟩,by omega,h2.B (fun _ _ x=>x.A fun r w e=>⟨w,(hb.d r w).symm⟩) fun r w e=>⟨w,(hb.d r w).symm⟩,fun r e=> ?_⟩;rotate_left
  ·grind
  show Kh ah.a _=_;rw[ao];exact Y1 _ (N.b k hk bf)
theorem _root_.Eva.RT.G {a c:V}(h:RT n p b a c v P q t):∀r,Bt b a c P r->n.A r= .none:=fun r e=>by
 obtain⟨es,l1,_⟩:=h.l;obtain⟨g,t1,_⟩:=h.t;rcases e with rfl|e|e|e
 ·exact h.m
 ·exact(l1.H e).1
 ·exact(t1.H e).1
 ·exact(h.o r e).2.1
theorem JtK {g:V}(c:∀r,r=b\/rowOf d=some r\/rowOf f=some r\/rowOf g=some r->P r)(h:∀r,Q r->P r\/e r):∀r,Bt b d f Q r\/rowOf g=some r->P r\/e r:=fun r a=>by
 rcases a with(a|a|a|a)|a
 ·exact .inl (c r (.inl a))
 ·exact .inl (c r (.inr (.inl a)))
 ·exact .inl (c r (.inr (.inr (.inl a))))
 ·exact h r a
 ·exact .inl (c r (.inr (.inr (.inr a))))
structure DT (Z:Pt->Prop) (S:St) (U:Pt->Prop) (ru:Pt) (s:Sch) (tb:Tb):Prop where
 wf:WF S
 i:∃(T:Pt->Prop) (lv tv dv nv kv sv tyv:V) (O:Pt->Prop) (tr:List Ty) (ids:List Nat),RN (bs T S) S s tb ru lv tv dv nv kv sv tyv O tr ids tb.b/\ids.length=s.a.length/\LstAt (NmC (fun r=>T r) S) (fun r=>T r) S tyv 5 s.a/\(∀r,T r->U r\/Z r)/\(∀r,r=ru\/rowOf lv=some r\/rowOf tv=some r\/rowOf dv=some r->U r)/\∀r,O r->U r\/Z r
 f:∀r,U r\/Z r->S.A r≠ .none
section
variable {Z U U' U'' : Pt -> Prop} {S S' S'' : St} {ru : Pt} {s : Sch} {tb tb' : Tb}
theorem JhT {T':Pt->Prop}{j m n o h:V}(N:RN (bs P S) S s tb ru d f j m n o h e t i k)(w:WF S')(p:∀r,P r->S.A r≠ .none->T' r/\S'.A r=S.A r)(l:∀r,Bt ru d f e r\/rowOf j=some r->¬T' r/\S'.A r=S.A r):RN (bs T' S') S' s tb ru d f j m n o h e t i k:=
 ⟨N.a.B w (fun r g=>(p r (Jbe g).1 (Jbe g).2).1) (fun r b=>l r (.inl b)) fun r g=>(p r (Jbe g).1 (Jbe g).2).2,N.t,N.d.F fun r g=>⟨JbD (l r (.inr g)).1,(l r (.inr g)).2⟩,N.c,N.e,N.b⟩
theorem JbJ {j l m n h:V}(N:RN (bs P S) S s tb ru d f j l m n h e t i k):∀r,Bt ru d f e r\/rowOf j=some r->¬P r/\S.A r≠ .none:=fun r b=>by
 have g:(bs P S).A r= .none/\S.A r≠ .none:=by
  rcases b with b|b
  ·exact⟨N.a.G r b,N.a.A r b⟩
  ·exact⟨(N.d.H b).1,N.d.A b⟩
 exact⟨fun c=>g.2 (by rw[<-JdH (S:=S) c];exact g.1),g.2⟩
theorem DT.A (h:DT Z S U ru s tb)(w:WF S')(k:∀r,U r\/Z r->S'.A r=S.A r):DT Z S' U ru s tb:=by
 obtain⟨T,m,n,o,q,v,y,g,O,z,j,N,a,b,c,d,l⟩:=h.i;exact⟨w,⟨T,m,n,o,q,v,y,g,O,z,j,JhT N w (fun r t _=>⟨t,k r (c r t)⟩) fun r e=>⟨(JbJ N r e).1,k r (JtK d l r e)⟩,a,b.B (fun _ _ x=>x.A fun r p _=>⟨p,k r (c r p)⟩) fun r p _=>⟨p,k r (c r p)⟩,c,d,l⟩,fun r u=>by rw[k r u];exact h.f r u⟩
theorem DT.B (h:DT Z S U ru s tb)(g:Gr S S'):DT Z S' U ru s tb:=h.A g.D fun r u=>g.d r (h.f r u)
theorem DT.D (h:DT Z S U ru s tb)(w:WF {S with a:=k}):DT Z {S with a:=k} U ru s tb:=h.A w fun r u=>rfl
theorem DT.F (h:DT Z S U ru s tb)(e:S.A b= .none):¬U b/\¬Z b:=⟨fun u=>h.f b (.inl u) e,fun u=>h.f b (.inr u) e⟩
theorem DT.H (h:DT Z S U ru s tb)(o:kg s tb):∃j,RD j S s tb ru:=by
 obtain⟨T,l,m,p,q,u,v,e,O,w,g,N,a,b,c,d,y⟩:=h.i;have k:∀r,T r->S.A r≠ .none->(bs T S).A r≠ .none/\(bs T S).A r=S.A r:=fun r t n=>by rw[JdH t];exact⟨n,rfl⟩
 exact⟨_,⟨l,m,p,q,u,v,e,O,w,g,N,a,b.B (fun _ _ x=>x.A k) k⟩,o⟩
structure RunD (Z U:Pt->Prop) (S S':St) (U':Pt->Prop):Prop where
 ch:Ch U S S'
 c:∀r,U' r->U r\/S.A r= .none
theorem RunD.H (w:WF S):RunD Z U S S U:=⟨Ch.G _ w,fun r u=> .inl u⟩
theorem RunD.G (g:Gr S S'):RunD Z U S S' U:=⟨Ch.H _ g,fun r u=> .inl u⟩
theorem RunD.B (h:RunD Z U S S' U')(k:RunD Z U' S' S'' U''):RunD Z U S S'' U'':=
 ⟨h.ch.A k.ch h.c,fun r u=>by
  rcases k.c r u with u|u
  ·exact h.c r u
  ·exact .inr (h.ch.B u)⟩
theorem RunD.I (h:RunD Z U S S' U')(g:Gr S' S''):RunD Z U S S'' U':=h.B (RunD.G g)
theorem RunD.D (h:RunD Z U S S' U'):Kept S U S' U':=Kept.F h.ch h.c
end
structure AnD (Z U:Pt->Prop) (S S':St) (U':Pt->Prop) (ru:Pt) (s:Sch) (x:Ans3) (v:V):Prop where
 b:RunD Z U S S' U'
 tab:x.2.2=0->DT Z S' U' ru s x.1
 a:v= .p [.d .i64 (x.2.1:Nat), .d .i64 x.2.2]
def AnE (Z U:Pt->Prop)(S:St)(ru:Pt)(s:Sch)(x:Ans3)(v:V)(S':St):Prop:=∃U',AnD Z U S S' U' ru s x v
theorem AnE.A {S S':St}(h:DT P S e b z l)(g:Gr S S')(i:Nat)(a:Int):AnE P e S b z (l,i,a) (.p [.d .i64 (i:Nat), .d .i64 a]) S':=⟨e,RunD.G g,fun _=>h.B g,rfl⟩
theorem Jr4 {Z U:Pt->Prop}{dv nv kv sv af:V}(w:WF n)(N:RN (bs P n) n z l b d f dv nv kv sv af e t i l.b)(ai:i.length=z.a.length)(am:LstAt (NmC (fun r=>P r) n) (fun r=>P r) n af 5 z.a)(hT:∀r,P r->U r\/Z r)(hB:∀r,r=b\/rowOf d=some r\/rowOf f=some r\/rowOf dv=some r->U r)(ao:∀r,e r->U r\/Z r)(hl:∀r,U r\/Z r->n.A r≠ .none){X:Ty}(hx:TyC (fun r=>P r) n v X)(aj:fitT X=true)(ap:(QO X:Int)<=400){y:Ans3}(hy:∃left,addT X 400 l=(y.1,y.2.1,y.2.2,left))(hm:y.1.b=l.b)(h0:y.2.2≠0->y.2.1=0/\y.2.2=20):
  Dz 31 [.e b 0, .j v] n (AnE Z U n b z y):=by
 obtain⟨left,hy⟩:=hy;have ak:TyC (fun r=>(bs P n).A r≠ .none) n v X:=hx.A fun r h q=>⟨by rw[JdH h];exact q,rfl⟩
 have keep:∀{S':St},(∀r,n.A r≠ .none->¬Bt b d f e r->S'.A r=n.A r)->(∀r,e r->S'.A r=n.A r)->∀r,n.A r≠ .none->¬U r->S'.A r=n.A r:=fun k1 k2 r a L=>by
  by_cases c:Bt b d f e r
  ·rcases c with c|c|c|c
   ·exact absurd (hB r (.inl c)) L
   ·exact absurd (hB r (.inr (.inl c))) L
   ·exact absurd (hB r (.inr (.inr (.inl c)))) L
   ·exact k2 r c
  ·exact k1 r a c
 by_cases ab:(addT X 400 l).2.2.1=0;rotate_left
 ·have hz:y.2.2≠0:=by rw[hy]at ab;exact ab
  refine(Does.D (W:=U) (Q:=fun M _=>M= .p [.d .i64 0, .d .i64 20]) tabM w ((Jpv _ X (XK _) N.a N.t ak ab aj ap ⟨_,_,_,_,_,_,_,_,_,rfl⟩).A ?_)).A ?_
  ·rintro _ S' ⟨_,K,rfl⟩;exact⟨fun r a L=>keep K.c (fun r o=>(K.a r o).2) r a L,rfl⟩
  ·rintro _ S' ⟨C,rfl⟩;exact⟨U,⟨C,fun r u=> .inl u⟩,fun c=>absurd c hz,by rw[(h0 hz).1,(h0 hz).2];rfl⟩
 ·have hz:y.2.2=0:=by rw[hy]at ab;exact ab
  obtain⟨rn,ag⟩:=Jbz ab;refine(Does.D (W:=U) (Q:=fun M S'=>∃Y aa O' ad,RT (bs P n) S' b Y aa [.d .i64 z.b.A,ofL z.b.B,nv,kv,af,sv,dv, .d .i64 (l.b:Nat), .g] O' y.1.a ad/\KZ y.1.a ad/\Kz e O' (Bt b d f e) (Bt b Y aa O') n S'/\M= .p [.d .i64 (y.2.1:Nat), .d .i64 y.2.2]) tabM w ((JmE _ X (XK _) N.a N.t ak ab ⟨_,_,_,_,_,_,_,_,_,rfl⟩).A ?_)).A ?_
  ·rintro _ S' ⟨Y,aa,O',ad,R,TR,K,rfl⟩;refine⟨keep K.c fun r o=>(K.a r o).2,Y,aa,O',ad, ?_⟩;rw[hy]at R TR⊢;exact⟨R,TR,K,by rw[hz]⟩
  ·rintro _ S' ⟨C,Y,aa,O',ad,R,TR,K,rfl⟩;have ah:=JbJ N;have kT:∀r,P r->n.A r≠ .none->S'.A r=n.A r:=fun r h q=>K.c r q fun L=>(ah r (.inl L)).1 h;have aq:∀r,Bt b Y aa O' r->¬P r:=fun r L h=>by
    have h1:=R.G r L;have h2:=hl r (hT r h);rw[JdH h]at h1;exact h2 h1
   have kd:∀r,rowOf dv=some r->S'.A r=n.A r:=fun r v=>K.c r (ah r (.inr v)).2 fun L=>N.c r v L;have hn:∀r,U r\/Z r->S'.A r≠ .none:=fun r u=>fun v=>hl r u (C.B v);have ar:∀r,rowOf dv=some r->¬Bt b Y aa O' r:=fun r v L=>(K.d r L).elim (fun L=>N.c r v L) fun q=>(ah r (.inr v)).2 q;have al:∀r,Bt b Y aa O' r->¬e r->U r\/n.A r= .none:=fun r L q=>by
    rcases K.d r L with(c|c|c|c)|c
    ·exact .inl (hB r (.inl c))
    ·exact .inl (hB r (.inr (.inl c)))
    ·exact .inl (hB r (.inr (.inr (.inl c))))
    ·exact absurd c q
    ·exact .inr c
   have nO:∀r,(r=b\/rowOf Y=some r\/rowOf aa=some r)->¬e r:=fun r v o=>by
    obtain⟨_,_,k1,k2,k3⟩:=R.o r (K.a r o).1;rcases v with v|v|v
    ·exact k1 v
    ·exact k2 v
    ·exact k3 v
   refine⟨fun r=>U r\/(Bt b Y aa O' r/\n.A r= .none),⟨C,fun r u=>u.imp id fun u=>u.2⟩,fun _=>⟨C.D,⟨P,Y,aa,dv,nv,kv,sv,af,O',ad,i,⟨?_,TR,N.d.F fun r v=>⟨JbD (ah r (.inr v)).1,kd r v⟩,ar,N.e,fun k a L=> ?_⟩,ai,am.B (fun _ _ x=>x.A fun r h q=>⟨h,kT r h q⟩) fun r h q=>⟨h,kT r h q⟩,fun r h=>(hT r h).imp .inl id,fun r v=> ?_,fun r o=> ?_⟩,fun r u=> ?_⟩,rfl⟩
   ·rw[hm];exact R.B C.D (fun r v=>(Jbe v).1) (fun r L=>⟨aq r L,rfl⟩) fun r v=>rfl
   ·have:=N.b k a L;rw[hy]at ag;have ag:y.1.a=l.a++rn:=ag;rw[ag];exact Y1 _ this
   ·have ae:∀{r},(r=b\/rowOf Y=some r\/rowOf aa=some r)->Bt b Y aa O' r->U r\/(Bt b Y aa O' r/\n.A r= .none):=fun{r} v L=>(al r L (nO r v)).imp id fun q=>⟨L,q⟩
    rcases v with v|v|v|v
    ·exact ae (.inl v) (.inl v)
    ·exact ae (.inr (.inl v)) (.inr (.inl v))
    ·exact ae (.inr (.inr v)) (.inr (.inr (.inl v)))
    ·exact .inl (hB r (.inr (.inr (.inr v))))
   ·by_cases q:e r
    ·exact(ao r q).imp .inl id
    ·exact .inl ((al r (.inr (.inr (.inr o))) q).imp id fun m=>⟨.inr (.inr (.inr o)),m⟩)
   ·rcases u with(u|u)|u
    ·exact hn r (.inl u)
    ·exact R.A r u.1
    ·exact hn r (.inr u)
theorem JpF {z:Nat}(Q:k=161/\z=1\/k=160/\z=1\/k=137/\z=3)(x:WF n)(h:SlAt P n d z r)(M:okC r)(S:r.length<2^20):
  Dz k [d] n fun T y=>Gr n y/\SlF n y T z r:=by
 obtain⟨i,q⟩:=nxE n;have s:=fun j (h:n.A j≠ .none)=>jM x q h;have O:SlAt P (n.B fun t=> .a t []) d z r:=h.D fun j p e=>⟨p,KC x _ e⟩
 have K:appV (n.B fun t=> .a t []) z (.m n.b 0 0 z 0) d=if 0<r.length then some (.u (n.B fun t=> .a t []).b 0 r.length z, .b fun u=> .a u r.flatten)else some (.m n.b 0 0 z 0, .a):=by
  by_cases w:0<r.length
  ·rw[Xd w];exact Jm3 O M S w (JM n fun t=> .a t [])
  ·rw[Xa w];have:r=[]:=XB.1 (by omega);subst this;exact JkA O
 rw[q]at K;rcases Q with⟨rfl,rfl⟩|⟨rfl,rfl⟩|⟨rfl,rfl⟩<;>
 refine Does.G tabM x (Jl (by first|exact(aT Tryz.func161 rfl)|exact(aT Tryz.func160 rfl)|exact(aT Tryz.func137 rfl)) rfl ?_)
 all_goals
  rcases h.2 with⟨rfl,rfl⟩|⟨j,o,W,U,l,X,Y,Z⟩
  ·have L:eqV (.a .l) false .g .g=some (.h true, .a):=rfl;simp only[CT,Tryz.f161,Tryz.f160,Tryz.f137,XZ,simprocAttr,L];exact⟨fun _ _=>trivial,SlF.I _ _ _⟩
  ·have L:eqV (.a .l) false d .g=some (.h false, .a):=by rcases U with rfl|⟨c,_,rfl⟩<;>rfl
   by_cases w:0<r.length
   ·simp only[w]at K;simp only[CT,Tryz.f161,Tryz.f160,Tryz.f137,XZ,simprocAttr,L,q,JlA,K];exact⟨fun j N=>by simp only[s j N,X2],h.1, .inr ⟨up 1 i,(n.B fun t=> .a t []).t,nx0 x q 1,by simp only[XZ,simprocAttr,q], .inl rfl⟩⟩
   ·simp only[w]at K;simp only[CT,Tryz.f161,Tryz.f160,Tryz.f137,XZ,simprocAttr,L,q,JlA,K];have:r=[]:=XB.1 (by omega);subst this;exact⟨fun j N=>by simp only[s j N,X2],h.1, .inr ⟨up 0 i,n.t,nx0 x q 0,by simp only[XZ,simprocAttr,q,List.flatten_nil], .inr rfl⟩⟩
theorem JfJ (o:k=161\/k=160)(i:WF n)(h:SlAt P n d 1 r)(e:okC r)(j:r.length<2^20)(l:∀a,n.A a= .none->Q a):
  Dz k [d] n fun m c=>Gr n c/\SlAt Q c m 1 r:=
 (JpF (by grind) i h e j).A fun _ _ ⟨g,b⟩=>⟨g,b.D.D fun a p _=>⟨l a p,rfl⟩⟩
theorem keyed {m:Nd}(u:WF n)(h:NdC P n v m)(p:m.A):
  Dz 159 [.j v] n fun f y=>Gr n y/\f= .j (keyL m):=by
 refine Does.G tabM u (Jl (aT Tryz.func159 rfl) rfl ?_);obtain⟨g,i⟩:=nxE n;have o:=fun r (h:n.A r≠ .none)=>jM u i h;obtain⟨Y,Z,rfl,z,K⟩:=h;have l1:=z.G;have l2:=K.G;rw[Jw]at l1;rw[JS]at l2;simp only[CT,Tryz.f159,XZ,simprocAttr,i,z.B,K.B,l1,l2];have hS:=fun(r:Pt) (hr:n.A r≠ .none)=>o r hr;refine Jmb (st0:=n) (t:= ?t) (l:= ?l) z ?hS (Yp _) ?hr ?hle ?hn ?k
 case hr=>simp only[XZ,simprocAttr];rfl
 case hS=>intro r hr;simp[XZ,i,o r hr]
 case hle=>simp
 case hn=>rw[Jw];exact p.1
 intro w t1 r1 o1 O;have T:w.A (up 0 g)= .a _ _:=(o1 _ (by simp only[Jab];decide)).trans (by simp only[XZ,simprocAttr,i];rfl);have M:w.A (up 1 g)= .a _ _:=(o1 _ (by simp only[Jab];decide)).trans (by simp only[XZ,simprocAttr,i];rfl);have N:∀r,n.A r≠ .none->w.A r=n.A r:=fun r hr=>(o1 r (Jr u i hr 2)).trans (by simp[XZ,i,o r hr]);have Q:w.b=up 3 g:=O.trans (by simp[XZ,i]);clear o1 O;rw[JgC,Jtz _ _ _ _ _ _ _ (by simpa using p.1)]at r1;obtain⟨U,q⟩:∃L,L=[V.d IntKind.i64 m.a,V.d IntKind.i64 ↑m.b.length,V.d IntKind.i64 ↑m.c.length,ofL m.d]++(pad (m.b.map ofL) (ofL [])++List.replicate 8 (V.d IntKind.i64 0)):=⟨_,rfl⟩
 rw[<-q]at r1;have s:20<=U.length:=by
  rw[q,X7,X7,JdU (by simpa using p.1),List.length_replicate];simp
 simp[XZ,r1,T,s];refine Jmb (st0:=n) K N (JdT _) r1 s (by rw[JS];exact p.2) ?_;intro x t2 r2 o2 S;have M:x.A (up 1 g)= .a _ _:=(o2 _ (by simp only[Jab];decide)).trans M;have N:∀r,n.A r≠ .none->x.A r=n.A r:=fun r hr=>(o2 r (Jr u i hr 2)).trans (N r hr);have Q:x.b=up 3 g:=S.trans Q;clear o2 S;rw[JgD,q,JtA _ _ _ _ _ _ _ _ (by simpa using p.1) (by simpa using p.2)]at r2;have r2:x.A (up 2 g)= .a t2 (keyL m):=r2;have W:=Jb3 p;have k2:20<=(keyL m).length:=by omega
 have X:(keyL m).take 20=keyL m:=by grind
 simp[XZ,r2,M,X,W,JhB]
 grind
theorem lay {F:Pt->Prop}{nd:Nd}(hw:WF n)(z:Tab e F n b l)(hn:NdC P n v nd)(hf:nd.A):
  Dz 122 [.e b 0, .j v] n fun g am=>Ch e n am/\(∃W' F':Pt->Prop,(∀r,e r->W' r)/\(∀r,W' r->e r\/n.A r= .none)/\(∀r,F' r->F r\/n.A r= .none)/\Tab W' F' am b (layS l nd).1)/\g= .p [.d .i64 ((layS l nd).2.1:Nat), .d .i64 (layS l nd).2.2]:=by
 refine Does.D tabM hw (Jl (aT Tryz.func122 rfl) rfl ?_);obtain⟨lv,ra,rn,rs,es,sv,z⟩:=z.B;obtain⟨m,ad⟩:=nxE n;have ao:=hn;obtain⟨nv,kv,rfl,h1,h2⟩:=hn;have g0:Gr n (n.B fun t=> .a t [.d .i64 nd.a,ofL nd.d,nv,kv]):=Gr.G hw fun u=>⟨rfl,fun v=>by cases v⟩
 simp only[CT,Tryz.f122,XZ,simprocAttr,ad,h1.B,h2.B];refine Jc (keyed (P:=P) g0.D (ao.B g0) hf) ?_;rintro _ U ⟨g1,rfl⟩;have G1:=g0.B g1;have w1:=G1.D;have b0:U.A (up 0 m)= .a n.t [.d .i64 nd.a,ofL nd.d,nv,kv]:=g1.A (by simp[XZ,ad]);have K:=z.T G1;have a9:=ao.B G1;obtain⟨n1,X⟩:=nxE U;have Y:=fun r (h:U.A r≠ .none)=>jM w1 X h;have o0:=Y (up 0 m) (by grind);obtain⟨tt,c1⟩:=K.s;have ap:=Y b K.B;have k1:=Jb3 hf;have k2:20<=(keyL nd).length:=by omega
 have k3:(keyL nd).take 20=keyL nd:=by grind
 have ag:ekN.A (encN nd)=true:=by
  have:(keyL nd).length==20:=by grind
  exact this
 have aq:∀p∈(l.a.zipIdx.map fun p=>(p.1,V.d .i64 (p.2:Int))),ekN.B (encN nd) (encN p.1)=some (decide (nd=p.1)):=fun p hp=>by
  obtain⟨q,hq,rfl⟩:=XA.1 hp;exact Jsy hf (K.J _ (List.fst_mem_of_mem_zipIdx hq))
 have ar:∀S:St,S.A ra=U.A ra->jz S ekN (.d .i64 0) true (.q ra) (.j (keyL nd))=some (ansL (.d .i64 0) true (at_ nd (l.a.zipIdx.map fun p=>(p.1,V.d .i64 (p.2:Int)))), .a):=fun S hS=>
  kP (enc:=encN) (K.y.B hS) _ _ nd aq ag
 have au:=Y ra K.y.A;have k4:JF [V.d .i64 0,V.d .i64 0,V.d .i64 0,ofL [],ofL [],ofL [],ofL [],ofL [],ofL [],ofL [],ofL [],ofL [],V.d .i64 0,V.d .i64 0,V.d .i64 0,V.d .i64 0,V.d .i64 0,V.d .i64 0,V.d .i64 0,V.d .i64 0] 0 (keyL nd)=keyL nd:=YI (by rw[k1];rfl);have aa:layS l nd=match idx nd l.a 0 with
  |some i=>(l,i,0)
  |none=>if 120<=l.a.length then(l,0,20)else({l with a:=l.a++[nd]},l.a.length,0):=rfl
 have g2:Gr U ((U.B fun t=> .a t zk).D (up 0 n1) U.t fun u=> .a u (keyL nd)):=(Gr.F w1).M X (Jd _) (Jd _);have hz:=JhC nd l.a 0
 cases hi:idx nd l.a 0 with
 | some i=>
   simp[hi]at aa hz;obtain⟨_,i1,i2⟩:=JoH hi;simp at i1 i2;have i3:i<es.length:=by rw[z.D];exact i1
   obtain⟨q,qo,a1,a2,a3,a4,a5,a6⟩:=K.I i3;have oq:=Y q a2;simp only[XM,simprocAttr,X,ap,c1,k1,k3,JhB,k4,ar,au,hz,ansL,a1,oq,a5];refine Jj (keyed (Js g2.D _) (((K.H i i3 i1).B g2).D _) (K.J _ (Xh i1))) ?_;rintro _ ak g3 rfl;rw[i2];have kk:ak.A (up 0 n1)= .a _ (keyL nd):=g3.A (by simp only[XZ,simprocAttr];rfl);have l1:(padI nd.c).length=8:=by have:=hf.2;simp[padI];omega
   simp only[XZ,simprocAttr,k1,Jm4 hf,kk,Jqt l1];rw[aa];have G3:=G1.B (g2.B g3);exact⟨fun r h _=>G3.d r h,⟨e,_,fun _ h=>h,fun _ h=> .inl h,fun _ h=> .inl h.1,lv,ra,rn,rs,es,sv,z.T G3⟩,rfl⟩
 | none=>
   simp[hi]at aa hz;simp only[XM,simprocAttr,X,ap,c1,k1,k3,JhB,k4,ar,au,hz,ansL,K.l.B];by_cases ah:120<=l.a.length
   ·have ae:(120:Int)<=(l.a.length:Int):=by omega
    simp only[XZ,simprocAttr,ae];rw[aa,Xd ah];have G3:=G1.B g2;exact⟨fun r h _=>by have:=G3.d r h;simpa only[KW,J6,X]using this,⟨e,_,fun _ h=>h,fun _ h=> .inl h,fun _ h=> .inl h.1,lv,ra,rn,rs,es,sv,z.T G3⟩,rfl⟩
   have ae:¬(120:Int)<=(l.a.length:Int):=by omega
   simp only[XZ,simprocAttr,ae,b0,o0,X];refine Jj (JfJ (.inr rfl) (Q:=fun r=>n.A r= .none/\¬e r/\r≠up 0 m) (Js g2.D _) (((h1.H G1).H g2).L _) (Yp _) (by rw[Jw];have:=hf.1;omega) ?_) ?_
   ·exact fun r N=>⟨Ch.B (Ch.H e (G1.B g2)) N,fun w=>z.u r w (by rw[<-(G1.B g2).d r (z.u r w)];exact N),fun v=>Jb (g2.A b0) (by rw[<-v];exact N)⟩
   rintro ab ak g3 c3;have c3:=c3.S;have b3:ak.A (up 0 m)= .a _ _:=g3.A (g2.A b0);simp only[XZ,simprocAttr,b3];refine Jj (JfJ (.inl rfl) (Q:=fun r=>n.A r= .none/\¬e r/\r≠up 0 m) (Js g3.D _) ((((h2.H G1).H g2).H g3).L _) (JdT _) (by rw[JS];have:=hf.2;omega) ?_) ?_
   ·exact fun r N=>⟨Ch.B (Ch.H e ((G1.B g2).B g3)) N,fun w=>z.u r w (by rw[<-((G1.B g2).B g3).d r (z.u r w)];exact N),fun v=>Jb b3 (by rw[<-v];exact N)⟩
   rintro af x g4 c4;have c4:=c4.S;have c3:=c3.H g4;have b4:x.A (up 0 m)= .a _ _:=g4.A b3;have kk:x.A (up 0 n1)= .a _ (keyL nd):=g4.A (g3.A (by simp only[XZ,simprocAttr];rfl));have G4:Gr n x:=((G1.B g2).B g3).B g4;have Z:=z.T G4;obtain⟨t4,d4⟩:=Z.s;obtain⟨t5,m5⟩:=Z.y;have av:=nes (Jr hw ad z.B 0);have ba:=nes (Jr w1 X K.B 0);have ai:=nes (Jr hw ad z.y.A 0);have aw:=nes (Jr w1 X (Jb b0) 0);have aj:=nes (show b≠ra from fun v=>by grind);have bb:=nes (Jr w1 X K.y.A 0);have ax:∀(S:St) (g:V),S.A ra=x.A ra->Jf6 S ekN (.q ra) (.j (keyL nd)) g=_:=fun S g hS=>JaK (enc:=encN) (hS.trans m5) nd g aq ag;obtain⟨n4,o⟩:=nxE x;have w4:=g4.D;have ay:=fun r (h:x.A r≠ .none)=>jM w4 o h;have bc:=nes (Jr w4 o Z.B 0);have bd:=nes (Jr w4 o (Jb b4) 0);have az:=nes (Jr w4 o Z.y.A 0);have a0:=nes (Jr w4 o Z.B 1);have gw:Gr U U:=Gr.F w1;have wS:WF ((((x.D (up 0 m) n.t fun u=>Row.a u [V.d IntKind.i64 nd.a,ofL nd.d,ab,kv]).D (up 0 m) x.t fun u=>Row.a u [V.d IntKind.i64 nd.a,ofL nd.d,ab,af]).D ra t5 fun u=>Row.b u
        (List.map (fun p=>(encN p.fst,p.snd)) (Ja0 nd (V.d IntKind.i64 ↑l.a.length) (List.map (fun p=>(p.fst,V.d IntKind.i64 ↑p.snd)) l.a.zipIdx)))).B fun u=>Row.a u [V.d IntKind.i64 nd.a,ofL nd.d,ab,af]):=by
    refine(ja (Q9 (Q9 (Q9 w4 (Jb b4) (by rw[b4];rfl) (Jd _)).wf ?_ ?_ (Jd _)).wf ?_ ?_ (Q4 _)).wf (Jd _)).wf
    all_goals simp only[J6,ai,ZT,X2,m5]
    ·simp
    ·rfl
    ·simp
    ·rfl
   have be:x.A ra≠ .none:=Z.y.A;simp only[XZ,simprocAttr,b4,kk,d4,c3.A,c4.A,c3.B,c4.B,av,ai,aw,aj,k2,k3,Z.l.B,ax,o];refine JoI (rt:=b) (Z.l.D fun r t a7 bf a8=> ?_) (tq:= ?tq) (new:=[V.d IntKind.i64 nd.a,ofL nd.d,ab,af]) ?hq rfl ?hsc (by omega) wS ?_
   ·have e1:=nes (Jr w4 o (Jb a8) 0);have e2:=nes (Jr hw ad (z.u r a7) 0);have e3:=nes (show r≠ra from fun v=>by grind);simp[KW,J6,Jac,o,e1,e2,e3]
   case hq=>simp[KW,Jac,o];rfl
   case hsc=>simp only[XZ,simprocAttr,c3.B,c4.B]
   intro S5 t6 r5 n5 s5 x5 _;simp[Y7,Jac,o,Y6,Nat.reduceAdd]at r5 n5;have f5:∀r,r≠up 1 n4->rowOf lv≠some r->r≠up 0 n4->r≠ra->r≠up 0 m->S5.A r=x.A r:=fun r a1 a2 a3 a4 a5=>by
    rw[s5 r (by simp[Y7,Jac,o,Y6];exact a1) a2];simp[KW,J6,Jac,o,a3,a4,a5]
   have bg:rowOf lv≠some b:=fun v=>(z.l.A v).2.1 rfl;have d5:S5.A b= .a t4 [lv, .q ra, .q rn, .d .i64 l.b, .q rs]:=by grind
   simp only[XZ,simprocAttr,d5,o];rw[aa,Xa ah];have q1:x.A (up 1 n4)= .none:=nx0 w4 o 1;have q2:n.A (up 1 n4)= .none:=Xf fun v=>by rw[G4.d _ v]at q1;grind
   refine⟨fun r N hW=> ?_,⟨fun r=>e r\/r=up 1 n4,fun r=>(F r/\n.A r≠ .none)\/(n.A r= .none/\¬e r/\r≠up 1 n4),fun r w=> .inl w, ?_, ?_, .u (up 1 n4) 0 (l.a.length+1) 4,ra,rn,rs,es++[[.d .i64 nd.a,ofL nd.d,ab,af]],sv,z.O q2 ⟨S5.t, ?_⟩ ⟨t6, ?_⟩ ⟨(((x.D (up 0 m) n.t fun u=>Row.a u [V.d IntKind.i64 nd.a,ofL nd.d,ab,kv]).D (up 0 m) x.t fun u=>Row.a u [V.d IntKind.i64 nd.a,ofL nd.d,ab,af])).t, ?_⟩ ?_ ?_ (fun r f=> .inl f) ?_ ?_ hf hi (by omega)⟩, ?_⟩
   ·have e1:r≠b:=fun v=>hW (by rw[v];exact z.w.1);have e4:x.A r≠ .none:=by rw[G4.d r N];exact N
    simp[e1];rw[f5 r (Jr w4 o e4 1) (fun v=>hW (z.l.A v).1) (Jr w4 o e4 0) (fun v=>hW (by rw[v];exact z.w.2.1)) (Jr hw ad N 0),G4.d r N]
   ·grind
   ·grind
   ·simp[J6]
   ·simp[J6,a0];exact r5
   ·simp[J6,aj];rw[s5 ra (by simp[Y7,Jac,o,Y6];grind) (fun v=>by obtain⟨_,_,t2,h2⟩:=Z.l.A v;grind)];simp[KW,J6,Jac,o,az]
   ·intro r N a1 a2 a3;have al:x.A r≠ .none:=by rw[G4.d r N];exact N
    simp[J6,a1];rw[f5 r (Jr w4 o al 1) a3 (Jr w4 o al 0) a2 (Jr hw ad N 0),G4.d r N]
   ·intro r N;have al:x.A r≠ .none:=by rw[G4.d r N];exact N
    simp[J6]
    split
    ·simp
    ·refine x5 r ?_;simp[KW,J6,Jac,o]
     grind
   ·rintro r (f|f)
    ·exact⟨z.L r f,fun v=>f.2 (by grind)⟩
    grind
   ·refine⟨ab,af,rfl,c3.D fun r p v=> ?_,c4.D fun r p v=> ?_⟩
    all_goals
     refine⟨.inr ⟨p.1,p.2.1,Jr w4 o v 1⟩, ?_⟩;have e1:r≠b:=fun k=>p.2.1 (by rw[k];exact z.w.1);simp[J6,e1];exact f5 r (Jr w4 o v 1) (fun k=>p.2.1 (z.l.A k).1) (Jr w4 o v 0) (fun k=>p.2.1 (by rw[k];exact z.w.2.1)) p.2.2
   ·rw[JV (by omega) (by omega)];simp
def Jq2 (W F:Pt->Prop)(st st':St)(rt lp:Pt)(tb':Tb)(left':Int):Prop:=
 Ch (fun r=>W r\/r=lp) st st'/\(∃W' F':Pt->Prop,(∀r,W r->W' r)/\(∀r,W' r->W r\/st.A r= .none)/\(∀r,F' r->F r\/st.A r= .none)/\Tab W' F' st' rt tb')/\∃t,st'.A lp= .a t [.d .i64 left']
theorem Jq3 (x:Tb×List Nat×Int×Int):pre [] x=x:=by rfl
structure AddI (W F:Pt->Prop) (st:St) (rt lp:Pt) (n:Pt) (k:Int) (nm:Str) (nv kv:V) (ks:List Ty) (left:Int) (tb:Tb) (j:Nat) (fr:Fr) (S:St) (i:Nat) (Wi Fi:Pt->Prop) (tbi:Tb) (lefti:Int) (ids:List Nat) (kvi:V) (tli tp:Nat):Prop where
 u:j+i=ks.length
 q:fr 0= .e rt 0
 t:fr 2= .e lp 0
 p:fr 8= .e (up 1 n) 0
 h:fr 42=kv
 d:fr 43= .d .i64 ks.length
 e:fr 44= .d .i64 i
 ch:Ch (fun r=>W r\/r=lp) st S
 s:∀r,W r->Wi r
 o:∀r,Wi r->W r\/st.A r= .none
 x:∀r,Fi r->F r\/st.A r= .none
 f:¬Wi (up 1 n)
 g:¬Wi lp
 l:¬Fi (up 1 n)
 m:¬Fi lp
 tab:Tab Wi Fi S rt tbi
 rlp:S.A lp= .a tli [.d .i64 lefti]
 rn:S.A (up 1 n)= .a tp [.d .i64 k,ofL nm,nv,kvi]
 ls:LsAt (fun r=>¬Wi r/\¬Fi r/\st.A r= .none/\r≠up 1 n) S lp kvi 1 ids.length (ids.map fun a:Nat=>V.d .i64 (a:Int))
 b:ids.length=i
 v:0<=lefti
 w:lefti<=left
 c:JB ks (left-1) tb=pre ids (JB (ks.drop i) lefti tbi)
theorem add :∀(m:Nat) (ty:Ty),tsz ty<m->∀(W F P:Pt->Prop) (y:St) (rt N:Pt) (tb:Tb) (e:List V) (left:Int) (tl:Nat),WF y->Tab W F y rt tb->TyC P y e ty->(∀r,P r->¬W r/\r≠N)->y.A N= .a tl [.d .i64 left]->¬W N->¬F N->0<=left->left<1000000->
  Dz 71 [.e rt 0, .j e, .e N 0] y fun v ae=>Jq2 W F y ae rt N (addT ty left tb).1 (addT ty left tb).2.2.2/\v= .p [.d .i64 ((addT ty left tb).2.1:Nat), .d .i64 (addT ty left tb).2.2.1]
 |0,_,h=>absurd h (by omega)
 | m+1, .mk k nm ns Y,hm=>by
   intro W F P y rt N tb e left tl hw hT hx hP ad bb bl h0 h1;have ar:=Qu k nm ns Y left tb;refine(Does.B tabM hw (Jl (Q:=fun v ae=>(∀r,y.A r≠ .none->¬(W r\/r=N)->ae.A r=y.A r)/\(∃W' F':Pt->Prop,(∀r,W r->W' r)/\(∀r,W' r->W r\/y.A r= .none)/\(∀r,F' r->F r\/y.A r= .none)/\Tab W' F' ae rt (addT (.mk k nm ns Y) left tb).1)/\(∃t,ae.A N= .a t [.d .i64 (addT (.mk k nm ns Y) left tb).2.2.2])/\v= .p [.d .i64 ((addT (.mk k nm ns Y) left tb).2.1:Nat), .d .i64 (addT (.mk k nm ns Y) left tb).2.2.1]) (aT Tryz.func71 rfl) rfl ?_)).A fun v ae ⟨mn,a,b,c,d⟩=>⟨⟨⟨mn.d,a⟩,b,c⟩,d⟩
   obtain⟨n,O⟩:=nxE y;have au:=fun r (h:y.A r≠ .none)=>jM hw O h;obtain⟨nv,kv,es,rfl,x1,x2,x3,x4⟩:=hx.D;have l1:=x1.G;have l2:=x2.G;rw[Jw]at l1;rw[x3]at l2;have ah:=fun k=>nes (Jr hw O (Jb ad) k);have bx:=fun k=>nes (Jr hw O (by obtain⟨_,_,_,_,_,_,h⟩:=hT;exact h.B) k);have bw:=nes (show rt≠N from fun e=>bb (by obtain⟨_,_,_,_,_,_,h⟩:=hT;rw[<-e];exact h.w.1));have Z:IntKind.i64.wrap (left-1)=left-1:=JV (by omega) (by omega);have e0:Gr y (y.B fun t=> .a t [.d .i64 k,ofL nm,nv,kv]):=Gr.G hw (Jd _);by_cases c1:left-1<0\/8<Y.length\/8<ns.length
   ·rw[ar,Xd c1];have bm:∀S:St,(∀r,y.A r≠ .none->¬(r=N)->S.A r=y.A r)->(S.A N= .a (y.t+1) [.d .i64 (left-1)])->(∀r,y.A r≠ .none->¬(W r\/r=N)->S.A r=y.A r)/\(∃W' F':Pt->Prop,(∀r,W r->W' r)/\(∀r,W' r->W r\/y.A r= .none)/\(∀r,F' r->F r\/y.A r= .none)/\Tab W' F' S rt tb)/\(∃t,S.A N= .a t [.d .i64 (left-1)]):=fun S h1 h2=>
     ⟨fun r e n=>h1 r e fun k=>n (.inr k),⟨W,F,fun _ w=>w,fun _ w=> .inl w,fun _ w=> .inl w,hT.A fun r w e=>h1 r e fun k=>by grind⟩,_,h2⟩
    have bc:∀r,y.A r≠ .none->¬(r=N)->((y.B fun t=> .a t [.d .i64 k,ofL nm,nv,kv]).D N tl fun u=> .a u [.d .i64 (left-1)]).A r=y.A r:=fun r e n=>by simp[J6,KW,O,au r e,n]
    have F:=bm _ bc (by rw[Jk];rfl);by_cases d1:left-1<0
    ·simp only[CT,Tryz.f71,XZ,Nat.reduceEqDiff,↓reduceIte,O,x1.B,x2.B,ah,ad,Z,d1]
     grind
    by_cases d2:(8:Int)<Y.length
    ·simp only[CT,Tryz.f71,XZ,Nat.reduceEqDiff,↓reduceIte,O,x1.B,x2.B,l2,ah,ad,Z,d1,d2]
     grind
    have d3:(8:Int)<ns.length:=by omega
    simp only[CT,Tryz.f71,XZ,Nat.reduceEqDiff,↓reduceIte,O,x1.B,x2.B,l1,l2,ah,ad,Z,d1,d2,d3]
    grind
   ·have c2:¬left-1<0:=fun e=>c1 (.inl e);have c3:¬(8:Int)<Y.length:=fun e=>c1 (.inr (.inl (by omega)));have c4:¬(8:Int)<ns.length:=fun e=>c1 (.inr (.inr (by omega)));rw[ar,Xa c1];simp only[CT,Tryz.f71,XZ,Nat.reduceEqDiff,↓reduceIte,Nat.reduceAdd,Nat.reduceLeDiff,O,x1.A,x1.B,x2.B,l1,l2,ah,ad,Z,c2,c3,c4];have g1:Gr y ((y.B fun t=> .a t [.d .i64 k,ofL nm,nv,kv])):=e0;refine JC (fun j fr S=>∃i Wi Fi ab z U aa al tp,AddI W F y rt N n k nm nv kv Y left tb j fr S i Wi Fi ab z U aa al tp) Y.length (by omega) ?_ ?_
    ·refine⟨0,W,fun r=>F r/\y.A r≠ .none,tb,left-1,[], .g, ?ta, ?tb,⟨by omega, ?_, ?_, ?_, ?_, ?_, ?_, ?ch,fun _ w=>w,fun _ w=> .inl w,fun _ w=> .inl w.1, ?_,bb, ?_,fun w=>bl w.1, ?tab, ?rlp, ?rn,⟨rfl, .inl ⟨rfl,rfl⟩⟩,rfl,by omega,by omega,(Jq3 _).symm⟩⟩
     case rlp=>simp only[XZ,↓reduceIte,O,ah];rfl
     case rn=>simp only[XZ,↓reduceIte];rfl
     case ch=>exact(((Ch.H _ e0).J (Jb (e0.A ad)) (by rw[e0.A ad];rfl) (.inl (.inr rfl)) (Jd _))).L (by simp[Jac,Y7,O,Y6]) (Jd _) (Jd _)
     case tab=>
      refine hT.B.A fun r w e=> ?_;have e1:r≠N:=fun k=>by grind
      simp only[XZ,↓reduceIte,O,au r e,e1]
     all_goals try simp only[XZ,Nat.reduceEqDiff,↓reduceIte,reduceCtorEq]
     ·rfl
     ·obtain⟨_,_,_,_,_,_,hT⟩:=hT;exact fun w=>hT.u _ w (nx0 hw O 1)
     grind
    ·rintro j fr S ⟨i,Wi,Fi,ab,z,U,aa,al,tp,h⟩;have wS:=h.ch.D;obtain⟨nS,aw⟩:=nxE S;by_cases hi:i<Y.length
     ·have ax:(i:Int)<Y.length:=by omega
      have am:i<es.length:=by omega
      obtain⟨q,qo,a1,a2,a3,a4,a5⟩:=x2.I am;have ao:∀r,P r->y.A r≠ .none->S.A r=y.A r:=fun r p e=>h.ch.d r e fun w=>by grind
      have bd:ldn (S.A q) qo 4=some (.j es[i], .a):=by grind
      have oq:=fun k=>nes (Jr wS aw (by rw[ao q a2 a3];exact a3) k);have ap:=x4 i am hi;obtain⟨E,hE⟩:∃E,E=es[i]:=⟨_,rfl⟩
      obtain⟨T,ay⟩:∃T,T=Y[i]:=⟨_,rfl⟩
      rw[<-hE]at bd ap;rw[<-ay]at ap;obtain⟨k',n',ai,aj⟩:=T;obtain⟨be,bf,bz,rfl,y1,y2,y3,y4⟩:=ap.D;simp only[XZ,Nat.reduceEqDiff,↓reduceIte,reduceCtorEq,Nat.reduceAdd,h.q,h.t,h.h,h.d,h.e,ax,a1,bd,aw,y1.B,y2.B];have gS:Gr S ((S.B fun t=> .a t [.d .i64 0,ofL [], .g, .g]).D (up 0 nS) S.t fun u=> .a u [.d .i64 k',ofL n',be,bf]):=(Gr.F wS).M aw (Jd _) (Jd _);refine Jc (add m (.mk k' n' ai aj) (by rw[ay];have:=YP (k:=k) (n:=nm) (ns:=ns) hi;omega) Wi Fi (fun r=>P r/\y.A r≠ .none) _ rt N ab _ z al gS.D (h.tab.G gS) ((ap.A fun r p e=>⟨⟨p,e⟩,ao r p e⟩).H gS) (fun r p=>⟨fun w=>by rcases h.o r w with w|w;exact(hP r p.1).1 w;grind,(hP r p.1).2⟩) (gS.A h.rlp) h.g h.m h.v (by have:=h.w;omega)) ?_;rintro _ S2 ⟨⟨c2,⟨W2,F2,b1,b2,b3,T2⟩,t2,aq⟩,rfl⟩;have X:=h.c;rw[Xc hi,<-ay]at X;have bn:=jZ (.mk k' n' ai aj) z ab h.v;have az:=Jky (ids:=U) (t:= .mk k' n' ai aj) (r:=Y.drop (i+1)) (left:=z) (tb:=ab);have a0:=Jkz (ids:=U) (t:= .mk k' n' ai aj) (r:=Y.drop (i+1)) (left:=z) (tb:=ab);generalize addT (.mk k' n' ai aj) z ab=A at*;obtain⟨bo,a6,bg,ak⟩:=A;simp only at*;have a7:Ch (fun r=>W r\/r=N) y S2:=(h.ch.I gS).A c2 fun r w=>by
       rcases w with w|w
       ·rcases h.o r w with w|w
        ·grind
        grind
       grind
      have bh:∀r,W2 r->W r\/y.A r= .none:=fun r w=>by
       rcases b2 r w with w|w
       ·exact h.o r w
       ·exact .inr ((h.ch.I gS).B w)
      have bi:∀r,F2 r->F r\/y.A r= .none:=fun r w=>by
       rcases b3 r w with w|w
       ·exact h.x r w
       ·exact .inr ((h.ch.I gS).B w)
      by_cases he:bg=0
      ·subst he;have a8:=X.trans (az rfl);have bp:∀r,S.A r≠ .none->((S.B fun t=> .a t [.d .i64 0,ofL [], .g, .g]).D (up 0 nS) S.t fun u=> .a u [.d .i64 k',ofL n',be,bf]).A r≠ .none:=fun r e=>by rw[gS.d r e];exact e
       have nW:∀r,S.A r≠ .none->¬Wi r->¬W2 r:=fun r e w w2=>by grind
       have nF:∀r,S.A r≠ .none->¬Fi r->¬F2 r:=fun r e w w2=>by grind
       have keep:∀r,S.A r≠ .none->¬Wi r->r≠N->S2.A r=S.A r:=fun r e w n=>by
        rw[c2.d r (bp r e) (fun x=>by grind),gS.d r e]
       have av:up 1 n≠N:=by grind
       have af:S2.A (up 1 n)= .a tp [.d .i64 k,ofL nm,nv,aa]:=by rw[keep _ (Jb h.rn) h.f av,h.rn]
       have ag:LsAt (fun r=>¬W2 r/\¬F2 r/\y.A r= .none/\r≠up 1 n) S2 N aa 1 U.length (U.map fun a:Nat=>V.d .i64 (a:Int)):=by
        refine⟨h.ls.1, ?_⟩;rcases h.ls.2 with l|⟨r,t,l1,l2,l3,l4⟩
        ·grind
        grind
       have w2:=c2.D;obtain⟨n2,K⟩:=nxE S2;have b0:=fun k=>nes (Jr w2 K (Jb af) k);have b4:=fun k=>nes (Jr w2 K (Jb aq) k);simp only[XZ,Nat.reduceEqDiff,↓reduceIte,h.p,af,K];refine JoI (rt:=N) (ag.D fun r t b5 b6 bq=> ?_) (tq:= ?tq) (new:=[V.d IntKind.i64 a6]) ?hq rfl rfl (by have:=h.b;omega) ?wf ?_
       ·have e1:=nes (Jr w2 K (Jb bq) 0);simp[KW,K,e1]
       case hq=>simp[KW,K];rfl
       case wf=>exact(Gr.G w2 (Jd _)).D
       intro S5 t6 r5 n5 s5 x5 m5;simp[Y7,K,Y6,Nat.reduceAdd]at r5 n5;have f5:∀r,S2.A r≠ .none->rowOf aa≠some r->S5.A r=S2.A r:=fun r a1 a2=>by
        rw[s5 r (by simp[Y7,K,Y6];exact Jr w2 K a1 1) a2];have e1:=nes (Jr w2 K a1 0);simp[KW,K,e1]
       have a9:S5.A (up 1 n)= .a tp [.d .i64 k,ofL nm,nv,aa]:=by rw[f5 _ (Jb af) (fun e=>(ag.A e).1.2.2.2 rfl),af]
       have b7:S5.A N= .a t2 [.d .i64 ak]:=(f5 _ (Jb aq) (fun e=>(ag.A e).2.1 rfl)).trans aq;have ba:=wiN (i:=i) (by omega);have b8:=nes av;have o5:=fun k=>nes (Jr w2 K (Jb af) k);simp only[XZ,Nat.reduceEqDiff,↓reduceIte,Nat.reduceAdd,a9,h.p,h.e,K,ba];have g5:Ch (fun r=>W r\/r=N) y S5:=by
        refine a7.A (W':=fun r=>rowOf aa=some r) ⟨(ja w2 (Jd [.d .i64 (a6:Int)])).A m5,fun r e n=>f5 r e n⟩ fun r e=> .inr ((ag.A e).1.2.2.1)
       have bj:y.A (up 1 n2)= .none:=a7.B (nx0 w2 K 1);have br:∀r,S2.A r≠ .none->r≠up 1 n2:=fun r e=>Jr w2 K e 1;have bt:¬W2 (up 1 n2):=fun w=>by obtain⟨_,_,_,_,_,_,bu⟩:=T2;exact bu.u _ w (nx0 w2 K 1)
       refine⟨Y.length-(i+1),by have:=h.u;omega,i+1,W2,fun r=>F2 r/\S2.A r≠ .none,bo,ak,U++[a6], .u (up 1 n2) 0 (U.length+1) 1,t2,S5.t,⟨by omega, ?_, ?_, ?_, ?_, ?_, ?_, ?ch,fun r w=>b1 r (h.s r w),bh,fun r w=>bi r w.1,nW _ (Jb h.rn) h.f,nW _ (Jb h.rlp) h.g,fun w=>nF _ (Jb h.rn) h.l w.1,fun w=>nF _ (Jb h.rlp) h.m w.1, ?tab, ?rlp, ?rn, ?ls,by simp[h.b],bn.2.2 rfl,by have:=h.w;omega,a8⟩⟩
       case ch=>exact g5.J (Jb a9) (by rw[a9];rfl) (.inr (nx0 hw O 1)) (Jd _)
       all_goals try simp only[XZ,Nat.reduceEqDiff,↓reduceIte,reduceCtorEq,h.q,h.t,h.p,h.h,h.d]
       case tab=>
        refine T2.B.A fun r w e=> ?_;have e1:r≠up 1 n:=fun k=>by
         rcases w with w|w
         ·exact nW _ (Jb h.rn) h.f (by grind)
         ·exact nF _ (Jb h.rn) h.l (by grind)
        rw[J6,Xa e1];refine f5 r e fun k=> ?_;rcases w with w|w
        ·exact(ag.A k).1.1 w
        ·exact(ag.A k).1.2.1 w.1
       case rlp=>grind
       case ls=>
        refine⟨by simp, .inr ⟨up 1 n2,t6,by simp, ?_,⟨bt,fun w=>w.2 (nx0 w2 K 1),bj, ?_⟩, ?_⟩⟩
        ·rw[J6,Xa (br _ (Jb af)).symm,r5];simp
        ·grind
        grind
      ·have a8:=X.trans (a0 he);have bk:¬bg=0:=he;simp only[XZ,Nat.reduceEqDiff,↓reduceIte,bk];rw[a8];simp only[bk,HA,ZT];exact⟨a7.d,⟨W2,F2,fun r w=>b1 r (h.s r w),bh,bi,T2⟩,⟨t2,aq⟩,rfl⟩
     ·have am:i=Y.length:=by have:=h.u;omega
      have ax:¬(i:Int)<Y.length:=by omega
      have X:=h.c;rw[am,Z3,KU]at X;have X:JB Y (left-1) tb=(ab,U,0,z):=by rw[X];simp[pre]
      rw[X];simp only[XZ,Nat.reduceEqDiff,↓reduceIte,reduceCtorEq,Nat.reduceAdd,h.q,h.p,h.d,h.e,ax,h.rn];have ao:∀r,P r->y.A r≠ .none->S.A r=y.A r:=fun r p e=>h.ch.d r e fun w=>by grind
      have bv:SlAt (fun _=>True) S aa 1 (ints U):=(LsAt.G (es:=ints U) (by rw[JgD];exact h.ls) (Jb5 _) (JS _)).D fun _ _ _=>⟨trivial,rfl⟩
      refine Jc (lay (nd:=⟨k,nm,ns,U⟩) wS h.tab ⟨nv,aa,rfl,x1.D fun r p e=>⟨trivial,ao r p e⟩,bv⟩ ⟨(by grind),(by show U.length<=8;have:=h.b;omega)⟩) ?_;rintro _ S2 ⟨c2,⟨W2,F2,b1,b2,b3,T2⟩,rfl⟩;simp only[XZ,Nat.reduceEqDiff,↓reduceIte];refine⟨fun r e n=> ?_,⟨W2,F2,fun r w=>b1 r (h.s r w),fun r w=> ?_,fun r w=> ?_,T2⟩,al, ?_⟩
      ·have e2:=h.ch.d r e n;rw[c2.d r (by grind) fun w=>by rcases h.o r w with w|w;exact n (.inl w);exact e w,e2]
      ·rcases b2 r w with w|w
       ·exact h.o r w
       ·exact .inr (h.ch.B w)
      ·rcases b3 r w with w|w
       ·exact h.x r w
       ·exact .inr (h.ch.B w)
      ·rw[c2.d N (Jb h.rlp) h.g,h.rlp]
end Go.Proofs.YtmcjecniobkggaaGreat
