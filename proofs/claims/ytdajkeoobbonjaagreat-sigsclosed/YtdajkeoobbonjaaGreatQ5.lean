/- The front of a path that is known: the program's. The type of a path: the program's. Ho -/
import Derived.Test.YtdajkeoobbonjaaGreatQ4
set_option linter.constructorNameAsVariable false
set_option maxHeartbeats 20000000
set_option linter.unusedVariables false
set_option linter.unusedSimpArgs false
set_option linter.unusedSectionVars false
set_option maxRecDepth 100000
namespace Go.Proofs.YtdajkeoobbonjaaGreat
open Eva Go.RowKit
variable {s P:Pt->Prop}{v y:St}{e x:List V}{n:List Nat}{t:Tb->List Nat->List Nat->Nat×Int}{k:Tb}{z:Pt}{b:Nat}{d:List Str}{i:V}{r:List (Int×List Str×Nat)}{q:EnvS}{p:Str}{f:Sch}{l:List Nd}{h a:Nd}{g:EnvS->Tb->Opn->Ans3}{m:Int}{j:Int×List Str×Nat}{c:Opn}{u:List (List V)}{w:Pipe}{S:Tb×Nat×Int}
theorem JtM {b:V}{g:List Str}(h:SlAt s v i 1 (strs d))(k:SlAt P v b 1 (strs g))(W:d.length<100000)(X:g.length<100000):
  Dz 204 [i,b] v fun c w=>c= .h (decide (d=g))/\v=w:=by
 refine Jl (aT Tryz.func204 rfl) rfl ?_;have x:=h.G;have y:=k.G;rw[Jv]at x y;simp only[CT,Tryz.f204,XY,simprocAttr];rw[Ja];simp[XY];by_cases z:d.length=g.length;rotate_left
 ·have e:¬d=g:=fun e=>z (by rw[e]);have l:¬(d.length:Int)=g.length:=by omega
  rw[Jd,Ja];simp[XY,x,y,l,e];rw[Ja];simp[XZ]
 have l:(d.length:Int)=g.length:=by omega
 rw[Jd,Ja];simp[XY,x,y,l];rw[Jd,Ja];simp[XY,x,l];refine Jo (fun j t w=>∃f:Nat,j+f=g.length/\t 0=i/\t 1=b/\t 12= .d .i64 (g.length:Nat)/\t 13= .d .i64 (f:Nat)/\v=w/\decide (d=g)=decide (d.drop f=g.drop f)) g.length (by omega) ⟨0,by omega,rfl,rfl,rfl,by rfl,rfl,rfl⟩ ?_;rintro L hL j t w ⟨f,Y,J,K,n,p,rfl,m⟩;by_cases u:f<g.length;rotate_left
 ·rw[XB (by omega),XB (by omega)]at m;simp[XZ,n,p,u,m]
 have q:=wiN (i:=f) (by omega);obtain⟨r,o,M,N⟩:=Q7 h (i:=f) (by omega);obtain⟨Z,o',O,Q⟩:=Q7 k u;have U:decide (d.drop f=g.drop f)=(decide (d[f]=g[f])&&decide (d.drop (f+1)=g.drop (f+1))):=by
  rw[Xc (show f<d.length by omega),Xc u]
  grind
 rw[U]at m;by_cases T:d[f]=g[f]
 ·simp[XZ,J,K,n,p,u,M,N,O,Q,T,q];exact⟨g.length-(f+1),by omega,hL _ _ _ ⟨f+1,by omega,J,K,n,rfl,rfl,by grind⟩⟩
 ·simp[XZ,J,K,n,p,u,M,N,O,Q,T,m]
theorem cutP (h:SlAt s v i 1 (strs d))(f:b<=d.length):∃u,(∀g:St,QG g 1 i none (some (.d .i64 (b:Nat))) none=some (u, .a))/\SlAt s v u 1 (strs (d.take b)):=by
 obtain⟨u,a,c,_⟩:=Jfn h (k:=b) (by rw[Jv];exact f);refine⟨u,fun _=>a, ?_⟩;have e:(strs d).take b=strs (d.take b):=by unfold strs;simp
 grind
theorem cutD (h:SlAt s v i 1 (strs d))(f:b<=d.length):∃u,(∀g:St,QG g 1 i (some (.d .i64 (b:Nat))) none none=some (u, .a))/\SlAt s v u 1 (strs (d.drop b)):=by
 obtain⟨u,a,c,_⟩:=JbM h (k:=b) (by rw[Jv];exact f);refine⟨u,fun _=>a, ?_⟩;have e:(strs d).drop b=strs (d.drop b):=by unfold strs;simp
 grind
theorem Juy {E:EnvS}(hw:WF v)(hE:EnvC s v e E)(hp:SlAt P v i 1 (strs d))(hv:m= -1\/∃f:Nat,m=f/\f<E.a.length)(hn:E.b.length<100000)(hl:d.length<100000)(ai:∀x∈E.b,x.2.1.length<100000):
  Dz 184 [.j e, .d .i64 m,i] v fun w Z=>Gr v Z/\w= .p [.d .i64 ((JaJ E m d).1:Nat), .d .i64 ((JaJ E m d).2:Nat)]:=by
 refine Jn tabM (aT Tryz.func184 rfl) rfl hw fun K aj=> ?_;obtain⟨vv,nv,rfl,h1,h2⟩:=hE;have c1:=h1.A;have c2:=h1.B;have c3:=h2.B.2;have c4:=h2.B.1;have ln:=h2.H;have lp:=hp.G;rw[Jv]at lp;obtain⟨n0,ae⟩:=nxE v;simp only[CT,Tryz.f184,XY,simprocAttr];rw[Ja];simp[XY,ae,c2,c4];generalize ak:up 0 n0=p3;refine nm1 hw ae ak ?_;intro S1 G1 av ⟨t3,r3⟩;rw[Ja];simp[XY,r3];refine Ju (fun k Z=>k 1= .d .i64 m/\k 2=i/\k 3= .g p3 0/\k 8= .d .i64 (kD E m:Nat)/\k 9= .d .i64 0/\Z=S1) (fun J hJ=> ?_) ?_
 ·rcases hv with rfl|⟨f,rfl,hi⟩
  ·simp[XZ];exact hJ _ _ (by simp[XZ,kD,ZP])
  ·obtain⟨r,o,a1,a2,a3,a4,a5⟩:=h1.H (i:=f) (by grind);have a6:ld1 (S1.A r) (o+1)=some (.d .i64 (E.a[f].2:Nat), .a):=by rw[G1.d r a3];have:=a5 1 (by simp[varE]);simpa[varE]using this
   have al:¬(f:Int)= -1:=by omega
   have am:kD E (f:Nat)=E.a[f].2:=by unfold kD;grind
   simp[XZ,r3,al,a1,a6];exact hJ _ _ (by simp[XZ,am,ZP])
 rintro k Z ⟨M,T,f3,f8,N,rfl⟩;rw[Jd,Ja];simp[XY,f3,r3,ln];obtain⟨L,hL⟩:=loE fun j k Z=>∃(f:Nat) (a:Nat×Nat),j+f=E.b.length/\k 1= .d .i64 m/\k 2=i/\k 8= .d .i64 (a.1:Nat)/\k 9= .d .i64 (a.2:Nat)/\k 23=nv/\k 24= .d .i64 (E.b.length:Nat)/\k 25= .d .i64 (f:Nat)/\Gr v Z/\JaJ E m d=(E.b.drop f).foldl (narS m d) a;refine JD L E.b.length (by omega) ((hL _ _ _).2 ⟨0,(kD E m,0),by omega,M,T,f8,by simp[XZ,N]<;>rfl,rfl,rfl,by rfl,G1,rfl⟩) ?_;clear M T f3 f8 N;intro j k S2 ao;obtain⟨f,⟨t,O⟩,hj,M,T,f8,N,z,n,l,G2,U⟩:=(hL _ _ _).1 ao;by_cases hi:f<E.b.length;rotate_left
 ·rw[XB (by omega)]at U;simp[XZ,n,l,hi,f8,N];exact aj _ _ (fun r e=>G2.d r e) fun _=>by grind
 have aa:=wiN (i:=f) (by omega);rw[Xc hi,Zz]at U;obtain⟨r,o,en,a1,_,a3,a4,a5,_⟩:=h2.A hi;have ap:ldn (S2.A r) o 3=some (.j en, .a):=by rw[G2.d r a3];exact a4
 have W:=ai _ (Xh hi);obtain⟨x,hx⟩:=exE (E.b[f]);rw[<-hx]at a5 U W;obtain⟨xv,y,xt⟩:=x;obtain⟨qv,rfl,hq⟩:=a5;simp at hq W;have aq:SlAt s S2 qv 1 (strs y):=hq.I G2;have c5:=hq.A;have c6:=hq.B;have lq:=hq.G;rw[Jv]at lq;obtain⟨n2,af⟩:=nxE S2;have w2:=G2.D;rw[Ja];simp[XY,n,l,hi];rw[Jd];simp[XY];refine Ju (fun k Z=>k 1= .d .i64 m/\k 2=i/\k 8= .d .i64 ((narS m d (t,O) (xv,y,xt)).1:Nat)/\k 9= .d .i64 ((narS m d (t,O) (xv,y,xt)).2:Nat)/\k 23=nv/\k 24= .d .i64 (E.b.length:Nat)/\k 25= .d .i64 (f:Nat)/\Gr v Z) (fun J2 X=> ?_) ?_;rotate_left
 ·rintro k Z ⟨M,T,f8,N,z,n,l,G3⟩;simp[XZ,l,aa];exact⟨E.b.length-(f+1),by omega,(hL _ _ _).2 ⟨f+1,narS m d (t,O) (xv,y,xt),by omega,by simp[XZ,M,T,f8,N,z,n,Z6];grind⟩⟩
 simp[XY];rw[Ja];simp[XY,z,l,a1,ap,af,c6];generalize ag:up 0 n2=aw;refine nmA w2 af ag ?_;intro S3 G3 au ⟨ax,Y⟩;have Q:=G2.A G3;by_cases q1:xv=m;rotate_left
 ·have q:narS m d (t,O) (xv,y,xt)=(t,O):=Xa fun c=>q1 c.1;simp[XZ,M,Y,q1];exact X _ _ (by simp[XZ,M,T,f8,N,z,n,l,q,Z6];exact Q)
 have ab:(xv=m)=True:=Zn q1;by_cases q2:O<=y.length;rotate_left
 ·have q:narS m d (t,O) (xv,y,xt)=(t,O):=Xa fun c=>q2 c.2.1;simp[XZ,M,N,Y,ab,lq,q2];exact X _ _ (by simp[XZ,M,T,f8,N,z,n,l,q,Z6];exact Q)
 by_cases q3:y.length<=d.length;rotate_left
 ·have q:narS m d (t,O) (xv,y,xt)=(t,O):=Xa fun c=>q3 c.2.2.1;have ad:¬(y.length:Int)<=d.length:=by omega
  simp[XZ,M,T,N,Y,ab,lq,lp,q2,ad];exact X _ _ (by simp[XZ,M,T,f8,N,z,n,l,q,Z6];exact Q)
 have ad:(y.length:Int)<=d.length:=by omega
 obtain⟨u,hu,ar⟩:=cutP (hp.I Q) q3;simp[XZ,M,T,N,Y,ab,lq,lp,q2,ad,hu];refine Ji (P:=fun w _=>w= .h (decide (y=d.take y.length))) ((JtM ((aq.I G3).L _) (ar.L _) W (by grind)).A fun w Z ⟨a,b⟩=>⟨b▸Gr.F (Jq G3.D _),a⟩) ?_;rintro _ S4 G4 rfl;have ah:=G4.B Y;by_cases q4:y=d.take y.length
 ·have q:narS m d (t,O) (xv,y,xt)=(xt,y.length):=Xe ⟨q1,q2,q3,q4⟩;simp[XZ,Xp q4,ah,lq];exact X _ _ (by simp[XZ,M,T,z,n,l,q,Z6];exact Q.A G4)
 ·have q:narS m d (t,O) (xv,y,xt)=(t,O):=Xa fun c=>q4 c.2.2.2;simp[XZ,Xv q4];exact X _ _ (by simp[XZ,M,T,f8,N,z,n,l,q,Z6];exact Q.A G4)
def idxV (n:Str)(ns:List Str):Int:=match fstN n ns with
 |some i=>(i:Int)
 |none=> -1
theorem Jlz (h:SlAt s v i 1 (strs d))(z:d.length<100000):Dz 168 [i,ofL p] v fun u m=>u= .d .i64 (idxV p d)/\v=m:=by
 refine Jl (aT Tryz.func168 rfl) rfl ?_;have c:=h.G;rw[Jv]at c;simp only[CT,Tryz.f168,XY,simprocAttr];rw[Ja];simp[XY];rw[Jd,Ja];simp[XY,c];refine Jo (fun j g m=>∃a:Nat,j+a=d.length/\g 0=i/\g 1=ofL p/\g 7= .d .i64 (d.length:Nat)/\g 8= .d .i64 (a:Nat)/\v=m/\fstN p d=(fstN p (d.drop a)).map (·+a)) d.length (by omega) ⟨0,by omega,rfl,rfl,rfl,by rfl,rfl,by simp⟩ ?_;rintro L hL j g m ⟨a,J,q,t,n,w,rfl,b⟩;by_cases k:a<d.length;rotate_left
 ·rw[XB (by omega)]at b;have b:fstN p d=none:=b;simp[XZ,n,w,k,idxV,b]
 have f:=wiN (i:=a) (by omega);obtain⟨r,o,x,y⟩:=Q7 h k;rw[Xc k,fstN]at b;by_cases l:p=d[a]
 ·rw[Xe l.symm]at b;have b:fstN p d=some a:=by grind
  simp[XZ,q,t,n,w,k,x,y,l];rw[<-l];simp[idxV,b]
 ·rw[Xa fun e=>l e.symm]at b;simp[XZ,q,t,n,w,k,x,y,l,f];exact⟨d.length-(a+1),by omega,hL _ _ _ ⟨a+1,by omega,q,t,n,rfl,rfl,by rw[b,Hu];congr 1;grind⟩⟩
theorem JhF (h:OfF f k)(c:b<k.a.length)(d:(Ks k (k.a.length+1) b).1<k.a.length):k.a[(Ks k (k.a.length+1) b).1]=Jm k b:=by
 have:=(h.F c).2.2.1
 grind
theorem Juz {P':Pt->Prop}{Z:Tb}{E:EnvS}{k:Int}{sx:Str}{h:Bool}(hT:TabU v s z Z)(hO:OfF f Z)(hE:EnvC P v e E)(hK:EnvK Z E)(ho:OprC P' v b x (.mk k p d sx m h w))(hl:d.length<100000):
  Dz 157 [.j e, .g z 0, .j x] v fun l S'=>Gr v S'/\l= .p [.d .i64 ((Qs Z E p d).1:Nat), .d .i64 (Qs Z E p d).2]:=by
 obtain⟨b,rfl⟩:∃d',b=d'+1:=by
  cases b with
  |zero=>exact ho.elim
  |succ b=>simp
 have hw:=hT.1;refine Jn tabM (aT Tryz.func157 rfl) rfl hw fun K O=> ?_;have aq:=hE;obtain⟨vv,nv,rfl,h1,h2⟩:=hE;obtain⟨pv,qv,rfl,hp,hq⟩:=ho;have c1:=h1.A;have c2:=h1.B;have c3:=h2.B.2;have c4:=h2.B.1;have d1:=hp.A;have d2:=hp.B;have d3:=hq.B.2;have d4:=hq.B.1;obtain⟨n0,ah⟩:=nxE v;simp only[CT,Tryz.f157,XY,simprocAttr];rw[Ja];simp[XY,ah,c2,c4,d2,d4];generalize ar:up 0 n0=p3;generalize au:up 1 n0=p5;refine nm2 hw ah ar au ?_;intro S1 G1 ay az _ ⟨t3,r3⟩ ⟨t5,r5⟩;have ai:EnvC P S1 [.d .i64 (E.c:Nat),vv,nv] E:=aq.A G1.H;rw[Ja];simp[XY,r3,r5];refine Je (JbT (Q:=fun l S'=>l=JaM E p/\S1=S') (aH (k:=183) rfl) (JfP ai (by have:=hK.e;omega) p) ⟨rfl,rfl⟩) ?_;rintro _ _ ⟨rfl,rfl⟩;unfold Qs at O
 cases T:Qh E p with
 | none=>
   rw[T]at O;simp only[JaM,T,XY,simprocAttr];rw[Jd,Ja];simp[XY];rw[Ja];simp[XZ];exact O _ _ (fun r e=>G1.d r e) fun _=>rfl
 |some l=>
 rw[T]at O;simp at O;have hv:=qC T;obtain⟨ft,fl⟩:=JfQ hK hv d;simp only[JaM,T,XY,simprocAttr];rw[Jd,Ja];simp[XY];rw[Ja];simp[XY,r3,r5];refine Je (Juy G1.D ai (hp.I G1) hv hK.f hl fun t a=>(hK.c t a).2.1) ?_;rintro _ S2 ⟨G2,rfl⟩;have av:=G2.B r5;have ad:=G1.A G2;obtain⟨u,hu,U⟩:=cutD (hp.I ad) fl;have lu:=U.G;rw[Jv]at lu;generalize JaJ E l d=tl at ft fl hu U lu O⊢;obtain⟨t0,lg⟩:=tl;simp only at ft fl hu U lu O;generalize aw:d.drop lg=J at U lu O;have a0:J.length<=d.length:=by grind
 simp[XY];rw[Jd,Ja];simp[XY,av,hu,lu];refine Jo (fun j fr S'=>∃(i id:Nat),j+i=J.length/\fr 1= .g z 0/\fr 10= .d .i64 (id:Nat)/\fr 39=u/\fr 40= .d .i64 (J.length:Nat)/\fr 41= .d .i64 (i:Nat)/\Gr v S'/\Gr S2 S'/\id<Z.a.length/\YC Z t0 J=YC Z id (J.drop i)) J.length (by omega) ⟨0,t0,by omega,rfl,rfl,rfl,rfl,by rfl,ad,Gr.F ad.D,ft,rfl⟩ ?_;rintro L hL j fr S3 ⟨i,id,hj,f1,aj,ak,ae,aa,G3,al,hid,y⟩;by_cases hi:i<J.length;rotate_left
 ·rw[XB (by omega)]at y;simp[XZ,ae,aa,hi,aj];exact O _ _ (fun r e=>G3.d r e) fun _=>by rw[y];rfl
 have af:=wiN (i:=i) (by omega);rw[Xc hi,YC]at y;obtain⟨r,o,a1,a4⟩:=Q7 (U.I al) hi;generalize J[i]=nm at y a4;rw[Ja];simp[XY,ae,aa,hi];rw[Jd];simp[XY];rw[Jd];simp[XY];rw[Ja];simp[XY,ak,aa,a1,a4];rw[Ja];simp[XY,f1,aj];obtain⟨o1,o2,o3,o4,o5,o6⟩:=hO.F hid;refine Je (JkB (hT.A G3) o1) ?_;rintro _ _ ⟨rfl,rfl⟩;simp[XY];rw[Ja];simp[XY,f1];refine Je (Jnh (hT.A G3) o2) ?_;rintro _ S4 ⟨T4,G4,e',rfl,a2,a3,rfl,x1,x2⟩;rw[JhF hO hid o2]at x1 x2⊢;generalize hN:Jm Z id=N at x1 x2 o3 o4 o5 o6⊢;have c5:=x1.A;have c6:=x1.B;have c7:=x2.A;have c8:=x2.B;have lk:=x2.G;rw[JP]at lk;obtain⟨n4,am⟩:=nxE S4;simp[XY,am,c6,c8];generalize ao:up 0 n4=a5;refine nmA G4.D am ao ?_;intro S5 G5 ax ⟨a6,X⟩;have ab:=(G3.A G4).A G5;rw[Ja];simp[XY,X];refine Je (Jlz (x1.I G5) (by have:=o5.b;omega)) ?_;rintro _ _ ⟨rfl,rfl⟩;have hf:JbS Z id nm=if N.a=7 then(match fstN nm N.b with
  |some i=>N.c[i]?
  |none=>none)else none:=by unfold JbS;grind
 by_cases h7:N.a=7;rotate_left
 ·rw[hf,Xa h7]at y;simp[XY];rw[Jd,Ja];simp[XY,X,h7];rw[Ja];simp[XZ];exact O _ _ (fun r e=>ab.d r e) fun _=>by grind
 rw[hf,Xe h7]at y
 cases hx:fstN nm N.b with
 | none=>
   rw[hx]at y;have Y:(-1:Int)<0:=by omega
   simp only[idxV,hx,XY,simprocAttr];rw[Jd,Ja];simp[XY,X,h7];rw[Ja];simp[XZ];exact O _ _ (fun r e=>ab.d r e) fun _=>by grind
 | some q=>
   rw[hx]at y;simp at y;have Y:¬(q:Int)<0:=by omega
   simp[idxV,hx];by_cases hq:q<N.c.length
   ·have ag:¬(q:Int)≥N.c.length:=by omega
    have ap:=o6 _ (Xh hq);rw[Xg hq]at y;obtain⟨r',q',b1,b2,b3,b4⟩:=SlAt.M (xs:=N.c.map fun m:Nat=>V.d .i64 (m:Int)) (i:=q) (x2.I G5) (by grind);simp at b4;simp[XZ,X,h7,Y,lk,ag,b1,b4,aa,af];exact⟨J.length-(i+1),by omega,hL _ _ _ ⟨i+1,N.c[q],by omega,by simp[XZ,f1,ak,ae,Z6];exact⟨ab,(al.A G4).A G5,ap,y⟩⟩⟩
   ·have ag:(q:Int)≥N.c.length:=by omega
    rw[ZJ (by omega)]at y;simp[XZ,X,h7,Y,lk,ag];exact O _ _ (fun r e=>ab.d r e) fun _=>by grind
theorem JsR (a:Str)(S:St):Dz 180 [ofL a] S fun v e=>v= .d .i64 (JaK a:Nat)/\S=e:=by
 refine Jl (aT Tryz.func180 rfl) rfl ?_;by_cases h:a∈[[108,101,110],[110,111,116],[116,101,120,116],[104,97,115],[105,56],[105,49,54],[105,51,50],[117,56],[117,49,54],[117,51,50]]
 ·have b:JaK a=1:=Xe h;rw[b];simp at h;rcases h with rfl|rfl|rfl|rfl|rfl|rfl|rfl|rfl|rfl|rfl
  all_goals
   simp only[CT,Tryz.f180,XZ,simprocAttr,XV,Gl,ZV,reduceCtorEq]
 ·have b:JaK a=2:=Xa h;rw[b];simp[Hc]at h;obtain⟨f,g,i,j,k,l,m,n,o,c⟩:=h;simp only[CT,Tryz.f180,XZ,simprocAttr,f,g,i,j,k,l,m,n,o,c]
  trace_state
def Yh (nm:Str)(ks:List Int)(k:Int):Prop:=
 (nm=[110,111,116]/\ks=[1]/\k=1)\/(nm=[104,97,115]/\ks=[6]/\k=1)\/(nm=[97,110,100]/\ks=[1,1]/\k=1)\/(nm=[111,114]/\ks=[1,1]/\k=1)\/(nm=[108,116]/\ks=[2,2]/\k=1)\/
 (nm=[97,100,100]/\ks=[2,2]/\k=2)\/(nm=[115,117,98]/\ks=[2,2]/\k=2)\/(nm=[109,117,108]/\ks=[2,2]/\k=2)\/(nm=[115,104,108]/\ks=[2,2]/\k=2)\/(nm=[115,104,114]/\ks=[2,2]/\k=2)\/(nm=[99,97,116]/\ks=[3,3]/\k=3)
theorem JtN {args:List Nat}{u:List Int}(y:Yh p u m)(hl:u.length=l.length)(X:TabU v s z k)(h:AskC (fun r=>¬s r) v z e l args):
  Dz 182 [.j e,ofL p] v (Ans s v z (Jbu k m (areZ u l))):=by
 refine Jl (aT Tryz.func182 rfl) rfl ?_;have h8:u.length<=8/\0<u.length:=by
  unfold Yh at y;rcases y with⟨_,rfl,_⟩|⟨_,rfl,_⟩|⟨_,rfl,_⟩|⟨_,rfl,_⟩|⟨_,rfl,_⟩|⟨_,rfl,_⟩|⟨_,rfl,_⟩|⟨_,rfl,_⟩|⟨_,rfl,_⟩|⟨_,rfl,_⟩|⟨_,rfl,_⟩<;>simp
 obtain⟨n0,w⟩:=nxE v;have f:=h;obtain⟨lv,av,es,rfl,N,h2,h3,Y⟩:=h;have c1:=N.A;have c2:=N.B;have c3:=Y.A;have c4:=Y.B;have hw:=X.1;simp only[CT,Tryz.f182,XY,simprocAttr];rw[Ja];simp[XY,w,c2,c4];generalize O:up 0 n0=p2;refine nm1 hw w O ?_;intro S0 x _ ⟨t2,J⟩;have P:=f.B x;obtain⟨r,q,aa,Q,a2,a3,a4,a5,a6⟩:=jt (N.I x) h2 (fun i a b=>(h3 i a b).A x.H) (i:=0) (by omega);have Q:Js 4 lv (.d .i64 0)=some (.g r q, .a):=Q;have Z:=x.D;obtain⟨n1,n⟩:=nxE S0;have o2:=fun m=>nes (Jt Z n (Jb J) m);rw[Ja];simp[XY,J,Q,a4];unfold Yh at y;rcases y with⟨rfl,rfl,rfl⟩|⟨rfl,rfl,rfl⟩|⟨rfl,rfl,rfl⟩|⟨rfl,rfl,rfl⟩|⟨rfl,rfl,rfl⟩|⟨rfl,rfl,rfl⟩|⟨rfl,rfl,rfl⟩|⟨rfl,rfl,rfl⟩|⟨rfl,rfl,rfl⟩|⟨rfl,rfl,rfl⟩|⟨rfl,rfl,rfl⟩
 all_goals
  simp[XZ,J,n,XV,Gl,GD];generalize T:up 0 n1=x0;refine nm1c Z n T ?_;intro S1 K _ ⟨t3,r3⟩;have o:=x.A K;have U:=K.B J
  first
   |refine Ji (areI (Jq K.D _) ((f.B o).A _) ((izs1 r3).L _) (by omega) (by simp)) ?_
   |refine Ji (areI (Jq K.D _) ((f.B o).A _) ((izs2 r3).L _) (by omega) (by simp)) ?_
  rintro _ S2 M rfl;have t:=o.A M;have ab:=M.B U;simp[XZ];refine KB (W:=s) M.D ((JhE _ _ (Qz (X.A t) (Jq M.D _)) ((f.B t).A _)).A fun c S h=>⟨h.1,h.2⟩) ?_;rintro _ S3 lo C3 ⟨W3,T3,K3,rfl⟩;simp[XZ];exact Ans.D t ⟨C3,W3,Qz T3 C3.D,K3,rfl⟩
def kF (nm:Str):Prop:=nm∉[[108,101,110],[110,111,116],[97,110,100],[111,114],[101,113],[108,116],[97,100,100],[115,117,98],[109,117,108],[115,104,108],[115,104,114],[99,97,116],[116,101,120,116],[97,116],[103,101,116],[104,97,115],[111,114,101,108,115,101]]
theorem JhG {A:Nd}{args:List Nat}(hn:kF p)(hT:TabU v s z k)(h:AskC (fun r=>¬s r) v z e [A] args):
  Dz 182 [.j e,ofL p] v (Ans s v z (Jbu k 2 (areZ [2] [A]))):=by
 refine Jl (aT Tryz.func182 rfl) rfl ?_;simp[kF,Hc]at hn;obtain⟨k1,k2,k3,k4,k5,k6,k7,k8,k9,y,J,K,M,N,O,P,Q⟩:=hn;obtain⟨n0,o⟩:=nxE v;have l:=h;obtain⟨lv,av,es,rfl,T,h2,h3,h4⟩:=h;have c1:=T.A;have c2:=T.B;have c3:=h4.A;have c4:=h4.B;have hw:=hT.1;simp only[CT,Tryz.f182,XY,simprocAttr];rw[Ja];simp[XY,o,c2,c4];generalize U:up 0 n0=p2;refine nm1 hw o U ?_;intro S0 u _ ⟨t2,w⟩;obtain⟨r,q,ab,X,a2,a3,a4,a5,a6⟩:=jt (T.I u) h2 (fun i a b=>(h3 i a b).A u.H) (i:=0) (by simp);have X:Js 4 lv (.d .i64 0)=some (.g r q, .a):=X;have w0:=u.D;obtain⟨n1,m⟩:=nxE S0;have o2:=fun c=>nes (Jt w0 m (Jb w) c);rw[Ja];simp[XY,w,X,a4];simp[XZ,w,m,k1,k2,k3,k4,k5,k6,k7,k8,k9,y,J,K,M,N,O,P,Q];generalize Y:up 0 n1=x0;refine nm1c w0 m Y ?_;intro S1 Z _ ⟨t3,r3⟩;have t:=u.A Z;have aa:=Z.B w;refine Ji (areI (Jq Z.D _) ((l.B t).A _) ((izs1 r3).L _) (by simp) (by simp)) ?_;rintro _ S2 x rfl;have n:=t.A x;have ad:=x.B aa;simp[XZ];refine KB (W:=s) x.D ((JhE _ _ (Qz (hT.A n) (Jq x.D _)) ((l.B n).A _)).A fun f S h=>⟨h.1,h.2⟩) ?_;rintro _ S3 lo C3 ⟨W3,T3,K3,rfl⟩;simp[XZ];exact Ans.D n ⟨C3,W3,Qz T3 C3.D,K3,rfl⟩
theorem JsS {u:Tb}{A:Nd}{args:List Nat}{k:Int}{f:Bool}(U:(p=[108,101,110]/\k=2/\f=(decide (A.a=3)||decide (A.a=4)||decide (A.a=5)))\/(p=[116,101,120,116]/\k=3/\f=(decide (A.a=2)||decide (A.a=1))))(O:TabU v s z u)(h:AskC (fun r=>¬s r) v z e [A] args):
  Dz 182 [.j e,ofL p] v (Ans s v z (Jbu u k f)):=by
 refine Jl (aT Tryz.func182 rfl) rfl ?_;obtain⟨X,l⟩:=nxE v;have m:=h;obtain⟨P,Y,es,rfl,w,Z,h3,Q⟩:=h;have c1:=w.A;have c2:=w.B;have c3:=Q.A;have c4:=Q.B;have hw:=O.1;simp only[CT,Tryz.f182,XY,simprocAttr];rw[Ja];simp[XY,l,c2,c4];generalize x:up 0 X=p2;refine nm1 hw l x ?_;intro S0 n _ ⟨t2,o⟩;obtain⟨r,q,aa,y,a2,a3,T,a5,a6⟩:=jt (w.I n) Z (fun i a b=>(h3 i a b).A n.H) (i:=0) (by simp);have y:Js 4 P (.d .i64 0)=some (.g r q, .a):=y;simp at T;rw[Ja];simp[XY,o,y,T];have t:∀(k:Int) (f:Bool),Dz 200 [.j [.g z 0,P,Y], .d .i64 k, .h f] S0 (Ans s v z (Jbu u k f)):=fun k f=>(JhE k f (O.A n) (m.B n)).A fun c S h=>Ans.D n h;rcases U with⟨rfl,rfl,ho⟩|⟨rfl,rfl,ho⟩
 ·rcases(by omega:A.a=3\/A.a=4\/A.a=5\/(A.a≠3/\A.a≠4/\A.a≠5))with q|q|q|⟨q,J,q5⟩
  all_goals
   first
    |rw[show f=true by grind]
    |rw[show f=false by grind]
   first
    |simp[XZ,o,q,J,q5]
    |simp[XZ,o,q]
   refine Je (t _ _) ?_;rintro _ S3 ⟨K,L,M,N,rfl⟩;simp[XZ];exact⟨K,L,M,N,rfl⟩
 ·rcases(by omega:A.a=2\/A.a=1\/(A.a≠2/\A.a≠1))with q|q|⟨q,J⟩
  all_goals
   first
    |rw[show f=true by grind]
    |rw[show f=false by grind]
   first
    |simp[XZ,o,q,XV,Gl,ZV,J]
    |simp[XZ,o,q,XV,Gl,ZV]
   refine Je (t _ _) ?_;rintro _ S3 ⟨K,L,M,N,rfl⟩;simp[XZ];exact⟨K,L,M,N,rfl⟩
theorem eqB8 {A B:Nd}{args:List Nat}(N:TabU v s z k)(h:AskC (fun r=>¬s r) v z e [A,B] args):
  Dz 182 [.j e,ofL [101,113]] v (Ans s v z (Jbu k 1 (decide (1<=A.a/\A.a<=3)&&decide (B.a=A.a)))):=by
 refine Jl (aT Tryz.func182 rfl) rfl ?_;obtain⟨n0,w⟩:=nxE v;have l:=h;obtain⟨lv,av,es,rfl,Q,h2,h3,h4⟩:=h;have c1:=Q.A;have c2:=Q.B;have c3:=h4.A;have c4:=h4.B;have hw:=N.1;simp only[CT,Tryz.f182,XY,simprocAttr];rw[Ja];simp only[XY,simprocAttr,w,c2,c4];generalize T:up 0 n0=p2;refine nm1 hw w T ?_;intro S0 m _ ⟨t2,u⟩;obtain⟨r,q,aa,U,a2,a3,a4,a5,a6⟩:=jt (Q.I m) h2 (fun i a b=>(h3 i a b).A m.H) (i:=0) (by simp);have U:Js 4 lv (.d .i64 0)=some (.g r q, .a):=U;simp at a4;have w0:=m.D;obtain⟨n1,p⟩:=nxE S0;have o2:=fun c=>nes (Jt w0 p (Jb u) c);rw[Ja];simp only[XY,simprocAttr,u,U,a4];generalize hk:A.a=c at*;by_cases x:1<=c
 ·by_cases O:c<=3
  ·rw[Xp (show 1<=c/\c<=3 from⟨x,O⟩),HA];have n:c≥1:=x;simp[XZ,u,n,O,p,XV,GD];generalize X:up 0 n1=x0;refine nm1c w0 p X ?_;intro S1 Y _ ⟨t3,r3⟩;have y:=m.A Y;have Z:=Y.B u;refine Ji (areI (Jq Y.D _) ((l.B y).A _) ((izs2 r3).L _) (by simp) (by simp)) ?_;rintro _ S2 P rfl;have t:=y.A P;have ab:=P.B Z;have he:areZ [c,c] [A,B]=decide (B.a=c):=by
    show(decide (A.a=c)&&(decide (B.a=c)&&true))=_
    grind
   rw[he];simp[XZ];refine KB (W:=s) P.D ((JhE _ _ (Qz (N.A t) (Jq P.D _)) ((l.B t).A _)).A fun f S h=>⟨h.1,h.2⟩) ?_;rintro _ S3 lo o ⟨J,K,M,rfl⟩;simp[XZ];exact Ans.D t ⟨o,J,Qz K o.D,M,rfl⟩
  ·rw[Xv (show¬(1<=c/\c<=3)from fun h=>O h.2),GN];have n:c≥1:=x;simp[XZ,u,n,O,XV,GD];refine KB (W:=s) m.D ((JhE _ _ (Qz (N.A m) (Jq m.D _)) ((l.B m).A _)).A fun f S h=>⟨h.1,h.2⟩) ?_;rintro _ S3 lo o ⟨J,K,M,rfl⟩;simp[XZ];exact Ans.D m ⟨o,J,Qz K o.D,M,rfl⟩
 ·rw[Xv (show¬(1<=c/\c<=3)from fun h=>x h.1),GN];have n:¬c≥1:=x;simp[XZ,u,n,XV,GD];refine KB (W:=s) m.D ((JhE _ _ (Qz (N.A m) (Jq m.D _)) ((l.B m).A _)).A fun f S h=>⟨h.1,h.2⟩) ?_;rintro _ S3 lo o ⟨J,K,M,rfl⟩;simp[XZ];exact Ans.D m ⟨o,J,Qz K o.D,M,rfl⟩
theorem atB8 {A B:Nd}{args:List Nat}(M:TabU v s z k)(h:AskC (fun r=>¬s r) v z e [A,B] args):
  Dz 182 [.j e,ofL [97,116]] v (Ans s v z (k,(kg [A,B] (areZ [4,2] [A,B])).1,(kg [A,B] (areZ [4,2] [A,B])).2)):=by
 refine Jl (aT Tryz.func182 rfl) rfl ?_;obtain⟨P,m⟩:=nxE v;have f:=h;obtain⟨Q,av,es,rfl,u,S,T,N⟩:=h;have c1:=u.A;have U:=u.B;have c3:=N.A;have X:=N.B;have Y:=M.1;simp only[CT,Tryz.f182,XY,simprocAttr];rw[Ja];simp[XY,m,U,X];generalize w:up 0 P=p2;refine nm1 Y m w ?_;intro Z p _ ⟨t2,t⟩;obtain⟨r,q,aa,x,a2,a3,a4,a5,a6⟩:=jt (u.I p) S (fun i a b=>(T i a b).A p.H) (i:=0) (by simp);have x:Js 4 Q (.d .i64 0)=some (.g r q, .a):=x;have O:=p.D;obtain⟨n1,l⟩:=nxE Z;have o2:=fun c=>nes (Jt O l (Jb t) c);rw[Ja];simp[XY,t,x,a4];simp[XZ,t,l,XV,Gl,GD,ZV];generalize y:up 0 n1=x0;refine nm1c O l y ?_;intro S1 J _ ⟨t3,r3⟩;have n:=p.A J;refine Ji (areI (Jq J.D _) ((f.B n).A _) ((izs2 r3).L _) (by simp) (by simp)) ?_;rintro _ S2 K rfl;have o:=n.A K;have ab:=K.B (J.B t);simp[XZ];refine Ji (kidA _ (Jq K.D _) ((f.B o).A _) (by simp)) ?_;rintro _ S3 G3 rfl;simp[XZ];exact Ans.A M (o.A G3)
theorem JuA {A B:Nd}{args:List Nat}(o:TabU v s z k)(h:AskC (fun r=>¬s r) v z e [A,B] args)(i:areZ [5,3] [A,B]=false):
  Dz 203 [.j e] v (Ans s v z (k,0,17)):=by
 refine Jl (aT Tryz.func203 rfl) rfl ?_;obtain⟨J,d⟩:=nxE v;have b:=h;obtain⟨T,U,X,rfl,p,Y,Z,q⟩:=h;have c1:=p.A;have K:=p.B;have c3:=q.A;have M:=q.B;have N:=o.1;simp only[CT,Tryz.f203,XY,simprocAttr];rw[Ja];simp[XY,d,K,M];generalize l:up 0 J=p1;refine nm1 N d l ?_;intro O t _ ⟨t2,u⟩;have w:=t.D;obtain⟨P,c⟩:=nxE O;have o2:=fun a=>nes (Jt w c (Jb u) a);rw[Ja];simp[XY,u,c];generalize m:up 0 P=x0;refine nm1c w c m ?_;intro S1 x _ ⟨t3,Q⟩;have f:=t.A x;refine Ji (areI (Jq x.D _) ((b.B f).A _) ((izs2 Q).L _) (by simp) (by simp)) ?_;rintro _ S2 y rfl;have g:=f.A y;rw[i];simp[XY];refine Ji (kidA false (Jq y.D _) ((b.B g).A _) (by simp)) ?_;rintro _ S3 S rfl;have n:kg [A,B] false=(0,17):=rfl;rw[n];simp[XZ];exact Ans.A o (g.A S)
theorem JuB {A B:Nd}{args:List Nat}(t:TabU v s z k)(h:AskC (fun r=>¬s r) v z e [A,B] args)(m:areZ [5,3] [A,B]=false):
  Dz 182 [.j e,ofL [103,101,116]] v (Ans s v z (k,0,17)):=by
 refine Jl (aT Tryz.func182 rfl) rfl ?_;obtain⟨x,c⟩:=nxE v;have f:=h;obtain⟨y,X,Y,rfl,n,J,K,u⟩:=h;have Z:=n.A;have L:=n.B;have c3:=u.A;have M:=u.B;have N:=t.1;simp only[CT,Tryz.f182,XY,simprocAttr];rw[Ja];simp[XY,c,L,M];generalize o:up 0 x=p2;refine nm1 N c o ?_;intro S0 l _ ⟨t2,w⟩;obtain⟨r,q,O,p,a2,a3,P,a5,a6⟩:=jt (n.I l) J (fun i a b=>(K i a b).A l.H) (i:=0) (by simp);have p:Js 4 y (.d .i64 0)=some (.g r q, .a):=p;rw[Ja];simp[XY,w,p,P];simp[XZ,w,XV,Gl,GD];refine Je (JuA (t.A l) (f.B l) m) ?_;rintro _ S1 ⟨Q,S,T,U,rfl⟩;simp[XZ];exact Ans.D l ⟨Q,S,T,U,rfl⟩
theorem orB0 {A B:Nd}{args:List Nat}(M:TabU v s z k)(h:AskC (fun r=>¬s r) v z e [A,B] args)(hA:A.a≠6):
  Dz 182 [.j e,ofL [111,114,101,108,115,101]] v (Ans s v z (k,0,17)):=by
 refine Jl (aT Tryz.func182 rfl) rfl ?_;obtain⟨S,m⟩:=nxE v;have f:=h;obtain⟨T,av,es,rfl,u,U,X,N⟩:=h;have c1:=u.A;have Y:=u.B;have c3:=N.A;have Z:=N.B;have hw:=M.1;simp only[CT,Tryz.f182,XY,simprocAttr];rw[Ja];simp[XY,m,Y,Z];generalize w:up 0 S=p2;refine nm1 hw m w ?_;intro S0 t _ ⟨t2,x⟩;obtain⟨r,q,aa,y,a2,a3,a4,a5,a6⟩:=jt (u.I t) U (fun i a b=>(X i a b).A t.H) (i:=0) (by simp);have y:Js 4 T (.d .i64 0)=some (.g r q, .a):=y;have O:=t.D;obtain⟨n1,l⟩:=nxE S0;have o2:=fun c=>nes (Jt O l (Jb x) c);rw[Ja];simp[XY,x,y,a4];simp[XZ,x,l,XV,Gl,ZV];generalize J:up 0 n1=x0;refine nm1c O l J ?_;intro S1 P _ ⟨t3,r3⟩;have n:=t.A P;refine Ji (areI (Jq P.D _) ((f.B n).A _) ((izs1 r3).L _) (by simp) (by simp)) ?_;rintro _ S2 Q rfl;have o:=n.A Q;have p:areZ [6] [A,B]=false:=by
  show(decide (A.a=6)&&true)=false
  grind
 rw[p];simp[XZ];refine Ji (kidA false (Jq Q.D _) ((f.B o).A _) (by simp)) ?_;rintro _ S3 G3 rfl;have K:kg [A,B] false=(0,17):=rfl;rw[K];simp[XZ];exact Ans.A M (o.A G3)
theorem len1 (h:l.length=1):∃A,l=[A]:=by
 match l,h with
 |[A],_=>simp
theorem len2 (h:l.length=2):∃A B,l=[A,B]:=by
 match l,h with
 |[A,B],_=>simp
theorem KP {args:List Nat}(a:p≠[97,116])(b:p≠[103,101,116])(c:p≠[111,114,101,108,115,101]):Qt k p args l=Jbu k (resK p) (okS p l):=by
 unfold Qt Jbu
 grind
theorem Yd (h:kF p){A:Nd}:okS p [A]=areZ [2] [A]/\resK p=2:=by
 simp[kF,Hc]at h;obtain⟨m,g,i,j,k,l,n,o,q,e,f,b,c,r,s,d,t⟩:=h;refine⟨?_, ?_⟩
 ·simp[okS,m,g,i,j,k,l,n,o,q,e,f,b,c,d];show decide (A.a=2)=(decide (A.a=2)&&true);simp
 ·simp[resK,g,i,j,k,l,b,c,d]
theorem JtO {A B:Nd}(b:Bool):((k,(kg [A,B] b).1,(kg [A,B] b).2):Ans3)=match b,A.c[0]? with
  |true,some a=>(k,a,0)
  |_,_=>(k,0,17):=by
 unfold kg
 cases b with
 |false=>rfl
 | true=>cases h:A.c with
   |nil=>simp[h]
   |cons a r=>simp[h]
theorem JrS {t:Tb}{args:List Nat}(w:TabU v s z t)(X:OfF f t)(h:AskC (fun r=>¬s r) v z e l args)(S:l=args.map (Jm t))(ha:∀a∈args,a<t.a.length)(O:args.length=JaK p)(Y:isBi p=true):
  Dz 182 [.j e,ofL p] v (Ans s v z (Qt t p args l)):=by
 have M:l.length=JaK p:=by grind
 have J:∀A∈l,Jd3 A/\∀k∈A.c,k<t.a.length:=fun A N=>by
  rw[S]at N;obtain⟨a,h1,rfl⟩:=Xz.1 N;obtain⟨_,_,_,_,x,y⟩:=X.F (ha a h1)
  grind
 have o:JaK p=1->∃A,l=[A]:=fun m=>len1 (M.trans m);have g:JaK p=2->∃A B,l=[A,B]:=fun m=>len2 (M.trans m);have Z:p∈Jle:=by
  have:=JnD p;rw[show Ja3 p=isBi p from rfl,Y]at this
  grind
 clear M Y;simp[Jle]at Z;have n:∀{ks:List Int} {k:Int},Yh p ks k->p≠[97,116]->p≠[103,101,116]->p≠[111,114,101,108,115,101]->ks.length=l.length->resK p=k->okS p l=areZ ks l->Dz 182 [.j e,ofL p] v (Ans s v z (Qt t p args l)):=fun d n1 n2 n3 O i ho=>by
  rw[KP n1 n2 n3,i,ho];exact JtN d O w h
 rcases Z with rfl|rfl|rfl|rfl|rfl|rfl|rfl|rfl|rfl|rfl|rfl|rfl|rfl|rfl|rfl|rfl|rfl|rfl|rfl|rfl|rfl|rfl|rfl
 ·obtain⟨A,rfl⟩:=o (by decide);rw[KP (by decide) (by decide) (by decide)];exact JsS (.inl ⟨rfl,rfl,rfl⟩) w h
 ·obtain⟨A,rfl⟩:=o (by decide);exact n (ks:=[1]) (k:=1) (by simp[Yh]) (by decide) (by decide) (by decide) rfl (by decide) (by simp[okS,areZ,JR])
 ·obtain⟨A,B,rfl⟩:=g (by decide);exact n (ks:=[1,1]) (k:=1) (by simp[Yh]) (by decide) (by decide) (by decide) rfl (by decide) (by simp[okS,areZ,JR])
 ·obtain⟨A,B,rfl⟩:=g (by decide);exact n (ks:=[1,1]) (k:=1) (by simp[Yh]) (by decide) (by decide) (by decide) rfl (by decide) (by simp[okS,areZ,JR])
 ·obtain⟨A,B,rfl⟩:=g (by decide);rw[KP (by decide) (by decide) (by decide)];have K:okS [101,113] [A,B]=(decide (1<=A.a/\A.a<=3)&&decide (B.a=A.a)):=by
   simp[okS,JR];by_cases P:A.a=1
   ·simp[P]
   ·by_cases a2:A.a=2
    ·simp[a2]
    ·by_cases a3:A.a=3
     ·simp[a3]
     grind
  rw[K];exact eqB8 w h
 ·obtain⟨A,B,rfl⟩:=g (by decide);exact n (ks:=[2,2]) (k:=1) (by simp[Yh]) (by decide) (by decide) (by decide) rfl (by decide) (by simp[okS,areZ,JR])
 ·obtain⟨A,B,rfl⟩:=g (by decide);exact n (ks:=[2,2]) (k:=2) (by simp[Yh]) (by decide) (by decide) (by decide) rfl (by decide) (by simp[okS,areZ,JR])
 ·obtain⟨A,B,rfl⟩:=g (by decide);exact n (ks:=[2,2]) (k:=2) (by simp[Yh]) (by decide) (by decide) (by decide) rfl (by decide) (by simp[okS,areZ,JR])
 ·obtain⟨A,B,rfl⟩:=g (by decide);exact n (ks:=[2,2]) (k:=2) (by simp[Yh]) (by decide) (by decide) (by decide) rfl (by decide) (by simp[okS,areZ,JR])
 ·obtain⟨A,B,rfl⟩:=g (by decide);exact n (ks:=[2,2]) (k:=2) (by simp[Yh]) (by decide) (by decide) (by decide) rfl (by decide) (by simp[okS,areZ,JR])
 ·obtain⟨A,B,rfl⟩:=g (by decide);exact n (ks:=[2,2]) (k:=2) (by simp[Yh]) (by decide) (by decide) (by decide) rfl (by decide) (by simp[okS,areZ,JR])
 ·obtain⟨A,rfl⟩:=o (by decide);have i:kF [105,56]:=by unfold kF;decide
  rw[KP (by decide) (by decide) (by decide),(Yd i).1,(Yd (A:=A) i).2];exact JhG i w h
 ·obtain⟨A,rfl⟩:=o (by decide);have i:kF [105,49,54]:=by unfold kF;decide
  rw[KP (by decide) (by decide) (by decide),(Yd i).1,(Yd (A:=A) i).2];exact JhG i w h
 ·obtain⟨A,rfl⟩:=o (by decide);have i:kF [105,51,50]:=by unfold kF;decide
  rw[KP (by decide) (by decide) (by decide),(Yd i).1,(Yd (A:=A) i).2];exact JhG i w h
 ·obtain⟨A,rfl⟩:=o (by decide);have i:kF [117,56]:=by unfold kF;decide
  rw[KP (by decide) (by decide) (by decide),(Yd i).1,(Yd (A:=A) i).2];exact JhG i w h
 ·obtain⟨A,rfl⟩:=o (by decide);have i:kF [117,49,54]:=by unfold kF;decide
  rw[KP (by decide) (by decide) (by decide),(Yd i).1,(Yd (A:=A) i).2];exact JhG i w h
 ·obtain⟨A,rfl⟩:=o (by decide);have i:kF [117,51,50]:=by unfold kF;decide
  rw[KP (by decide) (by decide) (by decide),(Yd i).1,(Yd (A:=A) i).2];exact JhG i w h
 ·obtain⟨A,B,rfl⟩:=g (by decide);exact n (ks:=[3,3]) (k:=3) (by simp[Yh]) (by decide) (by decide) (by decide) rfl (by decide) (by simp[okS,areZ,JR])
 ·obtain⟨A,rfl⟩:=o (by decide);rw[KP (by decide) (by decide) (by decide)];exact JsS (.inr ⟨rfl,rfl,rfl⟩) w h
 ·obtain⟨A,B,rfl⟩:=g (by decide);have K:Qt t [97,116] args [A,B]=(t,(kg [A,B] (areZ [4,2] [A,B])).1,(kg [A,B] (areZ [4,2] [A,B])).2):=by
   rw[JtO];unfold Qt;rw[Xe rfl];have:areZ [4,2] [A,B]=(JR [A,B] 0 4&&JR [A,B] 1 2):=by
    show(decide (A.a=4)&&(decide (B.a=2)&&true))=_;rw[Gz];rfl
   rw[this];rfl
  rw[K];exact atB8 w h
 ·obtain⟨A,B,rfl⟩:=g (by decide);have N:=J A (Xu ..);by_cases q:A.a=5/\B.a=3
  ·have Q:=N.1.a;rw[q.1]at Q;obtain⟨u,L⟩:∃k,A.c=[k]:=by
    match hx:A.c,Q with
    |[k],_=>simp
   have T:=N.2 u (by grind);obtain⟨o1,o2,_⟩:=X.F T;have K:Qt t [103,101,116] args [A,B]=getR t u (Ks t (t.a.length+1) u).1:=by
    unfold Qt getR;rw[Xa (by decide),Xe rfl];have:kid0 [A,B]=some u:=by show A.c[0]? =_;grind
    rw[this];have:(JR [A,B] 0 5&&JR [A,B] 1 3)=true:=by
     show(decide (A.a=5)&&decide (B.a=3))=true
     grind
    grind
   rw[K];exact getB w h q.1 q.2 L o1 o2
  ·have U:areZ [5,3] [A,B]=false:=by
    show(decide (A.a=5)&&(decide (B.a=3)&&true))=false
    grind
   have K:Qt t [103,101,116] args [A,B]=(t,0,17):=by
    unfold Qt;rw[Xa (by decide),Xe rfl];have:(JR [A,B] 0 5&&JR [A,B] 1 3)=false:=by
     show(decide (A.a=5)&&decide (B.a=3))=false
     grind
    rw[this]
   rw[K];exact JuB w h U
 ·obtain⟨A,rfl⟩:=o (by decide);exact n (ks:=[6]) (k:=1) (by simp[Yh]) (by decide) (by decide) (by decide) rfl (by decide) (by simp[okS,areZ,JR])
 ·obtain⟨A,B,rfl⟩:=g (by decide);have N:=J A (Xu ..);obtain⟨a0,P,rfl⟩:∃a b,args=[a,b]:=by
   have O:args.length=2:=O
   match args,O with
   |[a,b],_=>simp
  by_cases q:A.a=6
  ·have Q:=N.1.a;rw[q]at Q;obtain⟨u,L⟩:∃k,A.c=[k]:=by
    match hx:A.c,Q with
    |[k],_=>simp
   have K:Qt t [111,114,101,108,115,101] [a0,P] [A,B]=if P=u then(t,u,0)else(t,0,17):=by
    unfold Qt;rw[Xa (by decide),Xa (by decide),Xe rfl];have:kid0 [A,B]=some u:=by show A.c[0]? =_;grind
    rw[this];have:JR [A,B] 0 6=true:=Xp q
    grind
   rw[K];exact orB w h q L
  ·have K:Qt t [111,114,101,108,115,101] [a0,P] [A,B]=(t,0,17):=by
    unfold Qt;rw[Xa (by decide),Xa (by decide),Xe rfl];have:JR [A,B] 0 6=false:=Xv q;rw[this]
   rw[K];exact orB0 w h q
theorem JlA (b:OfF f k){args:List Nat}(c:∀a∈args,a<k.a.length):Jb0 k args (args.map (Jm k)):=by
 refine⟨by simp,fun i h d=> ?_⟩;obtain⟨e,g,j,_⟩:=b.F (c _ (Xh h))
 grind
theorem ofKC {nm:Str}{args:List Nat}{sg:Tb->List Nat->List Nat->Nat×Int}(j:TabU v s z k)(t:OfF f k)(M:f.c=[])(n:SlAt (fun r=>¬s r) v i 1 (ints args))(K:∀a∈args,a<k.a.length):
  Dz 155 [.g z 0,ofL nm,i] v (Ans s v z (ofK sg k nm args)):=by
 have u:sigI k nm=none:=t.l.b nm (by grind);by_cases q:isBi nm=true
 ·by_cases w:args.length=JaK nm
  ·have o:ofK sg k nm args=Qt k nm args (args.map (Jm k)):=by
    unfold ofK
    grind
   rw[o];refine ofB j u q (fun S=> ?_) ?_ n (JlA t K) fun S e G h=>JrS (j.A G) t h rfl K w q
   ·have:=JsR nm S;rw[<-w]at this;exact this
   ·rw[w];unfold JaK;grind
  ·have o:ofK sg k nm args=(k,0,18):=by
    unfold ofK
    grind
   rw[o];refine Jl (aT Tryz.func155 rfl) rfl ?_;have p:=n.G;rw[JP]at p;have m:J8 .e=some (.d .i64 0, .a):=rfl;have x:¬((args.length:Nat):Int)=(JaK nm:Nat):=by omega
   simp only[CT,Tryz.f155,XY,simprocAttr];rw[Ja];simp[XY];rw[Ja];simp[XY];refine Je (Jqt nm j u) ?_;rintro _ _ ⟨rfl,rfl⟩;simp[XY];rw[Ja];simp[XY,m];rw[Jd];simp[XY];rw[Ja];simp[XY];refine Je (JcW nm v j.1) ?_;rintro _ L ⟨y,rfl⟩;rw[show(Ko nm&&Lib.contains Yx (32::(nm++[32])))=true from q];simp[XY];refine Je (JsR nm L) ?_;rintro _ _ ⟨rfl,rfl⟩;simp[XZ,p,x];exact Ans.A j y
 ·have J:(Ko nm&&Lib.contains Yx (32::(nm++[32])))=false:=by simpa[isBi]using q
  have o:ofK sg k nm args=(k,0,15):=by
   unfold ofK
   grind
  rw[o];refine Jl (aT Tryz.func155 rfl) rfl ?_;have m:J8 .e=some (.d .i64 0, .a):=rfl;simp only[CT,Tryz.f155,XY,simprocAttr];rw[Ja];simp[XY];rw[Ja];simp[XY];refine Je (Jqt nm j u) ?_;rintro _ _ ⟨rfl,rfl⟩;simp[XY];rw[Ja];simp[XY,m];rw[Jd];simp[XY];rw[Ja];simp[XY];refine Je (JcW nm v j.1) ?_;rintro _ L ⟨y,rfl⟩;rw[J];simp[XZ];exact Ans.A j y
theorem _root_.Eva.RunA.B {d:St}{x:Tb×Nat×Int}(h:RunA s v y P z k)(b:Ans P y z x i d):Ans s v z x i d:=by
 obtain⟨c,f,t,g,e⟩:=b;have:=h.A ⟨c,t,g⟩;exact⟨this.ch,f,this.tab,this.a,e⟩
theorem Ans.B {x:Tb×Nat×Int}(k:Ans s v z x i y):∃a,RunA s v y a z x.1/\i= .p [.d .i64 (x.2.1:Nat), .d .i64 x.2.2]:=by
 obtain⟨c,a,t,b,e⟩:=k;exact⟨a,⟨c,t,b⟩,e⟩
def fitO :Nat->Opn->Prop
 |0,_=>True
 |d+1, .mk _ _ path _ _ _ p=>path.length<100000/\p.length<100000/\∀c∈p,c.length<100000/\∀o∈c,fitO d o
def Jqu (s:Sch)(f:EnvS->Tb->Opn->Ans3)(d:Nat):Prop:=∀(S:St) (U:Pt->Prop) (rt:Pt) (tb:Tb) (e:List V) (E:EnvS) (ov:List V) (o:Opn),TabU S U rt tb->OfF s tb->EnvC (fun r=>¬U r) S e E->EnvK tb E->OprC (fun r=>¬U r) S d ov o->fitO d o->
 Dz 130 [.j e, .g rt 0, .j ov] S (Ans U S rt (f E tb o))
def iz0 (l:List Nat):List V:=l.map fun n:Nat=>V.d .i64 (n:Int)
theorem Jac (l:List Nat):(iz0 l).length=l.length:=by simp[iz0]
theorem JcX (l:List Nat):(ints l).flatten=iz0 l:=by
 induction l with
 |nil=>rfl
 |cons a r b=>show[V.d .i64 (a:Int)]++(ints r).flatten=_;rw[b];rfl
theorem JkC (l:List Nat):okC (ints l):=Jej l
theorem JnN (e c:List Nat):Jw (Jw (List.replicate (e.length+c.length) (V.d .i64 0)) 0 (ints e).flatten) e.length (ints c).flatten=iz0 (e++c):=by
 have f:∀(a b:List V),Jw (Jw (List.replicate (a.length+b.length) (V.d .i64 0)) 0 a) a.length b=a++b:=fun a b=>by simp[JK]
 have:=f (iz0 e) (iz0 c);rw[Jac,Jac]at this;rw[JcX,JcX,this];simp[iz0]
theorem LstAt.J {α:Type}{C:List V->α->Prop}{st:St}{v:V}{z:Nat}{x:α}{l:List α}(h:LstAt C P st v z (x::l)):∃b,(∀e:St,QG e z v (some (.d .i64 1)) none none=some (b, .a))/\LstAt C P st b z l:=by
 obtain⟨es,f,g,m⟩:=h;obtain⟨b,c,j,_⟩:=JbM f (k:=1) (by grind);have c:QG st z v (some (.d .i64 1)) none none=some (b, .a):=c;refine⟨b,fun _=>c,es.drop 1,j,by simp[g],fun i h n=> ?_⟩
 grind
theorem JnO {f:Tb->Opn->Ans3}{a:Tb}{r l:List Opn}(h:QJ f k l=(match QJ f a (c::r)with
  |(t,x,e)=>(t,n++x,e))):QJ f k l=if(f a c).2.2≠0 then((f a c).1,n,(f a c).2.2)else(match QJ f (f a c).1 r with
  |(t,x,e)=>(t,(n++[(f a c).2.1])++x,e)):=by
 rw[h,QJ]
 grind
theorem JtP {g j l m q r:V}(h:OprC s v b [i,g,j,l,m,q,r] c):(i.B=true/\i.A=some [i])/\(g.B=true/\g.A=some [g])/\(j.B=true/\j.A=some [j])/\(l.B=true/\l.A=some [l])/\(m.B=true/\m.A=some [m])/\(q.B=true/\q.A=some [q])/\(r.B=true/\r.A=some [r]):=by
 cases b with
 |zero=>exact h.elim
 | succ b=>
   obtain⟨k,w,t,a,n,f,p⟩:=c;obtain⟨O,Q,e,u,x⟩:=h;injection e with y e;injection e with z e;injection e with J e;injection e with K e;injection e with L e;injection e with M e;injection e with N _;subst y;subst z;subst J;subst K;subst L;subst M;subst N;exact⟨⟨rfl,rfl⟩,⟨rfl,rfl⟩,⟨u.B,u.A⟩,⟨rfl,rfl⟩,⟨rfl,rfl⟩,⟨rfl,rfl⟩,x.B⟩
theorem JuC (h:OprC s v b e c)(j:e.length=7):e[3]=ofL c.s:=by
 cases b with
 |zero=>exact h.elim
 | succ b=>
   obtain⟨k,i,g,a,n,f,p⟩:=c;obtain⟨l,m,rfl,q,r⟩:=h;rfl
theorem slA {c:Nat}(h:v.A z= .a b (iz0 n++List.replicate 1 i))(d:n.length=c):SlAt (fun _=>True) v (.m z 0 c 1 (c+1)) 1 (ints n):=by
 subst d;refine⟨fun e f=> ?_, .inr ⟨z,0,trivial, .inr ⟨n.length+1,by rw[JP];omega,by rw[JP]⟩,_, .inl ⟨b,h⟩, ?_, ?_⟩⟩
 ·exact Jcq _ e f
 ·rw[JP];simp[Jac]
 ·rw[JP,JcX,XP,ZM,ZX (by rw[Jac];omega),Xt (by rw[Jac];omega)]
theorem JuD (bt:Jqu f g b)(hf:∀E,Jhq f E (g E) fun _=>True){sg:Tb->List Nat->List Nat->Nat×Int}(bu:f.c=[]){tb:Tb}{E:EnvS}{lv:V}{o:Opn}{r:List Opn}{M:List Nat}(hT:TabU v s z tb)(hO:OfF f tb)(hE:EnvC (fun r=>¬s r) v e E)(hK:EnvK tb E)
  (hv:LstAt (OprC (fun r=>¬s r) v b) (fun r=>¬s r) v i 7 (o::r)) (au:∀o∈r,fitO b o) (hn:r.length<100000) (hl:SlAt (fun r=>¬s r) v lv 1 (ints M)) (cs:M.length<=1) (ct:∀a∈M,a<tb.a.length):
  Dz 129 [.j e, .g z 0, .j [i],lv] v (Ans s v z (Jj7 sg (g E) tb o.s M r)):=by
 refine Jl (aT Tryz.func129 rfl) rfl ?_;unfold Jj7;have hw:=hT.1;have bv:=hE;obtain⟨vv,nv,rfl,h1,h2⟩:=hE;have c1:=h1.A;have c2:=h1.B;have c3:=h2.B.2;have c4:=h2.B.1;have d1:=hv.B.2;have d2:=hv.B.1;have av:=hv.H;have bw:(o::r).length=r.length+1:=rfl;rw[bw]at av;have aw:=hl.G;rw[JP]at aw;obtain⟨n0,ax⟩:=nxE v;simp only[CT,Tryz.f129,XY,simprocAttr];rw[Ja];simp[XY,ax,c2,c4,d2];generalize bx:up 0 n0=p4;generalize bz:up 1 n0=p6;refine nm2 hw ax bx bz ?_;intro S1 G1 b0 b1 _ ⟨t4,r4⟩ ⟨t6,r6⟩;have ay:IntKind.i64.wrap (((r.length+1:Nat):Int)-1)=(r.length:Int):=by rw[JX (by omega) (by omega)];omega
 obtain⟨n1,az⟩:=nxE S1;have b2:=JpU (st:=S1) (n:=r.length) (c:=r.length+1) (by omega) (by omega);rw[Ja];simp only[XY,simprocAttr,r6,av,ay,b2,az];generalize b3:up 0 n1=X;refine nm1 G1.D az b3 ?_;intro S2 G2 a0 ⟨tA,rA⟩;have b4:=G1.A G2;have a8:v.A X= .none:=G1.I a0;have b5:=G2.B r4;have a9:=G2.B r6;have b6:p4≠X:=fun e=>Jb r4 (by grind);have b7:p6≠X:=fun e=>Jb r6 (by grind);have w2:=G2.D;have u4:¬s p4:=hT.G b0;have u6:¬s p6:=hT.G b1;have uA:¬s X:=hT.G a8;obtain⟨ba,bb,bc⟩:=LstAt.J hv;have b8:=bc.H;refine Ju (fun Y S'=>Y 1= .g z 0/\Y 3=lv/\Y 6= .g p6 0/\Y 10= .m X 0 r.length 1 (r.length+1)/\∃(W:Pt->Prop) (Q:Tb) (O:List Nat) (t:Nat),RunA s v S' W z Q/\OfF f Q/\tb.a.length<=Q.a.length/\S'.A p6= .a t6 [i]/\S'.A X= .a t (iz0 O++List.replicate 1 (.d .i64 0))/\O.length=r.length/\(∀a∈O,a<Q.a.length)/\¬W X/\QJ (g E) tb r=(Q,O,0)) (fun J hJ=> ?_) ?_
 ·rw[Ja];simp[XY,a9,bb,b8];refine Jo (fun j Y S'=>Y 1= .g z 0/\Y 3=lv/\Y 4= .g p4 0/\Y 6= .g p6 0/\Y 10= .m X 0 r.length 1 (r.length+1)/\Y 26=ba/\Y 27= .d .i64 (r.length:Nat)/\∃(w:Nat) (W:Pt->Prop) (Q:Tb) (O:List Nat) (t:Nat),j+w=r.length/\Y 28= .d .i64 (w:Nat)/\RunA s v S' W z Q/\OfF f Q/\tb.a.length<=Q.a.length/\S'.A p4= .a t4 [.d .i64 (E.c:Nat),vv,nv]/\S'.A p6= .a t6 [i]/\S'.A X= .a t (iz0 O++List.replicate (r.length+1-w) (.d .i64 0))/\O.length=w/\(∀a∈O,a<Q.a.length)/\(¬W p4/\¬W p6/\¬W X)/\QJ (g E) tb r=(match QJ (g E) Q (r.drop w)with
   |(t,x,e)=>(t,O++x,e))) r.length (by omega) ⟨rfl,rfl,rfl,rfl,rfl,rfl,rfl,0,s,tb,[],tA,by omega,by rfl,(RunA.I hT).K b4,hO,Xb _,b5,a9,by rw[rA];rfl,rfl,fun a c=>by(cases c),⟨u4,u6,uA⟩,by rfl⟩ ?_
  rintro L hL j Y S3 ⟨f1,f3,f4,f6,aa,bd,am,w,W,Q,O,t,hj,ag,R,ad,ae,s4,s6,sA,T,ao,⟨v4,v6,vA⟩,N⟩;by_cases hi:w<r.length;rotate_left
  ·rw[XB (by omega)]at N;have N:QJ (g E) tb r=(Q,O,0):=by rw[N];simp[QJ]
   have:r.length+1-w=1:=by omega
   rw[this]at sA;simp[XZ,am,ag,hi];exact hJ _ _ ⟨f1,f3,f6,aa,W,Q,O,t,R,ad,ae,s6,sA,by omega,ao,vA,N⟩
  have ap:=wiN (i:=w) (by omega);rw[Xc hi]at N;have N:=JnO N;have kp:=R.G;have b9:EnvC (fun r=>¬W r) S3 [.d .i64 (E.c:Nat),vv,nv] E:=bv.A fun r a y=>⟨(kp r y a).2,(kp r y a).1⟩
  have be:LstAt (OprC (fun r=>¬W r) S3 b) (fun r=>¬W r) S3 ba 7 r:=bc.G (fun _ _ h=>OprC.A (fun r a y=>⟨(kp r y a).2,(kp r y a).1⟩) h) fun r a y=>⟨(kp r y a).2,(kp r y a).1⟩
  obtain⟨q,oo,en,a1,a2,a3,a4,a5,a6,_⟩:=be.A hi;have bf:=au _ (Xh hi);generalize hx:r[w]=x at a5 N bf;obtain⟨y0,y1,y2,y3,y4,y5,y6,rfl⟩:∃y0 y1 y2 y3 y4 y5 y6,en=[y0,y1,y2,y3,y4,y5,y6]:=by
   match en,a6 with
   |[y0,y1,y2,y3,y4,y5,y6],_=>simp
  obtain⟨m1,m2,m3,m4,m5,m6,m7⟩:=JtP a5;obtain⟨n3,af⟩:=nxE S3;have w3:=R.tab.1;rw[Ja];simp[XY,am,ag,hi];rw[Jd];simp[XY];rw[Jd];simp[XY];rw[Ja];simp[XY,bd,ag,a1,a4,af,m1,m2,m3,m4,m5,m6,m7];generalize bg:up 0 n3=cu;refine nmA w3 af bg ?_;intro S4 G4 cr ⟨cv,ca⟩;have R4:=R.K G4;have bh:=G4.B s4;have cb:=G4.B s6;have aq:=G4.B sA;rw[Ja];simp[XY,f1,f4,bh,ca];refine Je (bt S4 W z Q _ E _ x R4.tab ad (b9.A G4.H) (hK.A ae) (OprC.A G4.H a5) bf) ?_;intro vo S5 hA;obtain⟨U5,R5,rfl⟩:=hA.B;have ab:=hf E Q x trivial ad (hK.A ae);generalize g E Q x=fx at ab N R5;obtain⟨cc,id,er⟩:=fx;simp only at ab N R5⊢;have ah:=R4.A R5;have Z:∀{p:Pt} {t:Nat} {l:List V},S4.A p= .a t l->¬W p->S5.A p= .a t l/\¬U5 p:=fun{p t l} h n=>⟨by rw[(R5.G p (Jb h) n).1];exact h,(R5.G p (Jb h) n).2⟩
  obtain⟨cd,ce⟩:=Z bh v4;obtain⟨cf,cg⟩:=Z cb v6;obtain⟨ai,bi⟩:=Z aq vA;simp[XY];by_cases he:er=0;rotate_left
  ·rw[Xe he]at N;rw[Jd,Ja];simp[XY,he];rw[Ja];simp[XZ];rw[N];simp[he];exact⟨ah.ch,U5,ah.tab,ah.a,rfl⟩
  subst he;rw[Xa (fun k=>k rfl)]at N;have bj:r.length+1-w=(r.length-w)+1:=by omega
  rw[bj]at ai;have ia:Js 1 (.m X 0 r.length 1 (r.length+1)) (.d .i64 (w:Nat))=some (.g X w, .a):=by
   simp[Js,QK,hi]
  have bk:w+1<=(iz0 O++List.replicate ((r.length-w)+1) (V.d .i64 0)).length:=by simp[Jac,T]
  have cj:Jw (iz0 O++List.replicate ((r.length-w)+1) (V.d .i64 0)) w [V.d .i64 (id:Nat)]=iz0 (O++[id])++List.replicate (r.length-w) (.d .i64 0):=by
   have:=Jkc (iz0 O) (r.length-w) (.d .i64 0) (.d .i64 (id:Nat));rw[Jac,T]at this;rw[this];simp[iz0]
  rw[Jd,Ja];simp[XM];simp only[XM,simprocAttr,aa,ag,ia,ai,bk,cj,ap];have c6:Ch (fun r=>r=X) S5 (S5.D X t fun u=> .a u (iz0 (O++[id])++List.replicate (r.length-w) (V.d .i64 0))):=(Ch.G (fun r=>r=X) R5.tab.1).J (Jb ai) (by rw[ai];rfl) (.inl rfl) (Jc _);have ar:r.length+1-(w+1)=r.length-w:=by omega
  refine⟨r.length-(w+1),by omega,hL _ _ _ ⟨f1,f3,f4,f6,aa,bd,am,w+1,U5,cc,O++[id],_,by omega,rfl,ah.J a8 bi c6,ab.b,Zb ae ab.f,by rw[Jj _ _ _ b6];exact cd,by rw[Jj _ _ _ b7];exact cf,by rw[Jh,ar],by grind,fun a ha=> ?_,⟨ce,cg,bi⟩,N⟩⟩;rcases Xs.1 ha with ha|ha
  ·exact Zs (ao a ha) ab.f
  ·rw[Xj.1 ha];exact ab.g rfl
 rintro Y S3 ⟨f1,f3,f6,aa,W,Q,O,t,R,ad,ae,s6,sA,T,ao,vA,N⟩;rw[N];simp;have w3:=R.tab.1;obtain⟨n3,af⟩:=nxE S3;have lA:J8 (.m X 0 r.length 1 (r.length+1))=some (.d .i64 (r.length:Nat), .a):=rfl;have bl:IntKind.i64.wrap ((r.length:Int)+(M.length:Int))=((r.length+M.length:Nat):Int):=by rw[JX (by omega) (by omega)];omega
 have bm:=JpU (st:=S3) (n:=r.length+M.length) (c:=r.length+M.length) (Xb _) (by omega);rw[Ja];simp only[XY,simprocAttr,f3,aa,lA,aw,bl,bm,af];generalize ck:up 0 n3=pB;refine nm1 w3 af ck ?_;intro S4 G4 ak ⟨tB,rB⟩;have R4:=R.K G4;have aq:=G4.B sA;have vB:¬W pB:=R.tab.G ak;have bn:v.A pB= .none:=R.ch.B ak;have cw:X≠pB:=fun e=>Jb sA (by grind);have bo:p6≠pB:=fun e=>Jb s6 (by grind);rw[Ja];simp[XY,aa];refine Jeq G4.D (slA aq T) (fun _ _=>rfl) (JkC _) rB (by simp) (by rw[JP];omega) ?_;intro S5 cx C5 cl;rw[JP,T];have R5:=R4.J bn vB C5;have al:=cut9 (r:=pB) (k:=r.length) (n:=r.length+M.length) (by omega);have bp:r.length+M.length-r.length=M.length:=by omega
 rw[bp]at al;simp[XY,f3,al];have cm:=R5.G;have cn:SlAt (fun r=>¬W r) S5 lv 1 (ints M):=cm.J hl;refine Jeq C5.D cn (fun _ _=>rfl) (JkC _) cl ?_ (by rw[JP];omega) ?_
 ·rw[JK];grind
 intro S6 co C6 bq;rw[<-T,JnN]at bq;have R6:=R5.J bn vB C6;have aj:=R6.G;have w6:=C6.D;have cp:S6.A p6= .a t6 [i]:=by
  have e5:S5.A p6=S4.A p6:=C5.d p6 (Jb (G4.B s6)) bo;rw[C6.d p6 (by rw[e5];exact Jb (G4.B s6)) bo,e5];exact G4.B s6
 have cq:LstAt (OprC (fun r=>¬W r) S6 b) (fun r=>¬W r) S6 i 7 (o::r):=hv.G (fun _ _ h=>OprC.A (fun r a y=>⟨(aj r y a).2,(aj r y a).1⟩) h) fun r a y=>⟨(aj r y a).2,(aj r y a).1⟩
 obtain⟨q,oo,en,a1,a2,a3,a4,a5,a6,a7⟩:=cq.A (i:=0) (by simp);have a1:Js 7 i (.d .i64 0)=some (.g q oo, .a):=a1;have hs:ld1 (S6.A q) (oo+3)=some (ofL o.s, .a):=by
  have:=a7 3 (by omega);rw[this];congr 2;exact JuC a5 a6
 have br:SlAt (fun r=>¬W r) S6 (.m pB 0 (r.length+M.length) 1 (r.length+M.length)) 1 (ints (O++M)):=by
  have:=SlAt.J (P:=fun r=>¬W r) (es:=ints (O++M)) (z:=1) (st:=S6) (r:=pB) (t:=co) (by rw[bq,JcX]) vB (Jcq _);rw[JP,XW,T]at this;omega
 simp[XY];rw[Ja];simp[XY,f1,f6,cp,a1,hs];refine Je (ofKC (sg:=sg) (nm:=o.s) R6.tab ad bu br fun a ha=> ?_) ?_
 ·grind
 intro vo S7 hA;have hA:=R6.B hA;obtain⟨U7,R7,rfl⟩:=Ans.B hA;simp[XZ];exact hA
theorem _root_.Eva.EnvC.B {E:EnvS}(k:Kept v s y P)(h:EnvC (fun r=>¬s r) v e E):EnvC (fun r=>¬P r) y e E:=h.A fun r a b=>⟨(k r b a).2,(k r b a).1⟩
theorem _root_.Eva.PipC.B (k:Kept v s y P)(h:PipC (fun r=>¬s r) v b i w):PipC (fun r=>¬P r) y b i w:=PipC.A h fun r a c=>⟨(k r c a).2,(k r c a).1⟩
theorem JuE (h:OprC s v b e c)(j:e.length=7):e[0]= .d .i64 c.k:=by
 cases b with
 |zero=>exact h.elim
 | succ b=>
   obtain⟨k,i,g,a,n,f,p⟩:=c;obtain⟨l,m,rfl,q,r⟩:=h;rfl
def fitP (d:Nat)(p:Pipe):Prop:=p.length<100000/\∀c∈p,c.length<100000/\∀o∈c,fitO d o
theorem pipC (aw:Jqu f g b)(hf:∀E,Jhq f E (g E) fun _=>True){sg:Tb->List Nat->List Nat->Nat×Int}(ax:f.c=[]){E:EnvS}(hT:TabU v s z k)(hO:OfF f k)(hE:EnvC (fun r=>¬s r) v e E)(hK:EnvK k E)
  (hp:PipC (fun r=>¬s r) v b i w) (ay:fitP b w):
  Dz 87 [.g z 0, .j e,i] v (Ans s v z (pipS sg (g E) k [] w)):=by
 refine Jl (aT Tryz.func87 rfl) rfl ?_;have hw:=hT.1;have bd:=hE;obtain⟨vv,nv,rfl,h1,h2⟩:=hE;have c1:=h1.A;have c2:=h1.B;have c3:=h2.B.2;have c4:=h2.B.1;have lp:=LstAt.H hp;obtain⟨bn,be⟩:=ay;obtain⟨n0,az⟩:=nxE v;simp only[CT,Tryz.f87,XY,simprocAttr];rw[Ja];simp[XY,az,c2,c4];generalize bf:up 0 n0=p4;refine nm1 hw az bf ?_;intro S1 G1 bg ⟨t4,r4⟩;rw[Ja];simp[XY];refine Ju (fun fr S'=>∃(U':Pt->Prop) (X:Tb) (Q:List Nat) (lv:V),fr 8=lv/\RunA s v S' U' z X/\SlAt (fun r=>¬U' r) S' lv 1 (ints Q)/\pipS sg (g E) k [] w=pipS sg (g E) X Q []) (fun J hJ=> ?_) ?_;rotate_left
 ·rintro fr S' ⟨U',X,Q,lv,f8,R,hl,T⟩;rw[T];have ll:=hl.G;rw[JP]at ll
  cases Q with
  | nil=>
    have ll:J8 lv=some (.d .i64 0, .a):=ll;simp[XZ,f8,ll];exact⟨R.ch,U',R.tab,R.a,rfl⟩
  | cons x r=>
    have hz:¬((r.length+1:Nat):Int)=0:=by omega
    have ll:J8 lv=some (.d .i64 ((r.length+1:Nat):Int), .a):=ll;obtain⟨q,oo,a1,a2,a3,a4⟩:=SlAt.M (xs:=(x::r).map fun n:Nat=>V.d .i64 (n:Int)) (i:=0) hl (by simp);have a1:Js 1 lv (.d .i64 0)=some (.g q oo, .a):=a1;simp at a4;simp only[XZ,simprocAttr,f8,ll,hz,a1,a4];exact⟨R.ch,U',R.tab,R.a,rfl⟩
 rw[Ja];simp[XY,lp];refine Jo (fun j fr S'=>fr 0= .g z 0/\fr 4= .g p4 0/\fr 13=i/\fr 14= .d .i64 (w.length:Nat)/\∃(u:Nat) (U':Pt->Prop) (X:Tb) (Q:List Nat) (lv:V),j+u=w.length/\fr 15= .d .i64 (u:Nat)/\fr 8=lv/\RunA s v S' U' z X/\OfF f X/\k.a.length<=X.a.length/\S'.A p4= .a t4 [.d .i64 (E.c:Nat),vv,nv]/\¬U' p4/\SlAt (fun r=>¬U' r) S' lv 1 (ints Q)/\Q.length<=1/\(∀a∈Q,a<X.a.length)/\pipS sg (g E) k [] w=pipS sg (g E) X Q (w.drop u)) w.length (by omega) ⟨rfl,rfl,rfl,rfl,0,s,k,[], .e,by omega,by rfl,rfl,(RunA.I hT).K G1,hO,Xb _,r4,hT.G bg,SlAt.K _ _ _,XC _,fun a c=>by(cases c),rfl⟩ ?_;rintro L hL j fr S2 ⟨f0,f4,ad,ab,u,U',X,Q,lv,hj,aa,f8,R,ap,ak,s4,v4,hl,bh,a0,T⟩;by_cases hi:u<w.length;rotate_left
 ·rw[XB (by omega)]at T;simp[XZ,ab,aa,hi];exact hJ _ _ ⟨U',X,Q,lv,f8,R,hl,T⟩
 have aq:=wiN (i:=u) (by omega);rw[Xc hi,pipS]at T;have kp:=R.G;have bi:PipC (fun r=>¬U' r) S2 b i w:=PipC.B kp hp;obtain⟨q,oo,en,a1,a2,a3,a4,a5,a6,_⟩:=LstAt.A bi hi;obtain⟨g1,g2⟩:=be _ (Xh hi);generalize w[u]=c at a5 T g1 g2;obtain⟨ov,rfl,al⟩:=a5;have m1:=al.B.1;have m2:=al.B.2;have af:=al.H;obtain⟨n2,a7⟩:=nxE S2;have w2:=R.tab.1;rw[Ja];simp[XY,ab,aa,hi];rw[Jd];simp[XY];rw[Jd];simp[XY];rw[Ja];simp[XY,ad,aa,a1,a4,a7,m1];generalize a8:up 0 n2=bo;refine nmA w2 a7 a8 ?_;intro S3 G3 bm ⟨bp,ag⟩;have R3:=R.K G3;have ah:=G3.B s4;rw[Ja];simp[XY];rw[Ja];simp[XY];have ai:=Jkb (SgOK.A (sg:=sg) ax) (hf E) a0 ap (hK.A ak) c fun _ _=>trivial;generalize Y:cmdS sg (g E) X Q c=x at T ai;obtain⟨ar,id,er⟩:=x;simp only at T ai;refine Ju (fun fr S'=>fr 0= .g z 0/\fr 4= .g p4 0/\fr 13=i/\fr 14= .d .i64 (w.length:Nat)/\fr 15= .d .i64 (u:Nat)/\fr 12= .d .i64 er/\(er=0->fr 11= .d .i64 (id:Nat))/\∃(U2:Pt->Prop),RunA s v S' U2 z ar/\S'.A p4= .a t4 [.d .i64 (E.c:Nat),vv,nv]/\¬U2 p4) (fun J3 aj=> ?_) ?_;rotate_left
 ·rintro fr S4 ⟨f0,f4,ad,ab,aa,a9,au,U2,R4,bj,bk⟩;by_cases he:er=0;rotate_left
  ·rw[Xe he]at T;rw[T];simp[XZ,a9,he];exact⟨R4.ch,U2,R4.tab,R4.a,rfl⟩
  subst he;have au:=au rfl;rw[Xa (fun N=>N rfl)]at T;obtain⟨n4,av⟩:=nxE S4;have w4:=R4.tab.1;rw[Jd,Ja];simp[XY,a9];simp[XY,au,aa,av];rw[aq];have G5:Gr S4 (S4.B fun t=> .a t [.d .i64 (id:Nat)]):=Gr.G w4 (Jc _);have ba:SlAt (fun r=>¬U2 r) (S4.B fun t=> .a t [.d .i64 (id:Nat)]) (.m (up 0 n4) 0 1 1 1) 1 (ints [id]):=by
   have:=QE (st:=S4) (z:=1) (e:=[.d .i64 (id:Nat)]) rfl;rw[av]at this;exact this.D fun r a O=>⟨by rw[a,<-av];exact R4.tab.G (J6 w4),rfl⟩
  exact⟨w.length-(u+1),by omega,hL _ _ _ ⟨f0,f4,ad,ab,u+1,U2,ar,[id],_,by omega,rfl,rfl,R4.K G5,ai.b,Zb ak ai.f,G5.B bj,bk,ba,Xb _,fun a ha=>by rw[Xj.1 ha];exact ai.g rfl,T⟩⟩
 simp[XY];have ae:=hl.G;rw[JP]at ae;have Z:∀{fr:Fr} {S':St} {U2:Pt->Prop},RunA U' S3 S' U2 z ar->S'.A p4= .a t4 [.d .i64 (E.c:Nat),vv,nv]/\¬U2 p4:=fun{fr S' U2} R'=>⟨by rw[(R'.G p4 (Jb ah) v4).1];exact ah,(R'.G p4 (Jb ah) v4).2⟩
 cases c with
 | nil=>
   have af:J8 ov=some (.d .i64 0, .a):=af;injection Y with e1 e2;injection e2 with e2 e3;subst e1;subst e2;subst e3;simp[XZ,ag,af];exact aj _ _ ⟨f0,f4,ad,ab,aa,rfl,fun h=>by rfl,U',R3,ah,v4⟩
 |cons o r=>
 have hz:¬((r.length+1:Nat):Int)=0:=by omega
 have af:J8 ov=some (.d .i64 ((r.length+1:Nat):Int), .a):=af;have ao:LstAt (OprC (fun r=>¬U' r) S3 b) (fun r=>¬U' r) S3 ov 7 (o::r):=al.G (fun _ _ h=>OprC.A G3.H h) G3.H;obtain⟨q0,o0,en,b1,b2,b3,b4,b5,b6,b7⟩:=LstAt.A ao (i:=0) (by simp);have b1:Js 7 ov (.d .i64 0)=some (.g q0 o0, .a):=b1;simp at b5;have hk:ld1 (S3.A q0) o0=some (.d .i64 o.k, .a):=by
  have:=b7 0 (by omega);rw[GI]at this;rw[this,JuE b5 b6]
 have bb:EnvC (fun r=>¬U' r) S3 [.d .i64 (E.c:Nat),vv,nv] E:=EnvC.B R3.G bd;have bl:SlAt (fun r=>¬U' r) S3 lv 1 (ints Q):=hl.I G3;rw[Ja];simp only[XY,simprocAttr,ag,af,hz];rw[cmdS]at Y;by_cases am:o.k=6
 ·rw[Xe am]at Y;rw[Ja];simp only[XY,simprocAttr,ag,b1,hk,am];simp[XZ,f0,f4,f8,ah,ag];refine Je (JuD aw hf (sg:=sg) ax R3.tab ap bb (hK.A ak) ao (fun x hx=>g2 x (Xi _ hx)) (by grind) bl bh a0) ?_;intro vo S4 hA;rw[Y]at hA;obtain⟨U4,R4,rfl⟩:=Ans.B hA;simp[XZ];exact aj _ _ ⟨f0,f4,ad,ab,aa,rfl,fun _=>rfl,U4,R3.A R4,(Z (fr:=fr) R4).1,(Z (fr:=fr) R4).2⟩
 ·rw[Xa am]at Y;rw[Ja];simp[XY,ag,b1,hk,am];rw[Ja];simp[XY,f0,f4,ah,ag,b1,b4];refine KB (W:=U') R3.tab.1 ((aw {S3 with a:=S3.t} U' z X _ E en o (Qz R3.tab (Jq R3.tab.1 _)) ap (bb.A kR) (hK.A ak) (OprC.A (st:=S3) (st':={S3 with a:=S3.t}) kR b5) (g2 o (Xu ..))).A fun P v h=>⟨h.1,h.2⟩) ?_;rintro _ S4 lo C4 ⟨U4,T4,K4,rfl⟩;have R4:RunA U' S3 {S4 with a:=lo} U4 z (g E X o).1:=⟨C4,Qz T4 C4.D,K4⟩
  generalize g E X o=y at Y R4⊢;obtain⟨bq,br,e1⟩:=y;simp at Y R4⊢;by_cases he:e1=0
  ·subst he
   cases Q with
   | nil=>
     have ae:J8 lv=some (.d .i64 0, .a):=ae;rw[Xa (fun h=>h.2 rfl)]at Y;injection Y with x1 x2;injection x2 with x2 x3;subst x1;subst x2;subst x3;have bc:¬(0:Int)>0:=by omega
     simp[XZ,f8,ae,bc];exact aj _ _ ⟨f0,f4,ad,ab,aa,rfl,fun _=>rfl,U4,R3.A R4,(Z (fr:=fr) R4).1,(Z (fr:=fr) R4).2⟩
   | cons x l=>
     have ae:J8 lv=some (.d .i64 ((l.length+1:Nat):Int), .a):=ae;rw[Xe ⟨rfl,by simp⟩]at Y;injection Y with x1 x2;injection x2 with x2 x3;subst x1;subst x2;subst x3;have bc:((l.length+1:Nat):Int)>0:=by omega
     simp[XZ,f8,ae];exact aj _ _ ⟨f0,f4,ad,ab,aa,rfl,fun h=>by(cases h),U4,R3.A R4,(Z (fr:=fr) R4).1,(Z (fr:=fr) R4).2⟩
  ·rw[Xa (fun h=>he h.1)]at Y;injection Y with x1 x2;injection x2 with x2 x3;subst x1;subst x2;subst x3;simp[XZ,he];exact aj _ _ ⟨f0,f4,ad,ab,aa,rfl,fun _=>rfl,U4,R3.A R4,(Z (fr:=fr) R4).1,(Z (fr:=fr) R4).2⟩
theorem Jqv (a:Int)(b:TabU v s z k):Dz 156 [.g z 0, .d .i64 a] v (Ans s v z (layS k ⟨a,[],[],[]⟩)):=JsQ a b
theorem JsT {s:Sch}{sg:Tb->List Nat->List Nat->Nat×Int}(i:s.c=[]):∀d,Jqu s (opnS sg d) d
 |0=>fun _ _ _ _ _ _ _ _ _ _ _ _ h _=>h.elim
 | d+1=>by
   intro S U rt tb e E ov o P Q hE hK ho m;have ih:=JsT (sg:=sg) i d;refine Jl (aT Tryz.func130 rfl) rfl ?_;have hw:=P.1;have T:=hE;have W:=ho;obtain⟨vv,nv,rfl,h1,h2⟩:=hE;obtain⟨k,q,t,X,n,b,p⟩:=o;obtain⟨f1,f2,f3⟩:=m;obtain⟨pv,qv,rfl,hp,Y⟩:=ho;have c1:=h1.A;have c2:=h1.B;have c3:=h2.B.2;have c4:=h2.B.1;have d1:=hp.A;have d2:=hp.B;have d3:=Y.B.2;have d4:=Y.B.1;obtain⟨n0,u⟩:=nxE S;simp only[CT,Tryz.f130,XY,simprocAttr];rw[Ja];simp[XY,u,c2,c4,d2,d4];generalize Z:up 0 n0=p3;generalize aa:up 1 n0=p5;refine nm2 hw u Z aa ?_;intro S1 g ad ae _ ⟨t3,r3⟩ ⟨t5,j⟩;have l:=P.A g;have v:EnvC (fun r=>¬U r) S1 [.d .i64 (E.c:Nat),vv,nv] E:=T.A g.H;have ab:OprC (fun r=>¬U r) S1 (d+1) [.d .i64 k,ofL q,pv,ofL X, .d .i64 n, .h b,qv] (.mk k q t X n b p):=OprC.A g.H W;rw[opnS];by_cases x:k=2
   ·rw[Xe x];simp[XZ,j,x];refine Je (Jqv 3 l) ?_;intro y w f;have f:=Ans.D g f;obtain⟨z,J,rfl⟩:=Ans.B f;simp[XZ];exact f
   rw[Xa x];by_cases L:k=3
   ·rw[Xe L];simp[XZ,j,L];refine Je (Jqv 2 l) ?_;intro y w f;have f:=Ans.D g f;obtain⟨z,J,rfl⟩:=Ans.B f;simp[XZ];exact f
   rw[Xa L];by_cases M:k=4
   ·rw[Xe M];simp[XZ,j,M];refine Je (Jqv 1 l) ?_;intro y w f;have f:=Ans.D g f;obtain⟨z,J,rfl⟩:=Ans.B f;simp[XZ];exact f
   rw[Xa M];by_cases N:k=5
   ·rw[Xe N];simp[XZ,r3,j,N];refine Je (pipC ih (JaN (SgOK.A (sg:=sg) i) d) (sg:=sg) i l Q v hK (Y.G (fun _ _ h=>h.A (fun _ _ h=>OprC.A g.H h) g.H) g.H) ⟨f2,f3⟩) ?_;intro y w f;have f:=Ans.D g f;obtain⟨z,J,rfl⟩:=Ans.B f;simp[XZ];exact f
   rw[Xa N];by_cases O:k=6
   ·rw[Xe O];simp[XZ,j,O];refine Je (ofKC (sg:=sg) (nm:=X) (args:=[]) l Q i (SlAt.K _ _ _) fun a c=>by cases c) ?_;intro y w f;have f:=Ans.D g f;obtain⟨z,J,rfl⟩:=Ans.B f;simp[XZ];exact f
   rw[Xa O];simp[XZ,r3,j,x,L,M,N,O];refine Je (Juz l Q v hK ab f1) ?_;rintro _ w ⟨G2,rfl⟩;simp[XZ];exact Ans.A P (g.A G2)
theorem JuF {sg:Tb->List Nat->List Nat->Nat×Int}(a:f.c=[]){m:Nat}{E:EnvS}(d:TabU v s z k)(h:OfF f k)(l:EnvC (fun r=>¬s r) v e E)(n:EnvK k E)(o:PipC (fun r=>¬s r) v m i w)(b:fitP m w):
  Dz 87 [.g z 0, .j e,i] v (Ans s v z (ofS sg m E k w)):=pipC (JsT a m) (JaN (SgOK.A (sg:=sg) a) m) a d h l n o b
theorem nodW {rt:Pt}{names:List Str}{cs:Cls}{id:Nat}(hW:WkU v s z rt k i names cs m)(hO:OfF f k)(hid:id<k.a.length):
  Dz 131 [.g z 0, .d .i64 (id:Nat)] v fun h X=>Gr v X/\∃x y,h= .j [.d .i64 (Jm k id).a,ofL (Jm k id).d,x,y]/\SlAt (fun r=>v.A r= .none) X x 1 (strs (Jm k id).b)/\SlAt (fun r=>v.A r= .none) X y 1 (ints (Jm k id).c):=by
 have hw:=hW.I;refine Jn tabM (aT Tryz.func131 rfl) rfl hw fun K q=> ?_;obtain⟨U0,cv,tw,hT,h2,h3,h4,h5⟩:=hW.i;obtain⟨o1,o2,o3,o4,o5,o6⟩:=hO.F hid;obtain⟨n0,J⟩:=nxE v;simp only[CT,Tryz.f131,XY,simprocAttr];rw[Ja];simp[XY,J];generalize Y:up 0 n0=Z;refine nm1 hw J Y ?_;intro S1 p ab ⟨t4,r4⟩;have w1:=p.B h3;have d4:Z≠z:=fun e=>Jb h3 (by grind);rw[Ja];simp[XY,w1];refine Je (JkB (hT.A p) o1) ?_;rintro _ _ ⟨rfl,rfl⟩;simp[XY];rw[Jd,Ja];simp[XY];rw[Ja];simp[XY,w1];refine Je (Jnh (hT.A p) o2) ?_;rintro _ n ⟨T2,L,e,rfl,x,y,rfl,O,P⟩;rw[JhF hO hid o2]at O P⊢;generalize Jm k id=N at O P q o3 o4 o5 o6⊢;have c1:=O.A;have c2:=O.B;have c3:=P.A;have c4:=P.B;have Q:=L.B r4;obtain⟨n2,o⟩:=nxE n;have aa:=fun l=>nes (Jt L.D o (Jb Q) l);simp[XZ,o,c2,c4,Q,aa];have G3:Gr n ((n.B fun t=>Row.a t [.d .i64 0,ofL [], .e, .e]).D (up 0 n2) n.t fun u=>Row.a u [.d .i64 N.a,ofL N.d,x,y]):=(Gr.F L.D).M o (Jc _) (Jc _);have T:∀{t:Nat} {r:Pt},S1.A r= .none->n.A r≠ .none->(((n.B fun t=>Row.a t [.d .i64 0,ofL [], .e, .e]).D (up 0 n2) n.t fun u=>Row.a u [.d .i64 N.a,ofL N.d,x,y]).D Z t fun u=>Row.a u [.d .i64 N.a,ofL N.d,x,y]).A r=n.A r:=fun{t r} m b=>by
  rw[Jj _ _ _ (fun e=>Jb r4 (by grind)),G3.d r b]
 have W:∀r,S1.A r= .none->v.A r= .none:=fun r e=>p.I e;refine q _ _ (fun r e=> ?_) fun g=>⟨x,y,rfl,O.D fun r m b=>⟨W r m,T m b⟩,P.D fun r m b=>⟨W r m,T m b⟩⟩
 have e4:r≠Z:=fun c=>e (by grind);rw[Jj _ _ _ e4,G3.d r (by rw[(p.A L).d r e];exact e),(p.A L).d r e]
theorem JnP (h:SlAt s v i 1 (strs d))(g:d.length<100000):Dz 170 [i,ofL p] v fun u j=>u= .h (decide (p∈d))/\v=j:=by
 refine Jl (aT Tryz.func170 rfl) rfl ?_;simp only[CT,Tryz.f170,XZ,simprocAttr];refine Je (Jlz h g) ?_;rintro _ _ ⟨rfl,rfl⟩;have this:∀(l:List Str),(fstN p l=none<->p∉l):=by
  intro l
  induction l with
  |nil=>simp[fstN]
  | cons b r k=>
    rw[fstN];by_cases c:b=p
    ·simp[c]
    ·rw[Xa c];simp[k,Hc]
     grind
 unfold idxV
 cases m:fstN p d with
 | none=>
   have e:=(this d).1 m;have f:¬(-1:Int)≥0:=by omega
   simp[XZ,e]
 | some a=>
   have e:p∈d:=Xd fun h=>by grind
   have f:(a:Int)≥0:=by omega
   simp[XZ,f,e]
def AnsW (U:Pt->Prop)(S:St)(w rt:Pt)(nv:V)(names:List Str)(tb:Tb)(cs:Cls)(a code:Int)(v:V)(S':St):Prop:=∃U',RunW U S S' U'/\WkU S' U' w rt tb nv names cs a/\v= .d .i64 code
theorem JuG {W:Pt}{names:List Str}{u:Cls}{E:EnvS}{n:Nod}{d id:Nat}(hW:WkU v s z W k i names u m)(hE:EnvC (fun r=>¬s r) v e E)(hn:NodC (fun r=>¬s r) v b d x n)(ab:names.length<100000)(ai:u.length<100000):
  Dz 137 [.g z 0, .j e, .j x, .d .i64 (id:Nat)] v (AnsW s v z W i names k (if n.A∈names then u++[(n.A,if n.F=[]then E.c else id)]else u) m (if n.A∈names then 0 else 15)):=by
 have hw:=hW.I;refine Jl (aT Tryz.func137 rfl) rfl ?_
 cases d with
 |zero=>exact hn.elim
 |succ d=>
 obtain⟨f,at_,sx,O,pp,ah,aj,he,cases⟩:=n;obtain⟨pv,bv,ev,xv,rfl,y1,y2,y3,y4⟩:=hn;obtain⟨vv,ak,rfl,z1,z2⟩:=hE;have c1:=z1.A;have c2:=z1.B;have c3:=z2.B;have c4:=LstAt.B y1;have c5:=y2.B;have c6:=y3.B;have c7:=y4.B;have Q:=LstAt.H y1;obtain⟨U0,cv,tw,hT,h2,h3,h4,h5⟩:=hW.i;obtain⟨n0,X⟩:=nxE v;simp only[CT,Tryz.f137,XY,simprocAttr];rw[Ja];simp[XY,X,c2,c3.1,c4.1,c5.1,c6.1,c7.1];generalize ad:up 0 n0=p5;generalize ae:up 1 n0=p6;refine nm2 hw X ad ae ?_;intro S1 G1 al am _ ⟨t5,r5⟩ ⟨t6,r6⟩;have w1:=G1.B h3;have Y:=hW.G G1;have d6:p6≠z:=fun e=>Jb h3 (by grind);refine Ju (fun fr S'=>fr 0= .g z 0/\fr 3= .d .i64 ((if pp=[]then E.c else id:Nat):Nat)/\fr 6= .g p6 0/\S'=S1) (fun J hJ=> ?_) ?_
 ·cases pp with
  | nil=>
    have Q:J8 pv=some (.d .i64 0, .a):=Q;simp[XZ,r5,r6,Q];exact hJ _ _ (by simp[XZ,ZP])
  | cons o l=>
    have hz:¬((l.length+1:Nat):Int)=0:=by omega
    have af:¬(o::l)=([]:Pipe):=by simp
    have Q:J8 pv=some (.d .i64 ((l.length+1:Nat):Int), .a):=Q;simp[XZ,r6,Q];exact hJ _ _ (by simp[XZ,af,ZP])
 rintro fr S2 ⟨f0,f3,f6,rfl⟩;show wC _ _ _ _ _ (kRet _ (AnsW s v z W i names k (if O∈names then u++[(O,if pp=[]then E.c else id)]else u) m (if O∈names then 0 else 15)));generalize (if pp=[]then E.c else id)=ty at f3⊢;rw[Jd,Ja];simp[XY,f0,f6,w1,r6];refine Ji (P:=fun p _=>p= .h (decide (O∈names))) ((JnP ((Y.j).L _) ab).A fun p S' ⟨m,o⟩=>⟨o▸Gr.F (Jq G1.D _),m⟩) ?_;rintro _ S3 y rfl;have q:=G1.A y;have w3:=y.B w1;have Z:=y.B r6;have aa:=Y.G y;by_cases T:O∈names;rotate_left
 ·rw[Xa T,Xa T];simp[XZ,Xv T];exact⟨s,(RunW.G q),aa,rfl⟩
 rw[Xe T,Xe T];obtain⟨n3,t⟩:=nxE S3;have ow:=fun f=>nes (Jt y.D t (Jb w3) f);have o6:=fun f=>nes (Jt y.D t (Jb Z) f);simp[XY,Xp T];rw[Ja];simp[XY,f0,f3,f6,w3,Z,t];have o3:=h4.F fun r e=>q.d r (h4.A e);refine JcM y.D t o3 rfl rfl (by simp[clsE];omega) ?_;intro S4 v4 K N ag;have w4:S4.A z= .a tw [.g W 0,i,cv, .d .i64 m]:=(K.d z (Jb w3) fun e=>(h5 z e).2 rfl).trans w3;have k4:=N.G.A;have k5:=N.G.B;simp[XZ,w4,k4,k5];obtain⟨U',R,hk⟩:=aa.M (a':=m) (cs':=u++[(O,ty)]) (hT.A q) h2 h5 K (by rw[clsE,ZA];exact N) ag ((Ch.G _ K.D).J (Jb w4) (congrArg _ w4) (.inl rfl) (Jc [.g W 0,i,v4, .d .i64 m])) (Jh _ _ _ _);exact⟨U',(RunW.G q).A R,hk,rfl⟩
theorem JnQ {E:EnvS}{id:Nat}(hw:WF v)(hE:EnvC s v e E)(hl:E.a.length<2^19):
  Dz 89 [.j e,ofL p, .d .i64 (id:Nat)] v fun b S'=>Gr v S'/\∃e',b= .j e'/\EnvC (fun r=>s r\/v.A r= .none) S' e' (varS E p id):=by
 refine Jn tabM (aT Tryz.func89 rfl) rfl hw fun K ad=> ?_;obtain⟨vv,nv,rfl,L,h2⟩:=hE;have c1:=L.A;have c2:=L.B;have c3:=h2.B;have l1:=L.G;rw[Xr]at l1;obtain⟨n0,M⟩:=nxE v;simp only[CT,Tryz.f89,XY,simprocAttr];rw[Ja];simp[XY,M,c2,c3.1];generalize ae:up 0 n0=p4;generalize af:up 1 n0=J;refine nm2 hw M ae af ?_;intro S1 N ar au ag ⟨t4,r4⟩ ⟨t6,r6⟩;obtain⟨n1,O⟩:=nxE S1;have Q:IntKind.i64.wrap ((E.a.length:Int)+1)=((E.a.length+1:Nat):Int):=by rw[JX (by omega) (by omega)];omega
 have ah:=Jln (st:=S1) (d:=[ofL [], .d .i64 0]) (z:=2) (n:=E.a.length+1) (by omega) rfl;rw[Ja];simp only[XY,simprocAttr,r4,l1,Q,ah,O];generalize ai:up 0 n1=i;refine nm1 N.D O ai ?_;intro S2 G2 k ⟨tA,rA⟩;have o:=G2.B r4;have T:=G2.B r6;have U:p4≠i:=fun e=>Jb r4 (by grind);have W:J≠i:=fun e=>Jb r6 (by grind);have X:=N.A G2;rw[Ja];simp[XY,o];have q:∀x∈E.a.map varE,x.length=2:=L.1;have aj:Jw (List.replicate (E.a.length+1) [ofL [],V.d .i64 0]).flatten 0 (E.a.map varE).flatten=(E.a.map varE).flatten++[ofL [], .d .i64 0]:=by
  have:=JcN (es:=E.a.map varE) (d:=[ofL [], .d .i64 0]) q
  grind
 have Y:=Jp q;rw[Xr]at Y;refine Jeq G2.D L (fun r e=>X.d r e) (JfS _) rA (by simp) (by simp) ?_;intro S3 t3 C3 w;rw[aj]at w;have ak:(E.a.length:Int)<((E.a.length+1:Nat):Int):=by omega
 have al:E.a.length*2+2<=((E.a.map varE).flatten++[ofL [],V.d .i64 0]).length:=by grind
 simp only[XY,simprocAttr,w,Xr,ak];refine⟨by omega,al, ?_⟩;have Z:=Jd5 (es:=E.a.map varE) (d:=[ofL [], .d .i64 0]) (e:=[ofL p, .d .i64 (id:Nat)]) Y rfl;rw[JK]at Z;refine nmW C3.D w ?_;intro S4 C4 ⟨tB,rB⟩;have rB:S4.A i= .a tB ((E.a.map varE).flatten++[ofL p, .d .i64 (id:Nat)]):=rB.trans (congrArg _ Z);have y:=C3.A C4 fun r u=> .inl u;have aa:=(y.d p4 (Jb o) U).trans o;have ab:=(y.d J (Jb T) W).trans T;have am:∀r,v.A r≠ .none->S4.A r=v.A r:=fun r l=>by
  have l2:=X.d r l;rw[y.d r (by grind) (fun e=> ?_),l2];rw[e]at l;exact l (N.I k)
 rw[Ja];simp[XY,aa];refine nmW C4.D aa ?_;intro S5 C5 ⟨tC,rC⟩;have ao:=(C5.d J (Jb ab) fun e=>ag e.symm).trans ab;have ap:=(C5.d i (Jb rB) fun e=>U e.symm).trans rB;simp[XZ,rC,ao,c3.1];have dd:∀r,v.A r≠ .none->r≠p4/\r≠J/\r≠i:=fun r l=>⟨fun e=>l (by grind),fun e=>l (by grind),fun e=>l (by rw[e];exact(N.I k))⟩
 have fA:v.A i= .none:=N.I k;have aq:i≠J:=fun e=>W e.symm;refine ad _ _ (fun r l=> ?_) fun g=>⟨_,rfl,_,_,rfl, ?_,h2.G (fun _ _ h=>h.A fun r f l=>⟨.inl f,g.d r l⟩) fun r f l=>⟨.inl f,g.d r l⟩⟩
 ·rw[Jj _ _ _ (dd r l).2.1,C5.d r (by grind) (dd r l).1,am r l]
 ·have hm:=Jm5 (st:=S5.D J t6 fun u=>Row.a u [V.d IntKind.i64 ↑E.c,V.m i 0 (E.a.length+1) 2 (E.a.length+1),nv]) (p:=i) (t:=tB) (z:=2) (n:=E.a.length+1) (es:=E.a.map varE) (e:=[ofL p, .d .i64 (id:Nat)]) (by rw[Jj _ _ _ aq];exact ap) q rfl (by simp);have e1:(varS E p id).a.map varE=E.a.map varE++[[ofL p, .d .i64 (id:Nat)]]:=by unfold varS;rw[ZA];rfl
  rw[e1];exact hm.D fun r f l=>⟨.inr (by grind),rfl⟩
theorem Jiq (b:u.length=r.length)(h:∀i (h:i<u.length) (f:i<r.length),NarC s v u[i] r[i]):okC u:=fun e c=>by
 obtain⟨i,a,rfl⟩:=XU.1 c;obtain⟨g,e,d⟩:=h i a (b▸a);rw[e,J9,J9,J9,Kv,d.B];rfl
theorem JrT {E:EnvS}(hw:WF v)(hE:EnvC s v e E)(hN:NarC s v x j)(hl:E.b.length<2^19):
  Dz 164 [.j e, .j x] v fun f S'=>Gr v S'/\∃e',f= .j e'/\EnvC (fun r=>s r\/v.A r= .none) S' e' (Qe E j):=by
 refine Jn tabM (aT Tryz.func164 rfl) rfl hw fun K al=> ?_;obtain⟨vv,nv,rfl,h1,h2⟩:=hE;have c1:=h1.A;have c2:=h1.B;have c3:=h2.B;obtain⟨k,k1,M,k3⟩:=h2;have l1:=k1.G;rw[M]at l1;obtain⟨X,rfl,q1⟩:=hN;have q2:=q1.A;have q3:=q1.B;obtain⟨n0,Y⟩:=nxE v;simp only[CT,Tryz.f164,XY,simprocAttr];rw[Ja];simp[XY,Y,c2,c3.1,q3];generalize am:up 0 n0=p4;generalize ao:up 1 n0=Z;generalize ap:up 2 n0=W;refine nm3 hw Y am ao ap ?_;intro S1 G1 ⟨a3,a4,a5⟩ ⟨a6,aq,a7⟩ ⟨t4,r4⟩ ⟨t5,r5⟩ ⟨t6,r6⟩;obtain⟨n1,aa⟩:=nxE S1;have ab:IntKind.i64.wrap ((E.b.length:Int)+1)=((E.b.length+1:Nat):Int):=by rw[JX (by omega) (by omega)];omega
 have ar:=Jln (st:=S1) (d:=[.d .i64 0, .e, .d .i64 0]) (z:=3) (n:=E.b.length+1) (by omega) rfl;rw[Ja];simp only[XY,simprocAttr,r4,l1,ab,ar,aa];generalize au:up 0 n1=o;refine nm1 G1.D aa au ?_;intro S2 G2 N ⟨tA,rA⟩;have O:=G2.B r4;have ad:=G2.B r6;have J:=G2.B r5;have Q:Z≠o:=fun e=>Jb r5 (by grind);have ae:p4≠o:=fun e=>Jb r4 (by grind);have af:W≠o:=fun e=>Jb r6 (by grind);have ag:=G1.A G2;rw[Ja];simp[XY,O];have T:∀j∈(k),j.length=3:=k1.1;have av:Jw (List.replicate (E.b.length+1) [V.d .i64 0, .e, .d .i64 0]).flatten 0 k.flatten=k.flatten++[.d .i64 0, .e, .d .i64 0]:=by
  have:=JcN (es:=k) (d:=[.d .i64 0, .e, .d .i64 0]) T
  grind
 have ah:=Jp T;rw[M]at ah;refine Jeq G2.D k1 (fun r e=>ag.d r e) (Jiq M k3) rA (by simp) (by omega) ?_;intro S3 t3 C3 U;rw[av]at U;have aw:=(C3.d Z (Jb J) Q).trans J;have ax:(E.b.length:Int)<((E.b.length+1:Nat):Int):=by omega
 have ay:E.b.length*3+3<=(k.flatten++[V.d .i64 0, .e, .d .i64 0]).length:=by grind
 simp only[XY,simprocAttr,U,M,ax,aw];refine⟨by omega,⟨ay,q3⟩,JU (v:= .m o 0 (E.b.length+1) 3 (E.b.length+1)) (w:= .g Z 0) (q:=Z) (by rfl) (by rfl) rfl (fun e=>Q (by injection e with e;grind)), ?_⟩;have ai:=Jd5 (es:=k) (d:=[.d .i64 0, .e, .d .i64 0]) (e:=[.d .i64 j.1,X, .d .i64 (j.2.2:Nat)]) ah rfl;rw[JK]at ai;refine nmW C3.D U ?_;intro S4 C4 ⟨tB,rB⟩;have rB:S4.A o= .a tB (k.flatten++[.d .i64 j.1,X, .d .i64 (j.2.2:Nat)]):=rB.trans (congrArg _ ai);have L:=C3.A C4 fun r u=> .inl u;have aj:=(L.d p4 (Jb O) ae).trans O;have a8:=(L.d Z (Jb J) Q).trans J;have ak:=(L.d W (Jb ad) af).trans ad;have az:∀r,v.A r≠ .none->S4.A r=v.A r:=fun r l=>by
  have l2:=ag.d r l;rw[L.d r (by grind) (fun e=> ?_),l2];rw[e]at l;exact l (G1.I N)
 rw[Ja];simp[XY,aj];refine nmW C4.D aj ?_;intro S5 C5 ⟨tC,rC⟩;have a0:=(C5.d W (Jb ak) fun e=>aq e.symm).trans ak;have a1:=(C5.d o (Jb rB) fun e=>ae e.symm).trans rB;simp[XZ,rC,a0,c2];have dd:∀r,v.A r≠ .none->r≠p4/\r≠W/\r≠o:=fun r l=>⟨fun e=>l (by grind),fun e=>l (by grind),fun e=>l (by rw[e];exact(G1.I N))⟩
 have fA:v.A o= .none:=G1.I N;have a2:o≠W:=fun e=>af e.symm;refine al _ _ (fun r l=> ?_) fun g=>⟨_,rfl,_,_,rfl,h1.D fun r p l=>⟨.inl p,g.d r l⟩,k++[[.d .i64 j.1,X, .d .i64 (j.2.2:Nat)]], ?_,by simp[Qe,M],fun i h h'=> ?_⟩
 ·rw[Jj _ _ _ (dd r l).2.1,C5.d r (by grind) (dd r l).1,az r l]
 ·have hm:=Jm5 (st:=S5.D W t6 fun u=>Row.a u [V.d IntKind.i64 ↑E.c,vv,V.m o 0 (E.b.length+1) 3 (E.b.length+1)]) (p:=o) (t:=tB) (z:=3) (n:=E.b.length+1) (es:=k) (e:=[.d .i64 j.1,X, .d .i64 (j.2.2:Nat)]) (by rw[Jj _ _ _ a2];exact a1) T rfl (by rw[M]);exact hm.D fun r p l=>⟨.inr (by grind),rfl⟩
 ·have kk:∀{e y},NarC s v e y->NarC (fun r=>s r\/v.A r= .none) _ e y:=fun h=>h.A fun r p l=>⟨.inl p,g.d r l⟩
  by_cases c:i<k.length
  ·have c':i<E.b.length:=M▸c;have e1:(Qe E j).b[i]=E.b[i]:=Xw c'
   grind
  ·have hi:i=k.length:=by grind
   subst hi;have e1:(Qe E j).b[k.length]=j:=by simp[Qe,M]
   rw[e1,XL (Xb _)];simp;exact kk ⟨X,rfl,q1⟩
theorem Jqw (f:WF v)(k:NarC P v e j):Dz 167 [.j e] v fun a m=>Gr v m/\a= .h (decide (j.1= -1)):=by
 refine Jn tabM (aT Tryz.func167 rfl) rfl f fun K b=> ?_;obtain⟨o,rfl,i⟩:=k;have p:=i.A;have n:=i.B;obtain⟨q,c⟩:=nxE v;simp only[CT,Tryz.f167,XZ,simprocAttr,c,n];refine b _ _ (fun r l=> ?_) fun g=>rfl;exact(Gr.G f (Jc _)).d r l
theorem JrU (K:WF v)(h:LstAt (NarC P v) P v i 3 r)(U:r.length<100000):Dz 186 [i, .D 167 [] []] v fun u s=>Gr v s/\u= .d .i64 (match dotI r with
  |some a=>(a:Int)
  |none=> -1):=by
 refine Jl (aT Tryz.func186 rfl) rfl ?_;have k:=h.H;simp only[CT,Tryz.f186,XY,simprocAttr];rw[Ja];simp[XY];rw[Jd,Ja];simp[XY,k];refine Jo (fun j m s=>∃a:Nat,j+a=r.length/\m 0=i/\m 1= .D 167 [] []/\m 7= .d .i64 (r.length:Nat)/\m 8= .d .i64 (a:Nat)/\Gr v s/\dotI r=(dotI (r.drop a)).map (·+a)) r.length (by omega) ⟨0,by omega,rfl,rfl,rfl,by rfl,Gr.F K,by simp⟩ ?_;rintro L hL j m y ⟨a,W,z,J,t,p,n,f⟩;by_cases w:a<r.length;rotate_left
 ·rw[XB (by omega)]at f;have f:dotI r=none:=f;simp[XZ,t,p,w,f];exact n
 have x:(a:Int)<r.length:=by omega
 have g:=wiN (i:=a) (by omega);have M:LstAt (NarC P y) P y i 3 r:=LstAt.G h (fun _ _ h=>h.A n.H) n.H;obtain⟨b,q,e,N,X,Y,O,Q,Z,a7⟩:=M.A w;rw[Xc w,dotI]at f;rw[Ja];simp only[XY,simprocAttr,t,p];rw[Jd];simp only[XY,simprocAttr,x];rw[Jd];simp only[XY,simprocAttr];rw[Ja];simp[XY];rw[Ja];simp[XY,z,J,p,N,O];refine Je (Jqw n.D Q) ?_;rintro _ S2 ⟨T,rfl⟩;have o:=n.A T;by_cases c:r[a].1= -1
 ·rw[Xe c]at f;have f:dotI r=some a:=by grind
  simp[XZ,c,f];exact o
 ·rw[Xa c]at f;simp[XZ,c,g,p];exact⟨r.length-(a+1),by omega,hL _ _ _ ⟨a+1,by omega,z,J,t,rfl,o,by rw[f,Hu];congr 1;grind⟩⟩
theorem Jqx (W:Gr v y)(h:SlF v y i 3 u)(M:u.length=r.length)(hk:∀f (h:f<u.length) (h':f<r.length),NarC (fun g=>P g/\v.A g≠ .none) v u[f] r[f])(hl:r.length<100000):
  Dz 165 [i, .D 167 [] []] y fun m X=>Ch (fun p=>rowOf i=some p) y X/\LstAt (NarC (fun g=>P g/\v.A g≠ .none) v) (fun g=>v.A g= .none) X m 3 (offD r):=by
 have hw:=W.D;refine Jl (aT Tryz.func165 rfl) rfl ?_;have aj:LstAt (NarC (fun g=>P g/\v.A g≠ .none) y) (fun g=>v.A g= .none) y i 3 r:=⟨u,h.D,M,fun f a b=>(hk f a b).A W.H⟩
 simp only[CT,Tryz.f165,XY,simprocAttr];rw[Ja];simp[XY];rw[Ja];simp[XY];refine Je (JrU (P:=fun g=>(P g/\v.A g≠ .none)\/v.A g= .none) hw (LstAt.G aj (fun _ _ h=>h.A fun g p e=>⟨.inl p,rfl⟩) fun g p e=>⟨.inr p,rfl⟩) hl) ?_;rintro _ S1 ⟨G1,rfl⟩;have g1:=W.A G1;have h1:SlF v S1 i 3 u:=h.G G1
 cases hd:dotI r with
 | none=>
   simp[XZ];refine⟨Ch.H _ G1, ?_⟩;rw[Jhs hd];exact⟨u,h1.D,M,hk⟩
 |some Y=>
 obtain⟨aw,ak⟩:=Jht hd;have h0:¬((Y:Nat):Int)= -1:=by omega
 have N:=wiN (i:=Y) (by omega);simp[XY];rw[Jd,Ja];simp[XY,h0];rw[Jd,Ja];simp[XY,N];refine Jo (fun q Z X=>∃(f j:Nat) (o:List (List V)) (n:List (Int×List Str×Nat)),q+f=r.length/\j<f/\Z 0=i/\Z 1= .D 167 [] []/\Z 5= .d .i64 (j:Nat)/\Z 6= .d .i64 (f:Nat)/\Ch (fun p=>rowOf i=some p) y X/\SlF v X i 3 o/\o.length=r.length/\n.length=r.length/\(∀f (h:f<o.length) (h':f<n.length),NarC (fun g=>P g/\v.A g≠ .none) v o[f] n[f])/\n.take j=offD (r.take f)/\n.drop f=r.drop f) (r.length-(Y+1)) (by omega) ⟨Y+1,Y,u,r,by omega,by omega,rfl,rfl,rfl,rfl,Ch.H _ G1,h1,M,rfl,hk,ak.symm,rfl⟩ ?_;rintro L hL q Z S2 ⟨f,j,o,n,hq,ax,O,f1,f5,f6,C2,Q,aa,al,hn,ab,ad⟩;have ae:=Q.D.G;rw[aa]at ae;rw[Jd,Ja];simp only[XY,simprocAttr,O,f6,ae];have am:∀g,v.A g≠ .none->S2.A g=v.A g:=fun g e=>by
  rw[C2.d g (by rw[W.d g e];exact e) (Qo Q e),W.d g e]
 by_cases hi:f<r.length;rotate_left
 ·have ao:¬(f:Int)<r.length:=by omega
  have ap:f=r.length:=by omega
  rw[ap,XE]at ab;obtain⟨v2,g,hr,ay,hc,aq⟩:=JpW C2.D Q (d:=[.d .i64 0, .e, .d .i64 0]) (k:=j) rfl rfl (by omega);simp only[XZ,simprocAttr,ao,O,f5,hc,JpV];refine aq fun S3 C3 s3=> ?_;obtain⟨v3,h3,a3,_⟩:=Jfn s3.D (k:=j) (by grind);simp[XZ,O,f5,h3];refine⟨C2.A C3 fun r' e=> .inl (by grind),_,a3, ?_, ?_⟩
  ·grind
  grind
 have s:=wiN (i:=f) (by omega);have T:=wiN (i:=j) (by omega);have h2:LstAt (NarC (fun g=>P g/\v.A g≠ .none) S2) (fun g=>v.A g= .none) S2 i 3 n:=⟨o,Q.D,by omega,fun f a b=>(hn f a b).A fun g p e=>⟨p,am g e⟩⟩
 have af:f<n.length:=by omega
 obtain⟨g,q',e,a1,a2,a3,a4,a5,a6,a7⟩:=h2.A af;have e3:e=o[f]'(by omega):=by
  obtain⟨r',q2,b1,_,_,b4,_⟩:=Q.D.H (i:=f) (by omega)
  grind
 obtain⟨z,he,q1⟩:=a5;have q2:=q1.A;have q3:=q1.B;rw[he]at a4;obtain⟨n2,ag⟩:=nxE S2;simp[XY,hi];rw[Jd];simp[XY];rw[Ja];simp[XY,O,f6,a1,a4,ag,q3];generalize ar:up 0 n2=p7;refine nmA C2.D ag ar ?_;intro S3 G3 az ⟨t7,r7⟩;rw[Ja];simp[XY,f1,r7];refine Je (Jqw G3.D (P:=fun g=>P g/\v.A g≠ .none) ⟨z,rfl,q1.I G3⟩) ?_;rintro _ S4 ⟨G4,rfl⟩;have ah:=G3.A G4;have au:=G4.B r7;have ai:=Q.G ah;have C4:=C2.I ah;have a0:n[f]=r[f]:=by
  have:=congrArg (fun x=>x[0]?) ad
  grind
 have K:n.drop (f+1)=r.drop (f+1):=by
  have:=congrArg (List.drop 1) ad
  rwa [ZH,ZH]at this
 have w:offD (r.take (f+1))=offD (r.take f)++(if n[f].1= -1 then[]else[n[f]]):=by
  rw[Xn hi];unfold offD
  grind
 by_cases c:n[f].1= -1
 ·rw[Xe c,ZL]at w;simp[XZ,c,s,f6];exact⟨r.length-(f+1),by omega,hL _ _ _ ⟨f+1,j,o,n,by omega,by omega,O,f1,f5,rfl,C4,ai,aa,al,hn,by grind,K⟩⟩
 rw[Xa c]at w;obtain⟨r0,t0,o1,o2,o3,o4,o5,o6⟩:=Jie ai (k:=j) (by omega);have U:j*3+3<=o.flatten.length:=by rw[Jp Q.1];omega
 simp only[XZ,simprocAttr,c,au,O,f5,f6,o3,o4,q3,s,T];have av:∀S5:St,S5=(S4.D r0 t0 fun m=>Row.a m (Jw o.flatten (j*3) [V.d IntKind.i64 n[f].fst,z,V.d IntKind.i64 ↑n[f].snd.snd]))->Ch (fun p=>rowOf i=some p) y S5/\SlF v S5 i 3 (o.set j [V.d IntKind.i64 n[f].fst,z,V.d IntKind.i64 ↑n[f].snd.snd]):=fun S5 e5=>by
  subst e5;refine⟨C4.J (Jb o3) (by rw[o3];rfl) (.inl o1) (Jc _), ?_⟩;have:=o6 (S4.D r0 t0 fun m=>Row.a m (Jw o.flatten (j*3) [V.d IntKind.i64 n[f].fst,z,V.d IntKind.i64 ↑n[f].snd.snd])) S4.t 0 [V.d IntKind.i64 n[f].fst,z,V.d IntKind.i64 ↑n[f].snd.snd] (by simp) (Jh _ _ _ _);have e6:Jw o[j] 0 [V.d IntKind.i64 n[f].fst,z,V.d IntKind.i64 ↑n[f].snd.snd]=[V.d IntKind.i64 n[f].fst,z,V.d IntKind.i64 ↑n[f].snd.snd]:=by
   rw[JK];simp[o5]
  grind
 obtain⟨k1,k2⟩:=av _ rfl;refine⟨U,r.length-(f+1),by omega,hL _ _ _ ⟨f+1,j+1,o.set j [V.d IntKind.i64 n[f].fst,z,V.d IntKind.i64 ↑n[f].snd.snd],n.set j n[f],by omega,by omega,O,f1,rfl,rfl,k1,k2,by grind,by grind,fun k a b=> ?_, ?_, ?_⟩⟩
 ·grind
 ·rw[w,<-ab,Xn (by grind),X9,List.take_set_of_le (Xb _)]
 ·rw[List.drop_set_of_lt (by omega),K]
theorem JsU {E:EnvS}{id:Nat}(hw:WF v)(hE:EnvC s v e E)(hl:E.b.length<100000):
  Dz 135 [.j e, .d .i64 (id:Nat)] v fun c S'=>Gr v S'/\∃e',c= .j e'/\EnvC (fun r=>s r\/v.A r= .none) S' e' (Q4 E id):=by
 refine Jn tabM (aT Tryz.func135 rfl) rfl hw fun K T=> ?_;obtain⟨vv,nv,rfl,U,h2⟩:=hE;have c1:=U.A;have c2:=U.B;have c3:=h2.B;obtain⟨W,k1,k2,k3⟩:=h2;obtain⟨n0,x⟩:=nxE v;simp only[CT,Tryz.f135,XY,simprocAttr];rw[Ja];simp[XY,x,c2,c3.1];generalize X:up 0 n0=y;generalize Y:up 1 n0=o;refine nm2 hw x X Y ?_;intro S1 G1 af ag z ⟨t4,r4⟩ ⟨t6,r6⟩;rw[Ja];simp[XY,r4];refine nmW G1.D r4 ?_;intro k Z ⟨ah,m⟩;have n:=(Z.d o (Jb r6) fun e=>z e.symm).trans r6;have J:Ch (fun _=>False) v k:=(Ch.H (fun _=>False) G1).A Z fun r e=> .inr (by grind);have q:∀r,v.A r≠ .none->k.A r=v.A r:=fun r e=>J.d r e fun h=>h;have aa:SlAt (fun r=>s r/\k.A r≠ .none) k nv 3 W:=k1.D fun r p e=>⟨⟨p,by grind⟩,q r e⟩
 have L:∀i (h:i<W.length) (h':i<E.b.length),NarC (fun r=>(s r/\v.A r≠ .none)/\k.A r≠ .none) k W[i] E.b[i]:=fun i a b=>(k3 i a b).A fun r p e=>⟨⟨⟨p,e⟩,by grind⟩,q r e⟩
 rw[Ja];simp[XY,m];refine Je (jW (by simp) Z.D aa (Jiq k2 L) (by omega)) ?_;rintro cv S3 ⟨w,s3⟩;simp[XY];refine Je (Jqx (P:=fun r=>s r/\v.A r≠ .none) w s3 k2 L hl) ?_;rintro u S4 ⟨Q,L4⟩;have f3:=fun r (e:k.A r≠ .none)=>Qo s3 e;have M:=(Q.d y (Jb (w.B m)) (f3 y (Jb m))).trans (w.B m);have N:=(Q.d o (Jb (w.B n)) (f3 o (Jb n))).trans (w.B n);have l1:=L4.B;simp[XY,M,l1.1,l1.2];refine nmW Q.D M ?_;intro S5 C5 ⟨t5,r5⟩;have ab:=(C5.d o (Jb N) fun e=>z e.symm).trans N;simp[XZ,r5,ab,c2,l1.1];have n4:k.A y≠ .none:=Jb m;have n6:k.A o≠ .none:=Jb n;have ad:∀r,k.A r= .none->v.A r= .none:=fun r e=>J.B e;have dd:∀r,v.A r≠ .none->r≠y/\r≠o:=fun r l=>⟨fun e=>l (by grind),fun e=>l (by grind)⟩
 have ae:∀r,k.A r≠ .none->S4.A r=k.A r:=fun r e=>(Q.d r (by rw[w.d r e];exact e) (f3 r e)).trans (w.d r e);have O:∀r t f,v.A r≠ .none->(S5.D o t f).A r=v.A r:=fun r t f l=>by
  have l2:=q r l;have l4:=(ae r (by grind)).trans l2;rw[Jj _ _ _ (dd r l).2,C5.d r (by grind) (dd r l).1,l4]
 refine T _ _ (fun r l=>O r _ _ l) fun g=>⟨_,rfl,_,_,rfl,U.D fun r p l=>⟨.inl p,g.d r l⟩,LstAt.G L4 (fun _ _ h=>h.A fun r p l=> ?_) fun r p l=> ?_⟩
 ·grind
 ·have e4:r≠y:=fun e=>n4 (by grind);have e6:r≠o:=fun e=>n6 (by grind);exact⟨.inr (ad r p),by rw[Jj _ _ _ e6,C5.d r l e4]⟩
end Go.Proofs.YtdajkeoobbonjaaGreat
