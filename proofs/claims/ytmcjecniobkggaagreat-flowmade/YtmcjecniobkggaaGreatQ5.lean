/- The front of a path that is known: the program's. The type of a path: the program's. Ho -/
import Derived.Test.YtmcjecniobkggaaGreatQ4
set_option linter.constructorNameAsVariable false
set_option maxHeartbeats 20000000
set_option linter.unusedVariables false
set_option linter.unusedSimpArgs false
set_option linter.unusedSectionVars false
set_option maxRecDepth 100000
namespace Go.Proofs.YtmcjecniobkggaaGreat
open Eva Go.RowKit
variable {s P:Pt->Prop}{v y:St}{e x:List V}{n:List Nat}{t:Tb->List Nat->List Nat->Nat×Int}{k:Tb}{z:Pt}{b:Nat}{d:List Str}{i:V}{r:List (Int×List Str×Nat)}{q:EnvS}{p:Str}{f:Sch}{l:List Nd}{h a:Nd}{g:EnvS->Tb->Opn->Ans3}{m:Int}{j:Int×List Str×Nat}{c:Opn}{u:List (List V)}{w:Pipe}{S:Tb×Nat×Int}
theorem Js1 {b:V}{g:List Str}(h:SlAt s v i 1 (strs d))(k:SlAt P v b 1 (strs g))(X:d.length<100000)(Y:g.length<100000):
  Dz 190 [i,b] v fun c w=>c= .h (decide (d=g))/\v=w:=by
 refine Jl (aT Tryz.func190 rfl) rfl ?_;have x:=h.G;have y:=k.G;rw[Jw]at x y;simp only[CT,Tryz.f190,XY,simprocAttr];rw[Ja];simp[XY];by_cases z:d.length=g.length;rotate_left
 ·have e:¬d=g:=fun e=>z (by rw[e]);have l:¬(d.length:Int)=g.length:=by omega
  rw[Je,Ja];simp[XY,x,y,l,e];rw[Ja];simp[XZ]
 have l:(d.length:Int)=g.length:=by omega
 rw[Je,Ja];simp[XY,x,y,l];rw[Je,Ja];simp[XY,x,l];refine Jy (fun j t w=>∃f:Nat,j+f=g.length/\t 0=i/\t 1=b/\t 12= .d .i64 (g.length:Nat)/\t 13= .d .i64 (f:Nat)/\v=w/\decide (d=g)=decide (d.drop f=g.drop f)) g.length (by omega) ⟨0,by omega,rfl,rfl,rfl,by rfl,rfl,rfl⟩ ?_;rintro L hL j t w ⟨f,Z,K,M,n,p,rfl,m⟩;by_cases u:f<g.length;rotate_left
 ·rw[Xs (by omega),Xs (by omega)]at m;simp[XZ,n,p,u,m]
 have q:=wiN (i:=f) (by omega);obtain⟨r,o,N,O⟩:=QQ h (i:=f) (by omega);obtain⟨r',o',Q,T⟩:=QQ k u;have W:decide (d.drop f=g.drop f)=(decide (d[f]=g[f])&&decide (d.drop (f+1)=g.drop (f+1))):=by
  rw[Xc (show f<d.length by omega),Xc u]
  grind
 rw[W]at m;by_cases U:d[f]=g[f]
 ·simp[XZ,K,M,n,p,u,N,O,Q,T,U,q];exact⟨g.length-(f+1),by omega,hL _ _ _ ⟨f+1,by omega,K,M,n,rfl,rfl,by grind⟩⟩
 ·simp[XZ,K,M,n,p,u,N,O,Q,T,U,m]
theorem cutP (h:SlAt s v i 1 (strs d))(f:b<=d.length):∃u,(∀S':St,QV S' 1 i none (some (.d .i64 (b:Nat))) none=some (u, .a))/\SlAt s v u 1 (strs (d.take b)):=by
 obtain⟨u,a,c,_⟩:=JeZ h (k:=b) (by rw[Jw];exact f);refine⟨u,fun _=>a, ?_⟩;have e:(strs d).take b=strs (d.take b):=by unfold strs;simp
 grind
theorem cutD (h:SlAt s v i 1 (strs d))(f:b<=d.length):∃u,(∀S':St,QV S' 1 i (some (.d .i64 (b:Nat))) none none=some (u, .a))/\SlAt s v u 1 (strs (d.drop b)):=by
 obtain⟨u,a,c,_⟩:=Je0 h (k:=b) (by rw[Jw];exact f);refine⟨u,fun _=>a, ?_⟩;have e:(strs d).drop b=strs (d.drop b):=by unfold strs;simp
 grind
theorem JtR {E:EnvS}(hw:WF v)(hE:EnvC s v e E)(hp:SlAt P v i 1 (strs d))(hv:m= -1\/∃f:Nat,m=f/\f<E.a.length)(hn:E.b.length<100000)(hl:d.length<100000)(ah:∀x∈E.b,x.2.1.length<100000):
  Dz 167 [.j e, .d .i64 m,i] v fun w X=>Gr v X/\w= .p [.d .i64 ((Jaw E m d).1:Nat), .d .i64 ((Jaw E m d).2:Nat)]:=by
 refine Jn tabM (aT Tryz.func167 rfl) rfl hw fun K ai=> ?_;obtain⟨vv,nv,rfl,h1,h2⟩:=hE;have c1:=h1.A;have c2:=h1.B;have c3:=h2.G.2;have c4:=h2.G.1;have ln:=h2.H;have lp:=hp.G;rw[Jw]at lp;obtain⟨n0,ae⟩:=nxE v;simp only[CT,Tryz.f167,XY,simprocAttr];rw[Ja];simp[XY,ae,c2,c4];generalize aj:up 0 n0=p3;refine nm1 hw ae aj ?_;intro S1 G1 au ⟨t3,r3⟩;rw[Ja];simp[XY,r3];refine Jz (fun g X=>g 1= .d .i64 m/\g 2=i/\g 3= .e p3 0/\g 8= .d .i64 (ki E m:Nat)/\g 9= .d .i64 0/\X=S1) (fun J hJ=> ?_) ?_
 ·rcases hv with rfl|⟨f,rfl,hi⟩
  ·simp[XZ];exact hJ _ _ (by simp[XZ,ki,ZL])
  ·obtain⟨r,o,a1,a2,a3,a4,a5⟩:=h1.I (i:=f) (by grind);have a6:ld1 (S1.A r) (o+1)=some (.d .i64 (E.a[f].2:Nat), .a):=by rw[G1.d r a3];have:=a5 1 (by simp[varE]);simpa[varE]using this
   have ak:¬(f:Int)= -1:=by omega
   have al:ki E (f:Nat)=E.a[f].2:=by unfold ki;grind
   simp[XZ,r3,ak,a1,a6];exact hJ _ _ (by simp[XZ,al,ZL])
 rintro g X ⟨z,Q,f3,Y,M,rfl⟩;rw[Je,Ja];simp[XY,f3,r3,ln];obtain⟨L,hL⟩:=loE fun j g X=>∃(f:Nat) (a:Nat×Nat),j+f=E.b.length/\g 1= .d .i64 m/\g 2=i/\g 8= .d .i64 (a.1:Nat)/\g 9= .d .i64 (a.2:Nat)/\g 23=nv/\g 24= .d .i64 (E.b.length:Nat)/\g 25= .d .i64 (f:Nat)/\Gr v X/\Jaw E m d=(E.b.drop f).foldl (narS m d) a;refine JC L E.b.length (by omega) ((hL _ _ _).2 ⟨0,(ki E m,0),by omega,z,Q,Y,by simp[XZ,M]<;>rfl,rfl,rfl,by rfl,G1,rfl⟩) ?_;clear z Q f3 Y M;intro j g S2 am;obtain⟨f,⟨t,N⟩,hj,z,Q,Y,M,y,l,k,G2,T⟩:=(hL _ _ _).1 am;by_cases hi:f<E.b.length;rotate_left
 ·rw[Xs (by omega)]at T;simp[XZ,l,k,hi,Y,M];exact ai _ _ (fun r e=>G2.d r e) fun _=>by grind
 have aa:=wiN (i:=f) (by omega);rw[Xc hi,Zr]at T;obtain⟨r,o,en,a1,_,a3,a4,a5,_⟩:=h2.A hi;have ao:ldn (S2.A r) o 3=some (.j en, .a):=by rw[G2.d r a3];exact a4
 have U:=ah _ (Xh hi);obtain⟨x,hx⟩:=exE (E.b[f]);rw[<-hx]at a5 T U;obtain⟨Z,q,xt⟩:=x;obtain⟨qv,rfl,hq⟩:=a5;simp at hq U;have ap:SlAt s S2 qv 1 (strs q):=hq.H G2;have c5:=hq.A;have c6:=hq.B;have lq:=hq.G;rw[Jw]at lq;obtain⟨n2,af⟩:=nxE S2;have w2:=G2.D;rw[Ja];simp[XY,l,k,hi];rw[Je];simp[XY];refine Jz (fun g X=>g 1= .d .i64 m/\g 2=i/\g 8= .d .i64 ((narS m d (t,N) (Z,q,xt)).1:Nat)/\g 9= .d .i64 ((narS m d (t,N) (Z,q,xt)).2:Nat)/\g 23=nv/\g 24= .d .i64 (E.b.length:Nat)/\g 25= .d .i64 (f:Nat)/\Gr v X) (fun J2 W=> ?_) ?_;rotate_left
 ·rintro g X ⟨z,Q,Y,M,y,l,k,G3⟩;simp[XZ,k,aa];exact⟨E.b.length-(f+1),by omega,(hL _ _ _).2 ⟨f+1,narS m d (t,N) (Z,q,xt),by omega,by simp[XZ,z,Q,Y,M,y,l,Zo];grind⟩⟩
 simp[XY];rw[Ja];simp[XY,y,k,a1,ao,af,c6];generalize ag:up 0 n2=av;refine nmA w2 af ag ?_;intro S3 G3 ar ⟨t11,r11⟩;have O:=G2.B G3;by_cases q1:Z=m;rotate_left
 ·have n:narS m d (t,N) (Z,q,xt)=(t,N):=Xa fun c=>q1 c.1;simp[XZ,z,r11,q1];exact W _ _ (by simp[XZ,z,Q,Y,M,y,l,k,n,Zo];exact O)
 have ab:(Z=m)=True:=XL q1;by_cases q2:N<=q.length;rotate_left
 ·have n:narS m d (t,N) (Z,q,xt)=(t,N):=Xa fun c=>q2 c.2.1;simp[XZ,z,M,r11,ab,lq,q2];exact W _ _ (by simp[XZ,z,Q,Y,M,y,l,k,n,Zo];exact O)
 by_cases q3:q.length<=d.length;rotate_left
 ·have n:narS m d (t,N) (Z,q,xt)=(t,N):=Xa fun c=>q3 c.2.2.1;have ad:¬(q.length:Int)<=d.length:=by omega
  simp[XZ,z,Q,M,r11,ab,lq,lp,q2,ad];exact W _ _ (by simp[XZ,z,Q,Y,M,y,l,k,n,Zo];exact O)
 have ad:(q.length:Int)<=d.length:=by omega
 obtain⟨u,hu,aq⟩:=cutP (hp.H O) q3;simp[XZ,z,Q,M,r11,ab,lq,lp,q2,ad,hu];refine Jj (P:=fun w _=>w= .h (decide (q=d.take q.length))) ((Js1 ((ap.H G3).L _) (aq.L _) U (by grind)).A fun w X ⟨a,b⟩=>⟨b▸Gr.F (Js G3.D _),a⟩) ?_;rintro _ S4 G4 rfl;have r114:=G4.A r11;by_cases q4:q=d.take q.length
 ·have n:narS m d (t,N) (Z,q,xt)=(xt,q.length):=Xd ⟨q1,q2,q3,q4⟩;simp[XZ,Xo q4,r114,lq];exact W _ _ (by simp[XZ,z,Q,y,l,k,n,Zo];exact O.B G4)
 ·have n:narS m d (t,N) (Z,q,xt)=(t,N):=Xa fun c=>q4 c.2.2.2;simp[XZ,Xq q4];exact W _ _ (by simp[XZ,z,Q,Y,M,y,l,k,n,Zo];exact O.B G4)
def idxV (n:Str)(ns:List Str):Int:=match fstN n ns with
 |some i=>(i:Int)
 |none=> -1
theorem Jk1 (h:SlAt s v i 1 (strs d))(z:d.length<100000):Dz 139 [i,ofL p] v fun u m=>u= .d .i64 (idxV p d)/\v=m:=by
 refine Jl (aT Tryz.func139 rfl) rfl ?_;have c:=h.G;rw[Jw]at c;simp only[CT,Tryz.f139,XY,simprocAttr];rw[Ja];simp[XY];rw[Je,Ja];simp[XY,c];refine Jy (fun j g m=>∃a:Nat,j+a=d.length/\g 0=i/\g 1=ofL p/\g 7= .d .i64 (d.length:Nat)/\g 8= .d .i64 (a:Nat)/\v=m/\fstN p d=(fstN p (d.drop a)).map (·+a)) d.length (by omega) ⟨0,by omega,rfl,rfl,rfl,by rfl,rfl,by simp⟩ ?_;rintro L hL j g m ⟨a,K,q,t,n,w,rfl,b⟩;by_cases k:a<d.length;rotate_left
 ·rw[Xs (by omega)]at b;have b:fstN p d=none:=b;simp[XZ,n,w,k,idxV,b]
 have f:=wiN (i:=a) (by omega);obtain⟨r,o,x,y⟩:=QQ h k;rw[Xc k,fstN]at b;by_cases l:p=d[a]
 ·rw[Xd l.symm]at b;have b:fstN p d=some a:=by grind
  simp[XZ,q,t,n,w,k,x,y,l];rw[<-l];simp[idxV,b]
 ·rw[Xa fun e=>l e.symm]at b;simp[XZ,q,t,n,w,k,x,y,l,f];exact⟨d.length-(a+1),by omega,hL _ _ _ ⟨a+1,by omega,q,t,n,rfl,rfl,by rw[b,Hi];congr 1;grind⟩⟩
theorem Jha (h:OfF f k)(c:b<k.a.length)(d:(Ku k (k.a.length+1) b).1<k.a.length):k.a[(Ku k (k.a.length+1) b).1]=Jg k b:=by
 have:=(h.B c).2.2.1
 grind
theorem JtS {P':Pt->Prop}{Y:Tb}{E:EnvS}{k:Int}{sx:Str}{g:Bool}(hT:TabU v s z Y)(hO:OfF f Y)(hE:EnvC P v e E)(hK:EnvK Y E)(ho:OprC P' v b x (.mk k p d sx m g w))(hl:d.length<100000):
  Dz 128 [.j e, .e z 0, .j x] v fun h S'=>Gr v S'/\h= .p [.d .i64 ((Qq Y E p d).1:Nat), .d .i64 (Qq Y E p d).2]:=by
 obtain⟨b,rfl⟩:∃d',b=d'+1:=by
  cases b with
  |zero=>exact ho.elim
  |succ b=>simp
 have hw:=hT.1;refine Jn tabM (aT Tryz.func128 rfl) rfl hw fun K O=> ?_;have ap:=hE;obtain⟨vv,nv,rfl,h1,h2⟩:=hE;obtain⟨pv,qv,rfl,hp,hq⟩:=ho;have c1:=h1.A;have c2:=h1.B;have c3:=h2.G.2;have c4:=h2.G.1;have d1:=hp.A;have d2:=hp.B;have d3:=hq.G.2;have d4:=hq.G.1;obtain⟨n0,ag⟩:=nxE v;simp only[CT,Tryz.f128,XY,simprocAttr];rw[Ja];simp[XY,ag,c2,c4,d2,d4];generalize aq:up 0 n0=p3;generalize ar:up 1 n0=p5;refine nm2 hw ag aq ar ?_;intro S1 G1 aw ax _ ⟨t3,r3⟩ ⟨t5,r5⟩;have ah:EnvC P S1 [.d .i64 (E.c:Nat),vv,nv] E:=ap.A G1.H;rw[Ja];simp[XY,r3,r5];refine Jc (JbB (Q:=fun h S'=>h=Jax E p/\S1=S') (aH (k:=166) rfl) (Jfp ah (by have:=hK.e;omega) p) ⟨rfl,rfl⟩) ?_;rintro _ _ ⟨rfl,rfl⟩;unfold Qq at O
 cases T:KO E p with
 | none=>
   rw[T]at O;simp only[Jax,T,XY,simprocAttr];rw[Je,Ja];simp[XY];rw[Ja];simp[XZ];exact O _ _ (fun r e=>G1.d r e) fun _=>rfl
 |some h=>
 rw[T]at O;simp at O;have hv:=kX T;obtain⟨ft,fl⟩:=Jfr hK hv d;simp only[Jax,T,XY,simprocAttr];rw[Je,Ja];simp[XY];rw[Ja];simp[XY,r3,r5];refine Jc (JtR G1.D ah (hp.H G1) hv hK.d hl fun l a=>(hK.c l a).2.1) ?_;rintro _ S2 ⟨G2,rfl⟩;have r52:=G2.A r5;have ab:=G1.B G2;obtain⟨u,hu,U⟩:=cutD (hp.H ab) fl;have lu:=U.G;rw[Jw]at lu;generalize Jaw E h d=tl at ft fl hu U lu O⊢;obtain⟨t0,lg⟩:=tl;simp only at ft fl hu U lu O;generalize au:d.drop lg=y at U lu O;have ay:y.length<=d.length:=by grind
 simp[XY];rw[Je,Ja];simp[XY,r52,hu,lu];refine Jy (fun j fr S'=>∃(i id:Nat),j+i=y.length/\fr 1= .e z 0/\fr 10= .d .i64 (id:Nat)/\fr 39=u/\fr 40= .d .i64 (y.length:Nat)/\fr 41= .d .i64 (i:Nat)/\Gr v S'/\Gr S2 S'/\id<Y.a.length/\Yw Y t0 y=Yw Y id (y.drop i)) y.length (by omega) ⟨0,t0,by omega,rfl,rfl,rfl,rfl,by rfl,ab,Gr.F ab.D,ft,rfl⟩ ?_;rintro L hL j fr S3 ⟨i,id,hj,f1,ai,aj,ad,Z,G3,ak,hid,t⟩;by_cases hi:i<y.length;rotate_left
 ·rw[Xs (by omega)]at t;simp[XZ,ad,Z,hi,ai];exact O _ _ (fun r e=>G3.d r e) fun _=>by rw[t];rfl
 have ae:=wiN (i:=i) (by omega);rw[Xc hi,Yw]at t;obtain⟨r,o,a1,a4⟩:=QQ (U.H ak) hi;generalize y[i]=nm at t a4;rw[Ja];simp[XY,ad,Z,hi];rw[Je];simp[XY];rw[Je];simp[XY];rw[Ja];simp[XY,aj,Z,a1,a4];rw[Ja];simp[XY,f1,ai];obtain⟨o1,o2,o3,o4,o5,o6⟩:=hO.B hid;refine Jc (Jj1 (hT.A G3) o1) ?_;rintro _ _ ⟨rfl,rfl⟩;simp[XY];rw[Ja];simp[XY,f1];refine Jc (JmK (hT.A G3) o2) ?_;rintro _ S4 ⟨T4,G4,e',rfl,az,a0,rfl,x1,x2⟩;rw[Jha hO hid o2]at x1 x2⊢;generalize hN:Jg Y id=N at x1 x2 o3 o4 o5 o6⊢;have c5:=x1.A;have c6:=x1.B;have c7:=x2.A;have c8:=x2.B;have lk:=x2.G;rw[JS]at lk;obtain⟨n4,al⟩:=nxE S4;simp[XY,al,c6,c8];generalize am:up 0 n4=a2;refine nmA G4.D al am ?_;intro S5 G5 av ⟨t16,r16⟩;have aa:=(G3.B G4).B G5;rw[Ja];simp[XY,r16];refine Jc (Jk1 (x1.H G5) (by have:=o5.b;omega)) ?_;rintro _ _ ⟨rfl,rfl⟩;have hf:JbA Y id nm=if N.a=7 then(match fstN nm N.b with
  |some i=>N.c[i]?
  |none=>none)else none:=by unfold JbA;grind
 by_cases h7:N.a=7;rotate_left
 ·rw[hf,Xa h7]at t;simp[XY];rw[Je,Ja];simp[XY,r16,h7];rw[Ja];simp[XZ];exact O _ _ (fun r e=>aa.d r e) fun _=>by grind
 rw[hf,Xd h7]at t
 cases hx:fstN nm N.b with
 | none=>
   rw[hx]at t;have X:(-1:Int)<0:=by omega
   simp only[idxV,hx,XY,simprocAttr];rw[Je,Ja];simp[XY,r16,h7];rw[Ja];simp[XZ];exact O _ _ (fun r e=>aa.d r e) fun _=>by grind
 | some q=>
   rw[hx]at t;simp at t;have X:¬(q:Int)<0:=by omega
   simp[idxV,hx];by_cases hq:q<N.c.length
   ·have af:¬(q:Int)≥N.c.length:=by omega
    have ao:=o6 _ (Xh hq);rw[Xg hq]at t;obtain⟨r',q',b1,b2,b3,b4⟩:=SlAt.M (xs:=N.c.map fun m:Nat=>V.d .i64 (m:Int)) (i:=q) (x2.H G5) (by grind);simp at b4;simp[XZ,r16,h7,X,lk,af,b1,b4,Z,ae];exact⟨y.length-(i+1),by omega,hL _ _ _ ⟨i+1,N.c[q],by omega,by simp[XZ,f1,aj,ad,Zo];exact⟨aa,(ak.B G4).B G5,ao,t⟩⟩⟩
   ·have af:(q:Int)≥N.c.length:=by omega
    rw[Gm (by omega)]at t;simp[XZ,r16,h7,X,lk,af];exact O _ _ (fun r e=>aa.d r e) fun _=>by grind
theorem Jr7 (a:Str)(S:St):Dz 163 [ofL a] S fun v e=>v= .d .i64 (KE a:Nat)/\S=e:=by
 refine Jl (aT Tryz.func163 rfl) rfl ?_;by_cases h:a∈[[108,101,110],[110,111,116],[116,101,120,116],[104,97,115],[105,56],[105,49,54],[105,51,50],[117,56],[117,49,54],[117,51,50]]
 ·have b:KE a=1:=Xd h;rw[b];simp at h;rcases h with rfl|rfl|rfl|rfl|rfl|rfl|rfl|rfl|rfl|rfl
  all_goals
   simp only[CT,Tryz.f163,XZ,simprocAttr,Xi,Zg,XE,reduceCtorEq]
 ·have b:KE a=2:=Xa h;rw[b];simp[GO]at h;obtain⟨f,g,i,j,k,l,m,n,o,c⟩:=h;simp only[CT,Tryz.f163,XZ,simprocAttr,f,g,i,j,k,l,m,n,o,c]
  trace_state
def Yf (nm:Str)(ks:List Int)(k:Int):Prop:=
 (nm=[110,111,116]/\ks=[1]/\k=1)\/(nm=[104,97,115]/\ks=[6]/\k=1)\/(nm=[97,110,100]/\ks=[1,1]/\k=1)\/(nm=[111,114]/\ks=[1,1]/\k=1)\/(nm=[108,116]/\ks=[2,2]/\k=1)\/
 (nm=[97,100,100]/\ks=[2,2]/\k=2)\/(nm=[115,117,98]/\ks=[2,2]/\k=2)\/(nm=[109,117,108]/\ks=[2,2]/\k=2)\/(nm=[115,104,108]/\ks=[2,2]/\k=2)\/(nm=[115,104,114]/\ks=[2,2]/\k=2)\/(nm=[99,97,116]/\ks=[3,3]/\k=3)
theorem Js2 {args:List Nat}{t:List Int}(x:Yf p t m)(hl:t.length=l.length)(T:TabU v s z k)(h:AskC (fun r=>¬s r) v z e l args):
  Dz 165 [.j e,ofL p] v (Ans s v z (Jbf k m (areZ t l))):=by
 refine Jl (aT Tryz.func165 rfl) rfl ?_;have h8:t.length<=8/\0<t.length:=by
  unfold Yf at x;rcases x with⟨_,rfl,_⟩|⟨_,rfl,_⟩|⟨_,rfl,_⟩|⟨_,rfl,_⟩|⟨_,rfl,_⟩|⟨_,rfl,_⟩|⟨_,rfl,_⟩|⟨_,rfl,_⟩|⟨_,rfl,_⟩|⟨_,rfl,_⟩|⟨_,rfl,_⟩<;>simp
 obtain⟨Y,u⟩:=nxE v;have f:=h;obtain⟨Z,av,es,rfl,M,h2,h3,U⟩:=h;have c1:=M.A;have c2:=M.B;have c3:=U.A;have c4:=U.B;have hw:=T.1;simp only[CT,Tryz.f165,XY,simprocAttr];rw[Ja];simp[XY,u,c2,c4];generalize N:up 0 Y=p2;refine nm1 hw u N ?_;intro S0 w _ ⟨t2,r2⟩;have O:=f.B w;obtain⟨r,q,aa,P,a2,a3,a4,a5,a6⟩:=jq (M.H w) h2 (fun i a b=>(h3 i a b).A w.H) (i:=0) (by omega);have P:Jo 4 Z (.d .i64 0)=some (.e r q, .a):=P;have w0:=w.D;obtain⟨n1,g⟩:=nxE S0;have o2:=fun m=>nes (Jr w0 g (Jb r2) m);rw[Ja];simp[XY,r2,P,a4];unfold Yf at x;rcases x with⟨rfl,rfl,rfl⟩|⟨rfl,rfl,rfl⟩|⟨rfl,rfl,rfl⟩|⟨rfl,rfl,rfl⟩|⟨rfl,rfl,rfl⟩|⟨rfl,rfl,rfl⟩|⟨rfl,rfl,rfl⟩|⟨rfl,rfl,rfl⟩|⟨rfl,rfl,rfl⟩|⟨rfl,rfl,rfl⟩|⟨rfl,rfl,rfl⟩
 all_goals
  simp[XZ,r2,g,Xi,Zg,X8];generalize Q:up 0 n1=x0;refine nm1c w0 g Q ?_;intro S1 y _ ⟨t3,r3⟩;have n:=w.B y;have r21:=y.A r2
  first
   |refine Jj (areI (Js y.D _) ((f.B n).A _) ((izs1 r3).L _) (by omega) (by simp)) ?_
   |refine Jj (areI (Js y.D _) ((f.B n).A _) ((izs2 r3).L _) (by omega) (by simp)) ?_
  rintro _ S2 K rfl;have o:=n.B K;have r22:=K.A r21;simp[XZ];refine JW (W:=s) K.D ((Jg9 _ _ (Qj (T.A o) (Js K.D _)) ((f.B o).A _)).A fun c S h=>⟨h.1,h.2⟩) ?_;rintro _ S3 lo X ⟨W3,T3,K3,rfl⟩;simp[XZ];exact Ans.D o ⟨X,W3,Qj T3 X.D,K3,rfl⟩
def ku (nm:Str):Prop:=nm∉[[108,101,110],[110,111,116],[97,110,100],[111,114],[101,113],[108,116],[97,100,100],[115,117,98],[109,117,108],[115,104,108],[115,104,114],[99,97,116],[116,101,120,116],[97,116],[103,101,116],[104,97,115],[111,114,101,108,115,101]]
theorem Jhb {A:Nd}{args:List Nat}(Z:ku p)(hT:TabU v s z k)(h:AskC (fun r=>¬s r) v z e [A] args):
  Dz 165 [.j e,ofL p] v (Ans s v z (Jbf k 2 (areZ [2] [A]))):=by
 refine Jl (aT Tryz.func165 rfl) rfl ?_;simp[ku,GO]at Z;obtain⟨k1,k2,k3,k4,k5,k6,k7,k8,k9,w,x,y,K,M,N,O,P⟩:=Z;obtain⟨n0,n⟩:=nxE v;have g:=h;obtain⟨lv,av,es,rfl,Q,h2,h3,h4⟩:=h;have c1:=Q.A;have c2:=Q.B;have c3:=h4.A;have c4:=h4.B;have hw:=hT.1;simp only[CT,Tryz.f165,XY,simprocAttr];rw[Ja];simp[XY,n,c2,c4];generalize T:up 0 n0=p2;refine nm1 hw n T ?_;intro S0 t _ ⟨t2,r2⟩;obtain⟨r,q,aa,U,a2,a3,a4,a5,a6⟩:=jq (Q.H t) h2 (fun i a b=>(h3 i a b).A t.H) (i:=0) (by simp);have U:Jo 4 lv (.d .i64 0)=some (.e r q, .a):=U;have w0:=t.D;obtain⟨n1,l⟩:=nxE S0;have o2:=fun c=>nes (Jr w0 l (Jb r2) c);rw[Ja];simp[XY,r2,U,a4];simp[XZ,r2,l,k1,k2,k3,k4,k5,k6,k7,k8,k9,w,x,y,K,M,N,O,P];generalize X:up 0 n1=x0;refine nm1c w0 l X ?_;intro S1 Y _ ⟨t3,r3⟩;have o:=t.B Y;have r21:=Y.A r2;refine Jj (areI (Js Y.D _) ((g.B o).A _) ((izs1 r3).L _) (by simp) (by simp)) ?_;rintro _ S2 u rfl;have m:=o.B u;have r22:=u.A r21;simp[XZ];refine JW (W:=s) u.D ((Jg9 _ _ (Qj (hT.A m) (Js u.D _)) ((g.B m).A _)).A fun f S h=>⟨h.1,h.2⟩) ?_;rintro _ S3 lo C3 ⟨W3,T3,K3,rfl⟩;simp[XZ];exact Ans.D m ⟨C3,W3,Qj T3 C3.D,K3,rfl⟩
theorem Jr8 {o:Tb}{A:Nd}{args:List Nat}{k:Int}{f:Bool}(T:(p=[108,101,110]/\k=2/\f=(decide (A.a=3)||decide (A.a=4)||decide (A.a=5)))\/(p=[116,101,120,116]/\k=3/\f=(decide (A.a=2)||decide (A.a=1))))(N:TabU v s z o)(h:AskC (fun r=>¬s r) v z e [A] args):
  Dz 165 [.j e,ofL p] v (Ans s v z (Jbf o k f)):=by
 refine Jl (aT Tryz.func165 rfl) rfl ?_;obtain⟨U,g⟩:=nxE v;have l:=h;obtain⟨O,X,es,rfl,t,Y,Z,P⟩:=h;have c1:=t.A;have c2:=t.B;have c3:=P.A;have c4:=P.B;have hw:=N.1;simp only[CT,Tryz.f165,XY,simprocAttr];rw[Ja];simp[XY,g,c2,c4];generalize u:up 0 U=p2;refine nm1 hw g u ?_;intro S0 m _ ⟨t2,r2⟩;obtain⟨r,q,aa,w,a2,a3,Q,a5,a6⟩:=jq (t.H m) Y (fun i a b=>(Z i a b).A m.H) (i:=0) (by simp);have w:Jo 4 O (.d .i64 0)=some (.e r q, .a):=w;simp at Q;rw[Ja];simp[XY,r2,w,Q];have n:∀(k:Int) (f:Bool),Dz 186 [.j [.e z 0,O,X], .d .i64 k, .h f] S0 (Ans s v z (Jbf o k f)):=fun k f=>(Jg9 k f (N.A m) (l.B m)).A fun c S h=>Ans.D m h;rcases T with⟨rfl,rfl,ho⟩|⟨rfl,rfl,ho⟩
 ·rcases(by omega:A.a=3\/A.a=4\/A.a=5\/(A.a≠3/\A.a≠4/\A.a≠5))with q|q|q|⟨q,x,q5⟩
  all_goals
   first
    |rw[show f=true by grind]
    |rw[show f=false by grind]
   first
    |simp[XZ,r2,q,x,q5]
    |simp[XZ,r2,q]
   refine Jc (n _ _) ?_;rintro _ S3 ⟨y,K,L,M,rfl⟩;simp[XZ];exact⟨y,K,L,M,rfl⟩
 ·rcases(by omega:A.a=2\/A.a=1\/(A.a≠2/\A.a≠1))with q|q|⟨q,x⟩
  all_goals
   first
    |rw[show f=true by grind]
    |rw[show f=false by grind]
   first
    |simp[XZ,r2,q,Xi,Zg,XE,x]
    |simp[XZ,r2,q,Xi,Zg,XE]
   refine Jc (n _ _) ?_;rintro _ S3 ⟨y,K,L,M,rfl⟩;simp[XZ];exact⟨y,K,L,M,rfl⟩
theorem eqB8 {A B:Nd}{args:List Nat}(M:TabU v s z k)(h:AskC (fun r=>¬s r) v z e [A,B] args):
  Dz 165 [.j e,ofL [101,113]] v (Ans s v z (Jbf k 1 (decide (1<=A.a/\A.a<=3)&&decide (B.a=A.a)))):=by
 refine Jl (aT Tryz.func165 rfl) rfl ?_;obtain⟨n0,t⟩:=nxE v;have g:=h;obtain⟨lv,av,es,rfl,P,h2,h3,Y⟩:=h;have c1:=P.A;have c2:=P.B;have c3:=Y.A;have c4:=Y.B;have hw:=M.1;simp only[CT,Tryz.f165,XY,simprocAttr];rw[Ja];simp only[XY,simprocAttr,t,c2,c4];generalize Q:up 0 n0=p2;refine nm1 hw t Q ?_;intro S0 l _ ⟨t2,r2⟩;obtain⟨r,q,aa,T,a2,a3,Z,a5,a6⟩:=jq (P.H l) h2 (fun i a b=>(h3 i a b).A l.H) (i:=0) (by simp);have T:Jo 4 lv (.d .i64 0)=some (.e r q, .a):=T;simp at Z;have w0:=l.D;obtain⟨n1,o⟩:=nxE S0;have o2:=fun c=>nes (Jr w0 o (Jb r2) c);rw[Ja];simp only[XY,simprocAttr,r2,T,Z];generalize hk:A.a=c at*;by_cases u:1<=c
 ·by_cases N:c<=3
  ·rw[Xo (show 1<=c/\c<=3 from⟨u,N⟩),Hm];have m:c≥1:=u;simp[XZ,r2,m,N,o,Xi,X8];generalize U:up 0 n1=x0;refine nm1c w0 o U ?_;intro S1 X _ ⟨t3,r3⟩;have w:=l.B X;have r21:=X.A r2;refine Jj (areI (Js X.D _) ((g.B w).A _) ((izs2 r3).L _) (by simp) (by simp)) ?_;rintro _ S2 O rfl;have p:=w.B O;have r22:=O.A r21;have he:areZ [c,c] [A,B]=decide (B.a=c):=by
    show(decide (A.a=c)&&(decide (B.a=c)&&true))=_
    grind
   rw[he];simp[XZ];refine JW (W:=s) O.D ((Jg9 _ _ (Qj (M.A p) (Js O.D _)) ((g.B p).A _)).A fun f S h=>⟨h.1,h.2⟩) ?_;rintro _ S3 lo n ⟨x,y,K,rfl⟩;simp[XZ];exact Ans.D p ⟨n,x,Qj y n.D,K,rfl⟩
  ·rw[Xq (show¬(1<=c/\c<=3)from fun h=>N h.2),GI];have m:c≥1:=u;simp[XZ,r2,m,N,Xi,X8];refine JW (W:=s) l.D ((Jg9 _ _ (Qj (M.A l) (Js l.D _)) ((g.B l).A _)).A fun f S h=>⟨h.1,h.2⟩) ?_;rintro _ S3 lo n ⟨x,y,K,rfl⟩;simp[XZ];exact Ans.D l ⟨n,x,Qj y n.D,K,rfl⟩
 ·rw[Xq (show¬(1<=c/\c<=3)from fun h=>u h.1),GI];have m:¬c≥1:=u;simp[XZ,r2,m,Xi,X8];refine JW (W:=s) l.D ((Jg9 _ _ (Qj (M.A l) (Js l.D _)) ((g.B l).A _)).A fun f S h=>⟨h.1,h.2⟩) ?_;rintro _ S3 lo n ⟨x,y,K,rfl⟩;simp[XZ];exact Ans.D l ⟨n,x,Qj y n.D,K,rfl⟩
theorem atB8 {A B:Nd}{args:List Nat}(K:TabU v s z k)(h:AskC (fun r=>¬s r) v z e [A,B] args):
  Dz 165 [.j e,ofL [97,116]] v (Ans s v z (k,(Y5 [A,B] (areZ [4,2] [A,B])).1,(Y5 [A,B] (areZ [4,2] [A,B])).2)):=by
 refine Jl (aT Tryz.func165 rfl) rfl ?_;obtain⟨N,l⟩:=nxE v;have f:=h;obtain⟨O,av,es,rfl,p,P,Q,M⟩:=h;have c1:=p.A;have S:=p.B;have c3:=M.A;have T:=M.B;have U:=K.1;simp only[CT,Tryz.f165,XY,simprocAttr];rw[Ja];simp[XY,l,S,T];generalize t:up 0 N=p2;refine nm1 U l t ?_;intro X o _ ⟨t2,r2⟩;obtain⟨r,q,Y,u,a2,a3,Z,a5,a6⟩:=jq (p.H o) P (fun i a b=>(Q i a b).A o.H) (i:=0) (by simp);have u:Jo 4 O (.d .i64 0)=some (.e r q, .a):=u;have w0:=o.D;obtain⟨n1,g⟩:=nxE X;have o2:=fun c=>nes (Jr w0 g (Jb r2) c);rw[Ja];simp[XY,r2,u,Z];simp[XZ,r2,g,Xi,Zg,X8,XE];generalize w:up 0 n1=x0;refine nm1c w0 g w ?_;intro S1 x _ ⟨t3,r3⟩;have m:=o.B x;refine Jj (areI (Js x.D _) ((f.B m).A _) ((izs2 r3).L _) (by simp) (by simp)) ?_;rintro _ S2 y rfl;have n:=m.B y;have r22:=y.A (x.A r2);simp[XZ];refine Jj (kidA _ (Js y.D _) ((f.B n).A _) (by simp)) ?_;rintro _ S3 G3 rfl;simp[XZ];exact Ans.A K (n.B G3)
theorem JtT {A B:Nd}{args:List Nat}(o:TabU v s z k)(h:AskC (fun r=>¬s r) v z e [A,B] args)(i:areZ [5,3] [A,B]=false):
  Dz 189 [.j e] v (Ans s v z (k,0,17)):=by
 refine Jl (aT Tryz.func189 rfl) rfl ?_;obtain⟨x,d⟩:=nxE v;have b:=h;obtain⟨Q,S,T,rfl,p,U,X,q⟩:=h;have Y:=p.A;have y:=p.B;have Z:=q.A;have K:=q.B;have M:=o.1;simp only[CT,Tryz.f189,XY,simprocAttr];rw[Ja];simp[XY,d,y,K];generalize l:up 0 x=p1;refine nm1 M d l ?_;intro N t _ ⟨t2,r2⟩;have w0:=t.D;obtain⟨O,c⟩:=nxE N;have o2:=fun a=>nes (Jr w0 c (Jb r2) a);rw[Ja];simp[XY,r2,c];generalize m:up 0 O=x0;refine nm1c w0 c m ?_;intro S1 u _ ⟨t3,r3⟩;have f:=t.B u;refine Jj (areI (Js u.D _) ((b.B f).A _) ((izs2 r3).L _) (by simp) (by simp)) ?_;rintro _ S2 w rfl;have g:=f.B w;rw[i];simp[XY];refine Jj (kidA false (Js w.D _) ((b.B g).A _) (by simp)) ?_;rintro _ S3 P rfl;have n:Y5 [A,B] false=(0,17):=rfl;rw[n];simp[XZ];exact Ans.A o (g.B P)
theorem JtU {A B:Nd}{args:List Nat}(p:TabU v s z k)(h:AskC (fun r=>¬s r) v z e [A,B] args)(l:areZ [5,3] [A,B]=false):
  Dz 165 [.j e,ofL [103,101,116]] v (Ans s v z (k,0,17)):=by
 refine Jl (aT Tryz.func165 rfl) rfl ?_;obtain⟨u,c⟩:=nxE v;have f:=h;obtain⟨w,U,X,rfl,m,x,y,t⟩:=h;have Y:=m.A;have K:=m.B;have Z:=t.A;have L:=t.B;have M:=p.1;simp only[CT,Tryz.f165,XY,simprocAttr];rw[Ja];simp[XY,c,K,L];generalize n:up 0 u=p2;refine nm1 M c n ?_;intro S0 g _ ⟨t2,r2⟩;obtain⟨r,q,N,o,a2,a3,O,a5,a6⟩:=jq (m.H g) x (fun i a b=>(y i a b).A g.H) (i:=0) (by simp);have o:Jo 4 w (.d .i64 0)=some (.e r q, .a):=o;rw[Ja];simp[XY,r2,o,O];simp[XZ,r2,Xi,Zg,X8];refine Jc (JtT (p.A g) (f.B g) l) ?_;rintro _ S1 ⟨P,Q,S,T,rfl⟩;simp[XZ];exact Ans.D g ⟨P,Q,S,T,rfl⟩
theorem orB0 {A B:Nd}{args:List Nat}(K:TabU v s z k)(h:AskC (fun r=>¬s r) v z e [A,B] args)(hA:A.a≠6):
  Dz 165 [.j e,ofL [111,114,101,108,115,101]] v (Ans s v z (k,0,17)):=by
 refine Jl (aT Tryz.func165 rfl) rfl ?_;obtain⟨P,l⟩:=nxE v;have f:=h;obtain⟨Q,av,es,rfl,t,S,T,M⟩:=h;have c1:=t.A;have U:=t.B;have c3:=M.A;have X:=M.B;have Y:=K.1;simp only[CT,Tryz.f165,XY,simprocAttr];rw[Ja];simp[XY,l,U,X];generalize u:up 0 P=p2;refine nm1 Y l u ?_;intro Z p _ ⟨t2,r2⟩;obtain⟨r,q,aa,w,a2,a3,a4,a5,a6⟩:=jq (t.H p) S (fun i a b=>(T i a b).A p.H) (i:=0) (by simp);have w:Jo 4 Q (.d .i64 0)=some (.e r q, .a):=w;have w0:=p.D;obtain⟨n1,g⟩:=nxE Z;have o2:=fun c=>nes (Jr w0 g (Jb r2) c);rw[Ja];simp[XY,r2,w,a4];simp[XZ,r2,g,Xi,Zg,XE];generalize x:up 0 n1=x0;refine nm1c w0 g x ?_;intro S1 N _ ⟨t3,r3⟩;have m:=p.B N;refine Jj (areI (Js N.D _) ((f.B m).A _) ((izs1 r3).L _) (by simp) (by simp)) ?_;rintro _ S2 O rfl;have n:=m.B O;have o:areZ [6] [A,B]=false:=by
  show(decide (A.a=6)&&true)=false
  grind
 rw[o];simp[XZ];refine Jj (kidA false (Js O.D _) ((f.B n).A _) (by simp)) ?_;rintro _ S3 G3 rfl;have y:Y5 [A,B] false=(0,17):=rfl;rw[y];simp[XZ];exact Ans.A K (n.B G3)
theorem len1 (h:l.length=1):∃A,l=[A]:=by
 match l,h with
 |[A],_=>simp
theorem len2 (h:l.length=2):∃A B,l=[A,B]:=by
 match l,h with
 |[A,B],_=>simp
theorem KT {args:List Nat}(a:p≠[97,116])(b:p≠[103,101,116])(c:p≠[111,114,101,108,115,101]):Jv k p args l=Jbf k (resK p) (okS p l):=by
 unfold Jv Jbf
 grind
theorem Yb (h:ku p){A:Nd}:okS p [A]=areZ [2] [A]/\resK p=2:=by
 simp[ku,GO]at h;obtain⟨m,g,i,j,k,l,n,o,q,e,f,b,c,r,s,d,t⟩:=h;refine⟨?_, ?_⟩
 ·simp[okS,m,g,i,j,k,l,n,o,q,e,f,b,c,d];show decide (A.a=2)=(decide (A.a=2)&&true);simp
 ·simp[resK,g,i,j,k,l,b,c,d]
theorem Js3 {A B:Nd}(b:Bool):((k,(Y5 [A,B] b).1,(Y5 [A,B] b).2):Ans3)=match b,A.c[0]? with
  |true,some a=>(k,a,0)
  |_,_=>(k,0,17):=by
 unfold Y5
 cases b with
 |false=>rfl
 | true=>cases h:A.c with
   |nil=>simp[h]
   |cons a r=>simp[h]
theorem Jra {o:Tb}{args:List Nat}(u:TabU v s z o)(X:OfF f o)(h:AskC (fun r=>¬s r) v z e l args)(S:l=args.map (Jg o))(ha:∀a∈args,a<o.a.length)(O:args.length=KE p)(Y:isBi p=true):
  Dz 165 [.j e,ofL p] v (Ans s v z (Jv o p args l)):=by
 have M:l.length=KE p:=by grind
 have w:∀A∈l,JdE A/\∀k∈A.c,k<o.a.length:=fun A N=>by
  rw[S]at N;obtain⟨a,h1,rfl⟩:=XA.1 N;obtain⟨_,_,_,_,x,y⟩:=X.B (ha a h1)
  grind
 have n:KE p=1->∃A,l=[A]:=fun m=>len1 (M.trans m);have two:KE p=2->∃A B,l=[A,B]:=fun m=>len2 (M.trans m);have Z:p∈jl:=by
  have:=JgS p;rw[show JaL p=isBi p from rfl,Y]at this
  grind
 clear M Y;simp[jl]at Z;have i:∀{ks:List Int} {k:Int},Yf p ks k->p≠[97,116]->p≠[103,101,116]->p≠[111,114,101,108,115,101]->ks.length=l.length->resK p=k->okS p l=areZ ks l->Dz 165 [.j e,ofL p] v (Ans s v z (Jv o p args l)):=fun d n1 n2 n3 O g ho=>by
  rw[KT n1 n2 n3,g,ho];exact Js2 d O u h
 rcases Z with rfl|rfl|rfl|rfl|rfl|rfl|rfl|rfl|rfl|rfl|rfl|rfl|rfl|rfl|rfl|rfl|rfl|rfl|rfl|rfl|rfl|rfl|rfl
 ·obtain⟨A,rfl⟩:=n (by decide);rw[KT (by decide) (by decide) (by decide)];exact Jr8 (.inl ⟨rfl,rfl,rfl⟩) u h
 ·obtain⟨A,rfl⟩:=n (by decide);exact i (ks:=[1]) (k:=1) (by simp[Yf]) (by decide) (by decide) (by decide) rfl (by decide) (by simp[okS,areZ,Jp])
 ·obtain⟨A,B,rfl⟩:=two (by decide);exact i (ks:=[1,1]) (k:=1) (by simp[Yf]) (by decide) (by decide) (by decide) rfl (by decide) (by simp[okS,areZ,Jp])
 ·obtain⟨A,B,rfl⟩:=two (by decide);exact i (ks:=[1,1]) (k:=1) (by simp[Yf]) (by decide) (by decide) (by decide) rfl (by decide) (by simp[okS,areZ,Jp])
 ·obtain⟨A,B,rfl⟩:=two (by decide);rw[KT (by decide) (by decide) (by decide)];have K:okS [101,113] [A,B]=(decide (1<=A.a/\A.a<=3)&&decide (B.a=A.a)):=by
   simp[okS,Jp];by_cases P:A.a=1
   ·simp[P]
   ·by_cases a2:A.a=2
    ·simp[a2]
    ·by_cases a3:A.a=3
     ·simp[a3]
     grind
  rw[K];exact eqB8 u h
 ·obtain⟨A,B,rfl⟩:=two (by decide);exact i (ks:=[2,2]) (k:=1) (by simp[Yf]) (by decide) (by decide) (by decide) rfl (by decide) (by simp[okS,areZ,Jp])
 ·obtain⟨A,B,rfl⟩:=two (by decide);exact i (ks:=[2,2]) (k:=2) (by simp[Yf]) (by decide) (by decide) (by decide) rfl (by decide) (by simp[okS,areZ,Jp])
 ·obtain⟨A,B,rfl⟩:=two (by decide);exact i (ks:=[2,2]) (k:=2) (by simp[Yf]) (by decide) (by decide) (by decide) rfl (by decide) (by simp[okS,areZ,Jp])
 ·obtain⟨A,B,rfl⟩:=two (by decide);exact i (ks:=[2,2]) (k:=2) (by simp[Yf]) (by decide) (by decide) (by decide) rfl (by decide) (by simp[okS,areZ,Jp])
 ·obtain⟨A,B,rfl⟩:=two (by decide);exact i (ks:=[2,2]) (k:=2) (by simp[Yf]) (by decide) (by decide) (by decide) rfl (by decide) (by simp[okS,areZ,Jp])
 ·obtain⟨A,B,rfl⟩:=two (by decide);exact i (ks:=[2,2]) (k:=2) (by simp[Yf]) (by decide) (by decide) (by decide) rfl (by decide) (by simp[okS,areZ,Jp])
 ·obtain⟨A,rfl⟩:=n (by decide);have g:ku [105,56]:=by unfold ku;decide
  rw[KT (by decide) (by decide) (by decide),(Yb g).1,(Yb (A:=A) g).2];exact Jhb g u h
 ·obtain⟨A,rfl⟩:=n (by decide);have g:ku [105,49,54]:=by unfold ku;decide
  rw[KT (by decide) (by decide) (by decide),(Yb g).1,(Yb (A:=A) g).2];exact Jhb g u h
 ·obtain⟨A,rfl⟩:=n (by decide);have g:ku [105,51,50]:=by unfold ku;decide
  rw[KT (by decide) (by decide) (by decide),(Yb g).1,(Yb (A:=A) g).2];exact Jhb g u h
 ·obtain⟨A,rfl⟩:=n (by decide);have g:ku [117,56]:=by unfold ku;decide
  rw[KT (by decide) (by decide) (by decide),(Yb g).1,(Yb (A:=A) g).2];exact Jhb g u h
 ·obtain⟨A,rfl⟩:=n (by decide);have g:ku [117,49,54]:=by unfold ku;decide
  rw[KT (by decide) (by decide) (by decide),(Yb g).1,(Yb (A:=A) g).2];exact Jhb g u h
 ·obtain⟨A,rfl⟩:=n (by decide);have g:ku [117,51,50]:=by unfold ku;decide
  rw[KT (by decide) (by decide) (by decide),(Yb g).1,(Yb (A:=A) g).2];exact Jhb g u h
 ·obtain⟨A,B,rfl⟩:=two (by decide);exact i (ks:=[3,3]) (k:=3) (by simp[Yf]) (by decide) (by decide) (by decide) rfl (by decide) (by simp[okS,areZ,Jp])
 ·obtain⟨A,rfl⟩:=n (by decide);rw[KT (by decide) (by decide) (by decide)];exact Jr8 (.inr ⟨rfl,rfl,rfl⟩) u h
 ·obtain⟨A,B,rfl⟩:=two (by decide);have K:Jv o [97,116] args [A,B]=(o,(Y5 [A,B] (areZ [4,2] [A,B])).1,(Y5 [A,B] (areZ [4,2] [A,B])).2):=by
   rw[Js3];unfold Jv;rw[Xd rfl];have:areZ [4,2] [A,B]=(Jp [A,B] 0 4&&Jp [A,B] 1 2):=by
    show(decide (A.a=4)&&(decide (B.a=2)&&true))=_;rw[Gt];rfl
   rw[this];rfl
  rw[K];exact atB8 u h
 ·obtain⟨A,B,rfl⟩:=two (by decide);have N:=w A (Xu ..);by_cases q:A.a=5/\B.a=3
  ·have Q:=N.1.a;rw[q.1]at Q;obtain⟨t,L⟩:∃k,A.c=[k]:=by
    match hx:A.c,Q with
    |[k],_=>simp
   have T:=N.2 t (by grind);obtain⟨o1,o2,_⟩:=X.B T;have K:Jv o [103,101,116] args [A,B]=getR o t (Ku o (o.a.length+1) t).1:=by
    unfold Jv getR;rw[Xa (by decide),Xd rfl];have:kid0 [A,B]=some t:=by show A.c[0]? =_;grind
    rw[this];have:(Jp [A,B] 0 5&&Jp [A,B] 1 3)=true:=by
     show(decide (A.a=5)&&decide (B.a=3))=true
     grind
    grind
   rw[K];exact getB u h q.1 q.2 L o1 o2
  ·have U:areZ [5,3] [A,B]=false:=by
    show(decide (A.a=5)&&(decide (B.a=3)&&true))=false
    grind
   have K:Jv o [103,101,116] args [A,B]=(o,0,17):=by
    unfold Jv;rw[Xa (by decide),Xd rfl];have:(Jp [A,B] 0 5&&Jp [A,B] 1 3)=false:=by
     show(decide (A.a=5)&&decide (B.a=3))=false
     grind
    rw[this]
   rw[K];exact JtU u h U
 ·obtain⟨A,rfl⟩:=n (by decide);exact i (ks:=[6]) (k:=1) (by simp[Yf]) (by decide) (by decide) (by decide) rfl (by decide) (by simp[okS,areZ,Jp])
 ·obtain⟨A,B,rfl⟩:=two (by decide);have N:=w A (Xu ..);obtain⟨a0,P,rfl⟩:∃a b,args=[a,b]:=by
   have O:args.length=2:=O
   match args,O with
   |[a,b],_=>simp
  by_cases q:A.a=6
  ·have Q:=N.1.a;rw[q]at Q;obtain⟨t,L⟩:∃k,A.c=[k]:=by
    match hx:A.c,Q with
    |[k],_=>simp
   have K:Jv o [111,114,101,108,115,101] [a0,P] [A,B]=if P=t then(o,t,0)else(o,0,17):=by
    unfold Jv;rw[Xa (by decide),Xa (by decide),Xd rfl];have:kid0 [A,B]=some t:=by show A.c[0]? =_;grind
    rw[this];have:Jp [A,B] 0 6=true:=Xo q
    grind
   rw[K];exact orB u h q L
  ·have K:Jv o [111,114,101,108,115,101] [a0,P] [A,B]=(o,0,17):=by
    unfold Jv;rw[Xa (by decide),Xa (by decide),Xd rfl];have:Jp [A,B] 0 6=false:=Xq q;rw[this]
   rw[K];exact orB0 u h q
theorem Jk2 (b:OfF f k){args:List Nat}(c:∀a∈args,a<k.a.length):JbK k args (args.map (Jg k)):=by
 refine⟨by simp,fun i h d=> ?_⟩;obtain⟨o1,o2,o3,_⟩:=b.B (c _ (Xh h))
 grind
theorem ofKC {nm:Str}{args:List Nat}{sg:Tb->List Nat->List Nat->Nat×Int}(b:TabU v s z k)(q:OfF f k)(M:f.c=[])(m:SlAt (fun r=>¬s r) v i 1 (ints args))(K:∀a∈args,a<k.a.length):
  Dz 126 [.e z 0,ofL nm,i] v (Ans s v z (ofK sg k nm args)):=by
 have t:sigI k nm=none:=q.l.a nm (by grind);by_cases p:isBi nm=true
 ·by_cases u:args.length=KE nm
  ·have n:ofK sg k nm args=Jv k nm args (args.map (Jg k)):=by
    unfold ofK
    grind
   rw[n];refine ofB b t p (fun S=> ?_) ?_ m (Jk2 q K) fun S e G h=>Jra (b.A G) q h rfl K u p
   ·have:=Jr7 nm S;rw[<-u]at this;exact this
   ·rw[u];unfold KE;grind
  ·have n:ofK sg k nm args=(k,0,18):=by
    unfold ofK
    grind
   rw[n];refine Jl (aT Tryz.func126 rfl) rfl ?_;have o:=m.G;rw[JS]at o;have j:JU .g=some (.d .i64 0, .a):=rfl;have w:¬((args.length:Nat):Int)=(KE nm:Nat):=by omega
   simp only[CT,Tryz.f126,XY,simprocAttr];rw[Ja];simp[XY];rw[Ja];simp[XY];refine Jc (JpL nm b t) ?_;rintro _ _ ⟨rfl,rfl⟩;simp[XY];rw[Ja];simp[XY,j];rw[Je];simp[XY];rw[Ja];simp[XY];refine Jc (Jcw nm v b.1) ?_;rintro _ L ⟨x,rfl⟩;rw[show(Ks nm&&Lib.contains Yr (32::(nm++[32])))=true from p];simp[XY];refine Jc (Jr7 nm L) ?_;rintro _ _ ⟨rfl,rfl⟩;simp[XZ,o,w];exact Ans.A b x
 ·have y:(Ks nm&&Lib.contains Yr (32::(nm++[32])))=false:=by simpa[isBi]using p
  have n:ofK sg k nm args=(k,0,15):=by
   unfold ofK
   grind
  rw[n];refine Jl (aT Tryz.func126 rfl) rfl ?_;have j:JU .g=some (.d .i64 0, .a):=rfl;simp only[CT,Tryz.f126,XY,simprocAttr];rw[Ja];simp[XY];rw[Ja];simp[XY];refine Jc (JpL nm b t) ?_;rintro _ _ ⟨rfl,rfl⟩;simp[XY];rw[Ja];simp[XY,j];rw[Je];simp[XY];rw[Ja];simp[XY];refine Jc (Jcw nm v b.1) ?_;rintro _ L ⟨x,rfl⟩;rw[y];simp[XZ];exact Ans.A b x
theorem _root_.Eva.RunA.H {d:St}(h:RunA s v y P z k)(b:Ans P y z S i d):Ans s v z S i d:=by
 obtain⟨c,f,t,g,e⟩:=b;have:=h.A ⟨c,t,g⟩;exact⟨this.ch,f,this.tab,this.a,e⟩
theorem Ans.B {x:Tb×Nat×Int}(k:Ans s v z x i y):∃a,RunA s v y a z x.1/\i= .p [.d .i64 (x.2.1:Nat), .d .i64 x.2.2]:=by
 obtain⟨c,a,t,b,e⟩:=k;exact⟨a,⟨c,t,b⟩,e⟩
def fitO :Nat->Opn->Prop
 |0,_=>True
 |d+1, .mk _ _ path _ _ _ p=>path.length<100000/\p.length<100000/\∀c∈p,c.length<100000/\∀o∈c,fitO d o
def JpM (s:Sch)(f:EnvS->Tb->Opn->Ans3)(d:Nat):Prop:=∀(S:St) (U:Pt->Prop) (rt:Pt) (tb:Tb) (e:List V) (E:EnvS) (ov:List V) (o:Opn),TabU S U rt tb->OfF s tb->EnvC (fun r=>¬U r) S e E->EnvK tb E->OprC (fun r=>¬U r) S d ov o->fitO d o->
 Dz 84 [.j e, .e rt 0, .j ov] S (Ans U S rt (f E tb o))
def iz0 (l:List Nat):List V:=l.map fun n:Nat=>V.d .i64 (n:Int)
theorem qS (l:List Nat):(iz0 l).length=l.length:=by simp[iz0]
theorem Jcy (l:List Nat):(ints l).flatten=iz0 l:=by
 induction l with
 |nil=>rfl
 |cons a r b=>show[V.d .i64 (a:Int)]++(ints r).flatten=_;rw[b];rfl
theorem Jj2 (l:List Nat):okC (ints l):=JdT l
theorem Jni (e c:List Nat):JF (JF (List.replicate (e.length+c.length) (V.d .i64 0)) 0 (ints e).flatten) e.length (ints c).flatten=iz0 (e++c):=by
 have f:∀(a b:List V),JF (JF (List.replicate (a.length+b.length) (V.d .i64 0)) 0 a) a.length b=a++b:=fun a b=>by simp[JL]
 have:=f (iz0 e) (iz0 c);rw[qS,qS]at this;rw[Jcy,Jcy,this];simp[iz0]
theorem LstAt.J {α:Type}{C:List V->α->Prop}{st:St}{v:V}{z:Nat}{x:α}{l:List α}(h:LstAt C P st v z (x::l)):∃b,(∀S':St,QV S' z v (some (.d .i64 1)) none none=some (b, .a))/\LstAt C P st b z l:=by
 obtain⟨es,e,f,j⟩:=h;obtain⟨b,c,g,_⟩:=Je0 e (k:=1) (by grind);have c:QV st z v (some (.d .i64 1)) none none=some (b, .a):=c;refine⟨b,fun _=>c,es.drop 1,g,by simp[f],fun i h m=> ?_⟩
 grind
theorem Jhc {f:Tb->Opn->Ans3}{tb0 a:Tb}{r l:List Opn}(h:Qt f tb0 l=(match Qt f a (c::r)with
  |(t,x,e)=>(t,n++x,e))):Qt f tb0 l=if(f a c).2.2≠0 then((f a c).1,n,(f a c).2.2)else(match Qt f (f a c).1 r with
  |(t,x,e)=>(t,(n++[(f a c).2.1])++x,e)):=by
 rw[h,Qt]
 grind
theorem Js4 {g j l m q r:V}(h:OprC s v b [i,g,j,l,m,q,r] c):(i.B=true/\i.A=some [i])/\(g.B=true/\g.A=some [g])/\(j.B=true/\j.A=some [j])/\(l.B=true/\l.A=some [l])/\(m.B=true/\m.A=some [m])/\(q.B=true/\q.A=some [q])/\(r.B=true/\r.A=some [r]):=by
 cases b with
 |zero=>exact h.elim
 | succ b=>
   obtain⟨k,w,t,a,n,f,p⟩:=c;obtain⟨Q,S,e,u,x⟩:=h;injection e with y e;injection e with z e;injection e with K e;injection e with L e;injection e with M e;injection e with N e;injection e with O _;subst y;subst z;subst K;subst L;subst M;subst N;subst O;exact⟨⟨rfl,rfl⟩,⟨rfl,rfl⟩,⟨u.B,u.A⟩,⟨rfl,rfl⟩,⟨rfl,rfl⟩,⟨rfl,rfl⟩,x.G⟩
theorem JtV (h:OprC s v b e c)(j:e.length=7):e[3]=ofL c.s:=by
 cases b with
 |zero=>exact h.elim
 | succ b=>
   obtain⟨k,i,g,a,n,f,p⟩:=c;obtain⟨l,m,rfl,q,r⟩:=h;rfl
theorem slA {c:Nat}(h:v.A z= .a b (iz0 n++List.replicate 1 i))(d:n.length=c):SlAt (fun _=>True) v (.m z 0 c 1 (c+1)) 1 (ints n):=by
 subst d;refine⟨fun e f=> ?_, .inr ⟨z,0,trivial, .inr ⟨n.length+1,by rw[JS];omega,by rw[JS]⟩,_, .inl ⟨b,h⟩, ?_, ?_⟩⟩
 ·exact Jb5 _ e f
 ·rw[JS];simp[qS]
 ·rw[JS,Jcy,XQ,Gf,ZR (by rw[qS];omega),Xr (by rw[qS];omega)]
theorem JtW (br:JpM f g b)(hf:∀E,Jfs f E (g E) fun _=>True){sg:Tb->List Nat->List Nat->Nat×Int}(bt:f.c=[]){tb:Tb}{E:EnvS}{lv:V}{o:Opn}{r:List Opn}{K:List Nat}(hT:TabU v s z tb)(hO:OfF f tb)(hE:EnvC (fun r=>¬s r) v e E)(hK:EnvK tb E)
  (hv:LstAt (OprC (fun r=>¬s r) v b) (fun r=>¬s r) v i 7 (o::r)) (au:∀o∈r,fitO b o) (hn:r.length<100000) (hl:SlAt (fun r=>¬s r) v lv 1 (ints K)) (cp:K.length<=1) (cq:∀a∈K,a<tb.a.length):
  Dz 83 [.j e, .e z 0, .j [i],lv] v (Ans s v z (Jmw sg (g E) tb o.s K r)):=by
 refine Jl (aT Tryz.func83 rfl) rfl ?_;unfold Jmw;have hw:=hT.1;have bu:=hE;obtain⟨vv,nv,rfl,h1,h2⟩:=hE;have c1:=h1.A;have c2:=h1.B;have c3:=h2.G.2;have c4:=h2.G.1;have d1:=hv.G.2;have d2:=hv.G.1;have av:=hv.H;have bv:(o::r).length=r.length+1:=rfl;rw[bv]at av;have aw:=hl.G;rw[JS]at aw;obtain⟨n0,ax⟩:=nxE v;simp only[CT,Tryz.f83,XY,simprocAttr];rw[Ja];simp[XY,ax,c2,c4,d2];generalize bw:up 0 n0=p4;generalize bx:up 1 n0=Z;refine nm2 hw ax bw bx ?_;intro S1 G1 bz b0 _ ⟨t4,r4⟩ ⟨t6,r6⟩;have ay:IntKind.i64.wrap (((r.length+1:Nat):Int)-1)=(r.length:Int):=by rw[JV (by omega) (by omega)];omega
 obtain⟨n1,az⟩:=nxE S1;have b1:=Jpi (st:=S1) (n:=r.length) (c:=r.length+1) (by omega) (by omega);rw[Ja];simp only[XY,simprocAttr,r6,av,ay,b1,az];generalize b2:up 0 n1=W;refine nm1 G1.D az b2 ?_;intro S2 G2 a0 ⟨tA,rA⟩;have b3:=G1.B G2;have a8:v.A W= .none:=G1.I a0;have r42:=G2.A r4;have r62:=G2.A r6;have b4:p4≠W:=fun e=>Jb r4 (by grind);have b5:Z≠W:=fun e=>Jb r6 (by grind);have w2:=G2.D;have u4:¬s p4:=hT.B bz;have u6:¬s Z:=hT.B b0;have uA:¬s W:=hT.B a8;obtain⟨a9,ba,bb⟩:=LstAt.J hv;have b6:=bb.H;refine Jz (fun X S'=>X 1= .e z 0/\X 3=lv/\X 6= .e Z 0/\X 10= .m W 0 r.length 1 (r.length+1)/\∃(T:Pt->Prop) (O:Tb) (N:List Nat) (t:Nat),RunA s v S' T z O/\OfF f O/\tb.a.length<=O.a.length/\S'.A Z= .a t6 [i]/\S'.A W= .a t (iz0 N++List.replicate 1 (.d .i64 0))/\N.length=r.length/\(∀a∈N,a<O.a.length)/\¬T W/\Qt (g E) tb r=(O,N,0)) (fun J hJ=> ?_) ?_
 ·rw[Ja];simp[XY,r62,ba,b6];refine Jy (fun j X S'=>X 1= .e z 0/\X 3=lv/\X 4= .e p4 0/\X 6= .e Z 0/\X 10= .m W 0 r.length 1 (r.length+1)/\X 26=a9/\X 27= .d .i64 (r.length:Nat)/\∃(w:Nat) (T:Pt->Prop) (O:Tb) (N:List Nat) (t:Nat),j+w=r.length/\X 28= .d .i64 (w:Nat)/\RunA s v S' T z O/\OfF f O/\tb.a.length<=O.a.length/\S'.A p4= .a t4 [.d .i64 (E.c:Nat),vv,nv]/\S'.A Z= .a t6 [i]/\S'.A W= .a t (iz0 N++List.replicate (r.length+1-w) (.d .i64 0))/\N.length=w/\(∀a∈N,a<O.a.length)/\(¬T p4/\¬T Z/\¬T W)/\Qt (g E) tb r=(match Qt (g E) O (r.drop w)with
   |(t,x,e)=>(t,N++x,e))) r.length (by omega) ⟨rfl,rfl,rfl,rfl,rfl,rfl,rfl,0,s,tb,[],tA,by omega,by rfl,(RunA.D hT).I b3,hO,Xb _,r42,r62,by rw[rA];rfl,rfl,fun a c=>by(cases c),⟨u4,u6,uA⟩,by rfl⟩ ?_
  rintro L hL j X S3 ⟨f1,f3,f4,f6,aa,bc,am,w,T,O,N,t,hj,ag,R,ad,ae,s4,s6,sA,Q,ao,⟨v4,v6,vA⟩,M⟩;by_cases hi:w<r.length;rotate_left
  ·rw[Xs (by omega)]at M;have M:Qt (g E) tb r=(O,N,0):=by rw[M];simp[Qt]
   have:r.length+1-w=1:=by omega
   rw[this]at sA;simp[XZ,am,ag,hi];exact hJ _ _ ⟨f1,f3,f6,aa,T,O,N,t,R,ad,ae,s6,sA,by omega,ao,vA,M⟩
  have ap:=wiN (i:=w) (by omega);rw[Xc hi]at M;have M:=Jhc M;have kp:=R.B;have b7:EnvC (fun r=>¬T r) S3 [.d .i64 (E.c:Nat),vv,nv] E:=bu.A fun r a y=>⟨(kp r y a).2,(kp r y a).1⟩
  have bd:LstAt (OprC (fun r=>¬T r) S3 b) (fun r=>¬T r) S3 a9 7 r:=bb.B (fun _ _ h=>OprC.A (fun r a y=>⟨(kp r y a).2,(kp r y a).1⟩) h) fun r a y=>⟨(kp r y a).2,(kp r y a).1⟩
  obtain⟨q,oo,en,a1,a2,a3,a4,a5,a6,_⟩:=bd.A hi;have be:=au _ (Xh hi);generalize hx:r[w]=x at a5 M be;obtain⟨y0,y1,y2,y3,y4,y5,y6,rfl⟩:∃y0 y1 y2 y3 y4 y5 y6,en=[y0,y1,y2,y3,y4,y5,y6]:=by
   match en,a6 with
   |[y0,y1,y2,y3,y4,y5,y6],_=>simp
  obtain⟨m1,m2,m3,m4,m5,m6,m7⟩:=Js4 a5;obtain⟨n3,af⟩:=nxE S3;have w3:=R.tab.1;rw[Ja];simp[XY,am,ag,hi];rw[Je];simp[XY];rw[Je];simp[XY];rw[Ja];simp[XY,bc,ag,a1,a4,af,m1,m2,m3,m4,m5,m6,m7];generalize bf:up 0 n3=cr;refine nmA w3 af bf ?_;intro S4 G4 co ⟨t12,r12⟩;have R4:=R.I G4;have bg:=G4.A s4;have b8:=G4.A s6;have aq:=G4.A sA;rw[Ja];simp[XY,f1,f4,bg,r12];refine Jc (br S4 T z O _ E _ x R4.tab ad (b7.A G4.H) (hK.A ae) (OprC.A G4.H a5) be) ?_;intro vo S5 hA;obtain⟨U5,R5,rfl⟩:=hA.B;have ab:=hf E O x trivial ad (hK.A ae);generalize g E O x=fx at ab M R5;obtain⟨b9,id,er⟩:=fx;simp only at ab M R5⊢;have ah:=R4.A R5;have Y:∀{p:Pt} {t:Nat} {l:List V},S4.A p= .a t l->¬T p->S5.A p= .a t l/\¬U5 p:=fun{p t l} h n=>⟨by rw[(R5.B p (Jb h) n).1];exact h,(R5.B p (Jb h) n).2⟩
  obtain⟨ca,cb⟩:=Y bg v4;obtain⟨cc,cd⟩:=Y b8 v6;obtain⟨ai,bh⟩:=Y aq vA;simp[XY];by_cases he:er=0;rotate_left
  ·rw[Xd he]at M;rw[Je,Ja];simp[XY,he];rw[Ja];simp[XZ];rw[M];simp[he];exact⟨ah.ch,U5,ah.tab,ah.a,rfl⟩
  subst he;rw[Xa (fun k=>k rfl)]at M;have bi:r.length+1-w=(r.length-w)+1:=by omega
  rw[bi]at ai;have ia:Jo 1 (.m W 0 r.length 1 (r.length+1)) (.d .i64 (w:Nat))=some (.e W w, .a):=by
   simp[Jo,QZ,hi]
  have bj:w+1<=(iz0 N++List.replicate ((r.length-w)+1) (V.d .i64 0)).length:=by simp[qS,Q]
  have ce:JF (iz0 N++List.replicate ((r.length-w)+1) (V.d .i64 0)) w [V.d .i64 (id:Nat)]=iz0 (N++[id])++List.replicate (r.length-w) (.d .i64 0):=by
   have:=JjH (iz0 N) (r.length-w) (.d .i64 0) (.d .i64 (id:Nat));rw[qS,Q]at this;rw[this];simp[iz0]
  rw[Je,Ja];simp[XM];simp only[XM,simprocAttr,aa,ag,ia,ai,bj,ce,ap];have c6:Ch (fun r=>r=W) S5 (S5.D W t fun u=> .a u (iz0 (N++[id])++List.replicate (r.length-w) (V.d .i64 0))):=(Ch.G (fun r=>r=W) R5.tab.1).J (Jb ai) (by rw[ai];rfl) (.inl rfl) (Jd _);have ar:r.length+1-(w+1)=r.length-w:=by omega
  refine⟨r.length-(w+1),by omega,hL _ _ _ ⟨f1,f3,f4,f6,aa,bc,am,w+1,U5,b9,N++[id],_,by omega,rfl,ah.G a8 bh c6,ab.b,X0 ae ab.f,by rw[Ji _ _ _ b4];exact ca,by rw[Ji _ _ _ b5];exact cc,by rw[Jk,ar],by grind,fun a ha=> ?_,⟨cb,cd,bh⟩,M⟩⟩;rcases Xy.1 ha with ha|ha
  ·exact X6 (ao a ha) ab.f
  ·rw[Xn.1 ha];exact ab.g rfl
 rintro X S3 ⟨f1,f3,f6,aa,T,O,N,t,R,ad,ae,s6,sA,Q,ao,vA,M⟩;rw[M];simp;have w3:=R.tab.1;obtain⟨n3,af⟩:=nxE S3;have lA:JU (.m W 0 r.length 1 (r.length+1))=some (.d .i64 (r.length:Nat), .a):=rfl;have bk:IntKind.i64.wrap ((r.length:Int)+(K.length:Int))=((r.length+K.length:Nat):Int):=by rw[JV (by omega) (by omega)];omega
 have bl:=Jpi (st:=S3) (n:=r.length+K.length) (c:=r.length+K.length) (Xb _) (by omega);rw[Ja];simp only[XY,simprocAttr,f3,aa,lA,aw,bk,bl,af];generalize cf:up 0 n3=pB;refine nm1 w3 af cf ?_;intro S4 G4 ak ⟨tB,rB⟩;have R4:=R.I G4;have aq:=G4.A sA;have vB:¬T pB:=R.tab.B ak;have bm:v.A pB= .none:=R.ch.B ak;have cs:W≠pB:=fun e=>Jb sA (by grind);have bn:Z≠pB:=fun e=>Jb s6 (by grind);rw[Ja];simp[XY,aa];refine Jd0 G4.D (slA aq Q) (fun _ _=>rfl) (Jj2 _) rB (by simp) (by rw[JS];omega) ?_;intro S5 ct C5 cg;rw[JS,Q];have R5:=R4.G bm vB C5;have al:=cut9 (r:=pB) (k:=r.length) (n:=r.length+K.length) (by omega);have bo:r.length+K.length-r.length=K.length:=by omega
 rw[bo]at al;simp[XY,f3,al];have cj:=R5.B;have ck:SlAt (fun r=>¬T r) S5 lv 1 (ints K):=cj.J hl;refine Jd0 C5.D ck (fun _ _=>rfl) (Jj2 _) cg ?_ (by rw[JS];omega) ?_
 ·rw[JL];grind
 intro S6 cl C6 bp;rw[<-Q,Jni]at bp;have R6:=R5.G bm vB C6;have aj:=R6.B;have w6:=C6.D;have cm:S6.A Z= .a t6 [i]:=by
  have e5:S5.A Z=S4.A Z:=C5.d Z (Jb (G4.A s6)) bn;rw[C6.d Z (by rw[e5];exact Jb (G4.A s6)) bn,e5];exact G4.A s6
 have cn:LstAt (OprC (fun r=>¬T r) S6 b) (fun r=>¬T r) S6 i 7 (o::r):=hv.B (fun _ _ h=>OprC.A (fun r a y=>⟨(aj r y a).2,(aj r y a).1⟩) h) fun r a y=>⟨(aj r y a).2,(aj r y a).1⟩
 obtain⟨q,oo,en,a1,a2,a3,a4,a5,a6,a7⟩:=cn.A (i:=0) (by simp);have a1:Jo 7 i (.d .i64 0)=some (.e q oo, .a):=a1;have hs:ld1 (S6.A q) (oo+3)=some (ofL o.s, .a):=by
  have:=a7 3 (by omega);rw[this];congr 2;exact JtV a5 a6
 have bq:SlAt (fun r=>¬T r) S6 (.m pB 0 (r.length+K.length) 1 (r.length+K.length)) 1 (ints (N++K)):=by
  have:=SlAt.J (P:=fun r=>¬T r) (es:=ints (N++K)) (z:=1) (st:=S6) (r:=pB) (t:=cl) (by rw[bp,Jcy]) vB (Jb5 _);rw[JS,X7,Q]at this;omega
 simp[XY];rw[Ja];simp[XY,f1,f6,cm,a1,hs];refine Jc (ofKC (sg:=sg) (nm:=o.s) R6.tab ad bt bq fun a ha=> ?_) ?_
 ·grind
 intro vo S7 hA;have hA:=R6.H hA;obtain⟨U7,R7,rfl⟩:=Ans.B hA;simp[XZ];exact hA
theorem _root_.Eva.EnvC.B {E:EnvS}(k:Kept v s y P)(h:EnvC (fun r=>¬s r) v e E):EnvC (fun r=>¬P r) y e E:=h.A fun r a b=>⟨(k r b a).2,(k r b a).1⟩
theorem _root_.Eva.PipC.B {d:Nat}(k:Kept v s y P)(h:PipC (fun r=>¬s r) v d i w):PipC (fun r=>¬P r) y d i w:=PipC.A h fun r a b=>⟨(k r b a).2,(k r b a).1⟩
theorem Jr9 (h:OprC s v b e c)(j:e.length=7):e[0]= .d .i64 c.k:=by
 cases b with
 |zero=>exact h.elim
 | succ b=>
   obtain⟨k,i,g,a,n,f,p⟩:=c;obtain⟨l,m,rfl,q,r⟩:=h;rfl
def fitP (d:Nat)(p:Pipe):Prop:=p.length<100000/\∀c∈p,c.length<100000/\∀o∈c,fitO d o
theorem pipC (av:JpM f g b)(hf:∀E,Jfs f E (g E) fun _=>True){sg:Tb->List Nat->List Nat->Nat×Int}(aw:f.c=[]){E:EnvS}(hT:TabU v s z k)(hO:OfF f k)(hE:EnvC (fun r=>¬s r) v e E)(hK:EnvK k E)
  (hp:PipC (fun r=>¬s r) v b i w) (ax:fitP b w):
  Dz 39 [.e z 0, .j e,i] v (Ans s v z (pipS sg (g E) k [] w)):=by
 refine Jl (aT Tryz.func39 rfl) rfl ?_;have hw:=hT.1;have bc:=hE;obtain⟨vv,nv,rfl,h1,h2⟩:=hE;have c1:=h1.A;have c2:=h1.B;have c3:=h2.G.2;have c4:=h2.G.1;have lp:=LstAt.H hp;obtain⟨bm,bd⟩:=ax;obtain⟨n0,ay⟩:=nxE v;simp only[CT,Tryz.f39,XY,simprocAttr];rw[Ja];simp[XY,ay,c2,c4];generalize be:up 0 n0=p4;refine nm1 hw ay be ?_;intro S1 G1 bf ⟨t4,r4⟩;rw[Ja];simp[XY];refine Jz (fun fr S'=>∃(U':Pt->Prop) (X:Tb) (Q:List Nat) (lv:V),fr 8=lv/\RunA s v S' U' z X/\SlAt (fun r=>¬U' r) S' lv 1 (ints Q)/\pipS sg (g E) k [] w=pipS sg (g E) X Q []) (fun J hJ=> ?_) ?_;rotate_left
 ·rintro fr S' ⟨U',X,Q,lv,f8,R,hl,T⟩;rw[T];have ll:=hl.G;rw[JS]at ll
  cases Q with
  | nil=>
    have ll:JU lv=some (.d .i64 0, .a):=ll;simp[XZ,f8,ll];exact⟨R.ch,U',R.tab,R.a,rfl⟩
  | cons x r=>
    have hz:¬((r.length+1:Nat):Int)=0:=by omega
    have ll:JU lv=some (.d .i64 ((r.length+1:Nat):Int), .a):=ll;obtain⟨q,oo,a1,a2,a3,a4⟩:=SlAt.M (xs:=(x::r).map fun n:Nat=>V.d .i64 (n:Int)) (i:=0) hl (by simp);have a1:Jo 1 lv (.d .i64 0)=some (.e q oo, .a):=a1;simp at a4;simp only[XZ,simprocAttr,f8,ll,hz,a1,a4];exact⟨R.ch,U',R.tab,R.a,rfl⟩
 rw[Ja];simp[XY,lp];refine Jy (fun j fr S'=>fr 0= .e z 0/\fr 4= .e p4 0/\fr 13=i/\fr 14= .d .i64 (w.length:Nat)/\∃(u:Nat) (U':Pt->Prop) (X:Tb) (Q:List Nat) (lv:V),j+u=w.length/\fr 15= .d .i64 (u:Nat)/\fr 8=lv/\RunA s v S' U' z X/\OfF f X/\k.a.length<=X.a.length/\S'.A p4= .a t4 [.d .i64 (E.c:Nat),vv,nv]/\¬U' p4/\SlAt (fun r=>¬U' r) S' lv 1 (ints Q)/\Q.length<=1/\(∀a∈Q,a<X.a.length)/\pipS sg (g E) k [] w=pipS sg (g E) X Q (w.drop u)) w.length (by omega) ⟨rfl,rfl,rfl,rfl,0,s,k,[], .g,by omega,by rfl,rfl,(RunA.D hT).I G1,hO,Xb _,r4,hT.B bf,SlAt.K _ _ _,XC _,fun a c=>by(cases c),rfl⟩ ?_;rintro L hL j fr S2 ⟨f0,f4,ad,ab,u,U',X,Q,lv,hj,aa,f8,R,ao,aj,s4,v4,hl,bg,az,T⟩;by_cases hi:u<w.length;rotate_left
 ·rw[Xs (by omega)]at T;simp[XZ,ab,aa,hi];exact hJ _ _ ⟨U',X,Q,lv,f8,R,hl,T⟩
 have ap:=wiN (i:=u) (by omega);rw[Xc hi,pipS]at T;have kp:=R.B;have bh:PipC (fun r=>¬U' r) S2 b i w:=PipC.B kp hp;obtain⟨q,oo,en,a1,a2,a3,a4,a5,a6,_⟩:=LstAt.A bh hi;obtain⟨g1,g2⟩:=bd _ (Xh hi);generalize w[u]=c at a5 T g1 g2;obtain⟨ov,rfl,ak⟩:=a5;have m1:=ak.G.1;have m2:=ak.G.2;have af:=ak.H;obtain⟨n2,a0⟩:=nxE S2;have w2:=R.tab.1;rw[Ja];simp[XY,ab,aa,hi];rw[Je];simp[XY];rw[Je];simp[XY];rw[Ja];simp[XY,ad,aa,a1,a4,a0,m1];generalize a7:up 0 n2=bn;refine nmA w2 a0 a7 ?_;intro S3 G3 bl ⟨t10,r10⟩;have R3:=R.I G3;have ag:=G3.A s4;rw[Ja];simp[XY];rw[Ja];simp[XY];have ah:=Jft (SgOK.A (sg:=sg) aw) (hf E) az ao (hK.A aj) c fun _ _=>trivial;generalize Y:cmdS sg (g E) X Q c=x at T ah;obtain⟨aq,id,er⟩:=x;simp only at T ah;refine Jz (fun fr S'=>fr 0= .e z 0/\fr 4= .e p4 0/\fr 13=i/\fr 14= .d .i64 (w.length:Nat)/\fr 15= .d .i64 (u:Nat)/\fr 12= .d .i64 er/\(er=0->fr 11= .d .i64 (id:Nat))/\∃(U2:Pt->Prop),RunA s v S' U2 z aq/\S'.A p4= .a t4 [.d .i64 (E.c:Nat),vv,nv]/\¬U2 p4) (fun J3 ai=> ?_) ?_;rotate_left
 ·rintro fr S4 ⟨f0,f4,ad,ab,aa,a8,ar,U2,R4,bi,bj⟩;by_cases he:er=0;rotate_left
  ·rw[Xd he]at T;rw[T];simp[XZ,a8,he];exact⟨R4.ch,U2,R4.tab,R4.a,rfl⟩
  subst he;have ar:=ar rfl;rw[Xa (fun N=>N rfl)]at T;obtain⟨n4,au⟩:=nxE S4;have w4:=R4.tab.1;rw[Je,Ja];simp[XY,a8];simp[XY,ar,aa,au];rw[ap];have G5:Gr S4 (S4.B fun t=> .a t [.d .i64 (id:Nat)]):=Gr.G w4 (Jd _);have a9:SlAt (fun r=>¬U2 r) (S4.B fun t=> .a t [.d .i64 (id:Nat)]) (.m (up 0 n4) 0 1 1 1) 1 (ints [id]):=by
   have:=Ql (st:=S4) (z:=1) (e:=[.d .i64 (id:Nat)]) rfl;rw[au]at this;exact this.D fun r a O=>⟨by rw[a,<-au];exact R4.tab.B (J9 w4),rfl⟩
  exact⟨w.length-(u+1),by omega,hL _ _ _ ⟨f0,f4,ad,ab,u+1,U2,aq,[id],_,by omega,rfl,rfl,R4.I G5,ah.b,X0 aj ah.f,G5.A bi,bj,a9,Xb _,fun a ha=>by rw[Xn.1 ha];exact ah.g rfl,T⟩⟩
 simp[XY];have ae:=hl.G;rw[JS]at ae;have Z:∀{fr:Fr} {S':St} {U2:Pt->Prop},RunA U' S3 S' U2 z aq->S'.A p4= .a t4 [.d .i64 (E.c:Nat),vv,nv]/\¬U2 p4:=fun{fr S' U2} R'=>⟨by rw[(R'.B p4 (Jb ag) v4).1];exact ag,(R'.B p4 (Jb ag) v4).2⟩
 cases c with
 | nil=>
   have af:JU ov=some (.d .i64 0, .a):=af;injection Y with e1 e2;injection e2 with e2 e3;subst e1;subst e2;subst e3;simp[XZ,r10,af];exact ai _ _ ⟨f0,f4,ad,ab,aa,rfl,fun h=>by rfl,U',R3,ag,v4⟩
 |cons o r=>
 have hz:¬((r.length+1:Nat):Int)=0:=by omega
 have af:JU ov=some (.d .i64 ((r.length+1:Nat):Int), .a):=af;have am:LstAt (OprC (fun r=>¬U' r) S3 b) (fun r=>¬U' r) S3 ov 7 (o::r):=ak.B (fun _ _ h=>OprC.A G3.H h) G3.H;obtain⟨q0,o0,en,b1,b2,b3,b4,b5,b6,b7⟩:=LstAt.A am (i:=0) (by simp);have b1:Jo 7 ov (.d .i64 0)=some (.e q0 o0, .a):=b1;simp at b5;have hk:ld1 (S3.A q0) o0=some (.d .i64 o.k, .a):=by
  have:=b7 0 (by omega);rw[GW]at this;rw[this,Jr9 b5 b6]
 have ba:EnvC (fun r=>¬U' r) S3 [.d .i64 (E.c:Nat),vv,nv] E:=EnvC.B R3.B bc;have bk:SlAt (fun r=>¬U' r) S3 lv 1 (ints Q):=hl.H G3;rw[Ja];simp only[XY,simprocAttr,r10,af,hz];rw[cmdS]at Y;by_cases al:o.k=6
 ·rw[Xd al]at Y;rw[Ja];simp only[XY,simprocAttr,r10,b1,hk,al];simp[XZ,f0,f4,f8,ag,r10];refine Jc (JtW av hf (sg:=sg) aw R3.tab ao ba (hK.A aj) am (fun x hx=>g2 x (Xl _ hx)) (by grind) bk bg az) ?_;intro vo S4 hA;rw[Y]at hA;obtain⟨U4,R4,rfl⟩:=Ans.B hA;simp[XZ];exact ai _ _ ⟨f0,f4,ad,ab,aa,rfl,fun _=>rfl,U4,R3.A R4,(Z (fr:=fr) R4).1,(Z (fr:=fr) R4).2⟩
 ·rw[Xa al]at Y;rw[Ja];simp[XY,r10,b1,hk,al];rw[Ja];simp[XY,f0,f4,ag,r10,b1,b4];refine JW (W:=U') R3.tab.1 ((av {S3 with a:=S3.t} U' z X _ E en o (Qj R3.tab (Js R3.tab.1 _)) ao (ba.A kR) (hK.A aj) (OprC.A (st:=S3) (st':={S3 with a:=S3.t}) kR b5) (g2 o (Xu ..))).A fun P v h=>⟨h.1,h.2⟩) ?_;rintro _ S4 lo C4 ⟨U4,T4,K4,rfl⟩;have R4:RunA U' S3 {S4 with a:=lo} U4 z (g E X o).1:=⟨C4,Qj T4 C4.D,K4⟩
  generalize g E X o=y at Y R4⊢;obtain⟨bo,bp,e1⟩:=y;simp at Y R4⊢;by_cases he:e1=0
  ·subst he
   cases Q with
   | nil=>
     have ae:JU lv=some (.d .i64 0, .a):=ae;rw[Xa (fun h=>h.2 rfl)]at Y;injection Y with x1 x2;injection x2 with x2 x3;subst x1;subst x2;subst x3;have bb:¬(0:Int)>0:=by omega
     simp[XZ,f8,ae,bb];exact ai _ _ ⟨f0,f4,ad,ab,aa,rfl,fun _=>rfl,U4,R3.A R4,(Z (fr:=fr) R4).1,(Z (fr:=fr) R4).2⟩
   | cons x l=>
     have ae:JU lv=some (.d .i64 ((l.length+1:Nat):Int), .a):=ae;rw[Xd ⟨rfl,by simp⟩]at Y;injection Y with x1 x2;injection x2 with x2 x3;subst x1;subst x2;subst x3;have bb:((l.length+1:Nat):Int)>0:=by omega
     simp[XZ,f8,ae];exact ai _ _ ⟨f0,f4,ad,ab,aa,rfl,fun h=>by(cases h),U4,R3.A R4,(Z (fr:=fr) R4).1,(Z (fr:=fr) R4).2⟩
  ·rw[Xa (fun h=>he h.1)]at Y;injection Y with x1 x2;injection x2 with x2 x3;subst x1;subst x2;subst x3;simp[XZ,he];exact ai _ _ ⟨f0,f4,ad,ab,aa,rfl,fun _=>rfl,U4,R3.A R4,(Z (fr:=fr) R4).1,(Z (fr:=fr) R4).2⟩
theorem JpN (a:Int)(b:TabU v s z k):Dz 127 [.e z 0, .d .i64 a] v (Ans s v z (layS k ⟨a,[],[],[]⟩)):=Jr6 a b
theorem Jsa {s:Sch}{sg:Tb->List Nat->List Nat->Nat×Int}(i:s.c=[]):∀d,JpM s (opnS sg d) d
 |0=>fun _ _ _ _ _ _ _ _ _ _ _ _ h _=>h.elim
 | d+1=>by
   intro S U rt tb e E ov o P Q hE hK ho l;have ih:=Jsa (sg:=sg) i d;refine Jl (aT Tryz.func84 rfl) rfl ?_;have hw:=P.1;have T:=hE;have W:=ho;obtain⟨vv,nv,rfl,h1,h2⟩:=hE;obtain⟨k,m,q,X,n,b,p⟩:=o;obtain⟨f1,f2,f3⟩:=l;obtain⟨pv,qv,rfl,hp,Y⟩:=ho;have c1:=h1.A;have c2:=h1.B;have c3:=h2.G.2;have c4:=h2.G.1;have d1:=hp.A;have d2:=hp.B;have d3:=Y.G.2;have d4:=Y.G.1;obtain⟨n0,t⟩:=nxE S;simp only[CT,Tryz.f84,XY,simprocAttr];rw[Ja];simp[XY,t,c2,c4,d2,d4];generalize Z:up 0 n0=p3;generalize aa:up 1 n0=p5;refine nm2 hw t Z aa ?_;intro S1 g ad ae _ ⟨t3,r3⟩ ⟨t5,r5⟩;have j:=P.A g;have u:EnvC (fun r=>¬U r) S1 [.d .i64 (E.c:Nat),vv,nv] E:=T.A g.H;have ab:OprC (fun r=>¬U r) S1 (d+1) [.d .i64 k,ofL m,pv,ofL X, .d .i64 n, .h b,qv] (.mk k m q X n b p):=OprC.A g.H W;rw[opnS];by_cases w:k=2
   ·rw[Xd w];simp[XZ,r5,w];refine Jc (JpN 3 j) ?_;intro x v f;have f:=Ans.D g f;obtain⟨y,z,rfl⟩:=Ans.B f;simp[XZ];exact f
   rw[Xa w];by_cases L:k=3
   ·rw[Xd L];simp[XZ,r5,L];refine Jc (JpN 2 j) ?_;intro x v f;have f:=Ans.D g f;obtain⟨y,z,rfl⟩:=Ans.B f;simp[XZ];exact f
   rw[Xa L];by_cases M:k=4
   ·rw[Xd M];simp[XZ,r5,M];refine Jc (JpN 1 j) ?_;intro x v f;have f:=Ans.D g f;obtain⟨y,z,rfl⟩:=Ans.B f;simp[XZ];exact f
   rw[Xa M];by_cases N:k=5
   ·rw[Xd N];simp[XZ,r3,r5,N];refine Jc (pipC ih (jn (SgOK.A (sg:=sg) i) d) (sg:=sg) i j Q u hK (Y.B (fun _ _ h=>h.A (fun _ _ h=>OprC.A g.H h) g.H) g.H) ⟨f2,f3⟩) ?_;intro x v f;have f:=Ans.D g f;obtain⟨y,z,rfl⟩:=Ans.B f;simp[XZ];exact f
   rw[Xa N];by_cases O:k=6
   ·rw[Xd O];simp[XZ,r5,O];refine Jc (ofKC (sg:=sg) (nm:=X) (args:=[]) j Q i (SlAt.K _ _ _) fun a c=>by cases c) ?_;intro x v f;have f:=Ans.D g f;obtain⟨y,z,rfl⟩:=Ans.B f;simp[XZ];exact f
   rw[Xa O];simp[XZ,r3,r5,w,L,M,N,O];refine Jc (JtS j Q u hK ab f1) ?_;rintro _ v ⟨G2,rfl⟩;simp[XZ];exact Ans.A P (g.B G2)
theorem JtX {sg:Tb->List Nat->List Nat->Nat×Int}(a:f.c=[]){m:Nat}{E:EnvS}(d:TabU v s z k)(g:OfF f k)(h:EnvC (fun r=>¬s r) v e E)(l:EnvK k E)(n:PipC (fun r=>¬s r) v m i w)(b:fitP m w):
  Dz 39 [.e z 0, .j e,i] v (Ans s v z (ofS sg m E k w)):=pipC (Jsa a m) (jn (SgOK.A (sg:=sg) a) m) a d g h l n b
theorem nodW {rt:Pt}{names:List Str}{cs:Cls}{id:Nat}(hW:WkU v s z rt k i names cs m)(hO:OfF f k)(hid:id<k.a.length):
  Dz 85 [.e z 0, .d .i64 (id:Nat)] v fun h X=>Gr v X/\∃x y,h= .j [.d .i64 (Jg k id).a,ofL (Jg k id).d,x,y]/\SlAt (fun r=>v.A r= .none) X x 1 (strs (Jg k id).b)/\SlAt (fun r=>v.A r= .none) X y 1 (ints (Jg k id).c):=by
 have hw:=hW.D;refine Jn tabM (aT Tryz.func85 rfl) rfl hw fun K q=> ?_;obtain⟨U0,cv,tw,hT,h2,h3,h4,h5⟩:=hW.i;obtain⟨o1,o2,o3,o4,o5,o6⟩:=hO.B hid;obtain⟨n0,L⟩:=nxE v;simp only[CT,Tryz.f85,XY,simprocAttr];rw[Ja];simp[XY,L];generalize Y:up 0 n0=Z;refine nm1 hw L Y ?_;intro S1 p ab ⟨t4,r4⟩;have w1:=p.A h3;have d4:Z≠z:=fun e=>Jb h3 (by grind);rw[Ja];simp[XY,w1];refine Jc (Jj1 (hT.A p) o1) ?_;rintro _ _ ⟨rfl,rfl⟩;simp[XY];rw[Je,Ja];simp[XY];rw[Ja];simp[XY,w1];refine Jc (JmK (hT.A p) o2) ?_;rintro _ n ⟨T2,O,e,rfl,x,y,rfl,P,Q⟩;rw[Jha hO hid o2]at P Q⊢;generalize Jg k id=N at P Q q o3 o4 o5 o6⊢;have c1:=P.A;have c2:=P.B;have c3:=Q.A;have c4:=Q.B;have r42:=O.A r4;obtain⟨n2,o⟩:=nxE n;have aa:=fun l=>nes (Jr O.D o (Jb r42) l);simp[XZ,o,c2,c4,r42,aa];have G3:Gr n ((n.B fun t=>Row.a t [.d .i64 0,ofL [], .g, .g]).D (up 0 n2) n.t fun u=>Row.a u [.d .i64 N.a,ofL N.d,x,y]):=(Gr.F O.D).M o (Jd _) (Jd _);have T:∀{t:Nat} {r:Pt},S1.A r= .none->n.A r≠ .none->(((n.B fun t=>Row.a t [.d .i64 0,ofL [], .g, .g]).D (up 0 n2) n.t fun u=>Row.a u [.d .i64 N.a,ofL N.d,x,y]).D Z t fun u=>Row.a u [.d .i64 N.a,ofL N.d,x,y]).A r=n.A r:=fun{t r} m b=>by
  rw[Ji _ _ _ (fun e=>Jb r4 (by grind)),G3.d r b]
 have W:∀r,S1.A r= .none->v.A r= .none:=fun r e=>p.I e;refine q _ _ (fun r e=> ?_) fun g=>⟨x,y,rfl,P.D fun r m b=>⟨W r m,T m b⟩,Q.D fun r m b=>⟨W r m,T m b⟩⟩
 have e4:r≠Z:=fun c=>e (by grind);rw[Ji _ _ _ e4,G3.d r (by rw[(p.B O).d r e];exact e),(p.B O).d r e]
theorem Jnj (h:SlAt s v i 1 (strs d))(g:d.length<100000):Dz 141 [i,ofL p] v fun u j=>u= .h (decide (p∈d))/\v=j:=by
 refine Jl (aT Tryz.func141 rfl) rfl ?_;simp only[CT,Tryz.f141,XZ,simprocAttr];refine Jc (Jk1 h g) ?_;rintro _ _ ⟨rfl,rfl⟩;have this:∀(l:List Str),(fstN p l=none<->p∉l):=by
  intro l
  induction l with
  |nil=>simp[fstN]
  | cons b r k=>
    rw[fstN];by_cases c:b=p
    ·simp[c]
    ·rw[Xa c];simp[k,GO]
     grind
 unfold idxV
 cases m:fstN p d with
 | none=>
   have e:=(this d).1 m;have f:¬(-1:Int)≥0:=by omega
   simp[XZ,e]
 | some a=>
   have e:p∈d:=Xf fun h=>by grind
   have f:(a:Int)≥0:=by omega
   simp[XZ,f,e]
def AnsW (U:Pt->Prop)(S:St)(w rt:Pt)(nv:V)(names:List Str)(tb:Tb)(cs:Cls)(a code:Int)(v:V)(S':St):Prop:=∃U',RunW U S S' U'/\WkU S' U' w rt tb nv names cs a/\v= .d .i64 code
theorem JtY {Q:Pt}{names:List Str}{t:Cls}{E:EnvS}{n:Nod}{d id:Nat}(hW:WkU v s z Q k i names t m)(hE:EnvC (fun r=>¬s r) v e E)(hn:NodC (fun r=>¬s r) v b d x n)(aa:names.length<100000)(ah:t.length<100000):
  Dz 91 [.e z 0, .j e, .j x, .d .i64 (id:Nat)] v (AnsW s v z Q i names k (if n.A∈names then t++[(n.A,if n.B=[]then E.c else id)]else t) m (if n.A∈names then 0 else 15)):=by
 have hw:=hW.D;refine Jl (aT Tryz.func91 rfl) rfl ?_
 cases d with
 |zero=>exact hn.elim
 |succ d=>
 obtain⟨f,at_,sx,M,Y,ag,ai,he,cases⟩:=n;obtain⟨pv,bv,ev,xv,rfl,y1,y2,y3,y4⟩:=hn;obtain⟨vv,aj,rfl,z1,z2⟩:=hE;have c1:=z1.A;have c2:=z1.B;have c3:=z2.G;have c4:=LstAt.G y1;have c5:=y2.G;have c6:=y3.G;have c7:=y4.G;have N:=LstAt.H y1;obtain⟨U0,cv,tw,hT,h2,h3,h4,h5⟩:=hW.i;obtain⟨n0,T⟩:=nxE v;simp only[CT,Tryz.f91,XY,simprocAttr];rw[Ja];simp[XY,T,c2,c3.1,c4.1,c5.1,c6.1,c7.1];generalize ab:up 0 n0=p5;generalize ad:up 1 n0=p6;refine nm2 hw T ab ad ?_;intro S1 Z ak al _ ⟨t5,r5⟩ ⟨t6,r6⟩;have w1:=Z.A h3;have W:=hW.B Z;have d6:p6≠z:=fun e=>Jb h3 (by grind);refine Jz (fun fr S'=>fr 0= .e z 0/\fr 3= .d .i64 ((if Y=[]then E.c else id:Nat):Nat)/\fr 6= .e p6 0/\S'=S1) (fun J hJ=> ?_) ?_
 ·cases Y with
  | nil=>
    have N:JU pv=some (.d .i64 0, .a):=N;simp[XZ,r5,r6,N];exact hJ _ _ (by simp[XZ,ZL])
  | cons g l=>
    have hz:¬((l.length+1:Nat):Int)=0:=by omega
    have ae:¬(g::l)=([]:Pipe):=by simp
    have N:JU pv=some (.d .i64 ((l.length+1:Nat):Int), .a):=N;simp[XZ,r6,N];exact hJ _ _ (by simp[XZ,ae,ZL])
 rintro fr S2 ⟨f0,f3,f6,rfl⟩;show wC _ _ _ _ _ (kRet _ (AnsW s v z Q i names k (if M∈names then t++[(M,if Y=[]then E.c else id)]else t) m (if M∈names then 0 else 15)));generalize (if Y=[]then E.c else id)=ty at f3⊢;rw[Je,Ja];simp[XY,f0,f6,w1,r6];refine Jj (P:=fun o _=>o= .h (decide (M∈names))) ((Jnj ((W.j).L _) aa).A fun o S' ⟨m,g⟩=>⟨g▸Gr.F (Js Z.D _),m⟩) ?_;rintro _ S3 u rfl;have p:=Z.B u;have w3:=u.A w1;have r63:=u.A r6;have X:=W.B u;by_cases O:M∈names;rotate_left
 ·rw[Xa O,Xa O];simp[XZ,Xq O];exact⟨s,(RunW.D p),X,rfl⟩
 rw[Xd O,Xd O];obtain⟨n3,q⟩:=nxE S3;have ow:=fun f=>nes (Jr u.D q (Jb w3) f);have o6:=fun f=>nes (Jr u.D q (Jb r63) f);simp[XY,Xo O];rw[Ja];simp[XY,f0,f3,f6,w3,r63,q];have o3:=h4.B fun r e=>p.d r (h4.A e);refine Jay u.D q o3 rfl rfl (by simp[clsE];omega) ?_;intro S4 v4 y K af;have w4:S4.A z= .a tw [.e Q 0,i,cv, .d .i64 m]:=(y.d z (Jb w3) fun e=>(h5 z e).2 rfl).trans w3;have k4:=K.D.A;have k5:=K.D.B;simp[XZ,w4,k4,k5];obtain⟨U',R,hk⟩:=X.J (a':=m) (cs':=t++[(M,ty)]) (hT.A p) h2 h5 y (by rw[clsE,ZA];exact K) af ((Ch.G _ y.D).J (Jb w4) (congrArg _ w4) (.inl rfl) (Jd [.e Q 0,i,v4, .d .i64 m])) (Jk _ _ _ _);exact⟨U',(RunW.D p).A R,hk,rfl⟩
theorem Jnk {E:EnvS}{id:Nat}(hw:WF v)(hE:EnvC s v e E)(hl:E.a.length<2^19):
  Dz 41 [.j e,ofL p, .d .i64 (id:Nat)] v fun b S'=>Gr v S'/\∃e',b= .j e'/\EnvC (fun r=>s r\/v.A r= .none) S' e' (varS E p id):=by
 refine Jn tabM (aT Tryz.func41 rfl) rfl hw fun K aa=> ?_;obtain⟨vv,nv,rfl,L,h2⟩:=hE;have c1:=L.A;have c2:=L.B;have c3:=h2.G;have l1:=L.G;rw[XU]at l1;obtain⟨n0,M⟩:=nxE v;simp only[CT,Tryz.f41,XY,simprocAttr];rw[Ja];simp[XY,M,c2,c3.1];generalize ab:up 0 n0=p4;generalize ad:up 1 n0=y;refine nm2 hw M ab ad ?_;intro S1 N ao ap ae ⟨t4,r4⟩ ⟨t6,r6⟩;obtain⟨n1,O⟩:=nxE S1;have Q:IntKind.i64.wrap ((E.a.length:Int)+1)=((E.a.length+1:Nat):Int):=by rw[JV (by omega) (by omega)];omega
 have af:=JkP (st:=S1) (d:=[ofL [], .d .i64 0]) (z:=2) (n:=E.a.length+1) (by omega) rfl;rw[Ja];simp only[XY,simprocAttr,r4,l1,Q,af,O];generalize ag:up 0 n1=i;refine nm1 N.D O ag ?_;intro S2 Z k ⟨tA,rA⟩;have r42:=Z.A r4;have r62:=Z.A r6;have T:p4≠i:=fun e=>Jb r4 (by grind);have U:y≠i:=fun e=>Jb r6 (by grind);have W:=N.B Z;rw[Ja];simp[XY,r42];have o:∀x∈E.a.map varE,x.length=2:=L.1;have ah:JF (List.replicate (E.a.length+1) [ofL [],V.d .i64 0]).flatten 0 (E.a.map varE).flatten=(E.a.map varE).flatten++[ofL [], .d .i64 0]:=by
  have:=Jcp (es:=E.a.map varE) (d:=[ofL [], .d .i64 0]) o
  grind
 have X:=Jt o;rw[XU]at X;refine Jd0 Z.D L (fun r e=>W.d r e) (Jcq _) rA (by simp) (by simp) ?_;intro S3 t3 C3 q;rw[ah]at q;have ai:(E.a.length:Int)<((E.a.length+1:Nat):Int):=by omega
 have aj:E.a.length*2+2<=((E.a.map varE).flatten++[ofL [],V.d .i64 0]).length:=by grind
 simp only[XY,simprocAttr,q,XU,ai];refine⟨by omega,aj, ?_⟩;have Y:=JdG (es:=E.a.map varE) (d:=[ofL [], .d .i64 0]) (e:=[ofL p, .d .i64 (id:Nat)]) X rfl;rw[JL]at Y;refine nmW C3.D q ?_;intro S4 C4 ⟨tB,rB⟩;have rB:S4.A i= .a tB ((E.a.map varE).flatten++[ofL p, .d .i64 (id:Nat)]):=rB.trans (congrArg _ Y);have w:=C3.A C4 fun r u=> .inl u;have r44:=(w.d p4 (Jb r42) T).trans r42;have r64:=(w.d y (Jb r62) U).trans r62;have ak:∀r,v.A r≠ .none->S4.A r=v.A r:=fun r l=>by
  have l2:=W.d r l;rw[w.d r (by grind) (fun e=> ?_),l2];rw[e]at l;exact l (N.I k)
 rw[Ja];simp[XY,r44];refine nmW C4.D r44 ?_;intro S5 C5 ⟨tC,rC⟩;have r65:=(C5.d y (Jb r64) fun e=>ae e.symm).trans r64;have al:=(C5.d i (Jb rB) fun e=>T e.symm).trans rB;simp[XZ,rC,r65,c3.1];have dd:∀r,v.A r≠ .none->r≠p4/\r≠y/\r≠i:=fun r l=>⟨fun e=>l (by grind),fun e=>l (by grind),fun e=>l (by rw[e];exact(N.I k))⟩
 have fA:v.A i= .none:=N.I k;have am:i≠y:=fun e=>U e.symm;refine aa _ _ (fun r l=> ?_) fun g=>⟨_,rfl,_,_,rfl, ?_,h2.B (fun _ _ h=>h.A fun r f l=>⟨.inl f,g.d r l⟩) fun r f l=>⟨.inl f,g.d r l⟩⟩
 ·rw[Ji _ _ _ (dd r l).2.1,C5.d r (by grind) (dd r l).1,ak r l]
 ·have hm:=Jmy (st:=S5.D y t6 fun u=>Row.a u [V.d IntKind.i64 ↑E.c,V.m i 0 (E.a.length+1) 2 (E.a.length+1),nv]) (p:=i) (t:=tB) (z:=2) (n:=E.a.length+1) (es:=E.a.map varE) (e:=[ofL p, .d .i64 (id:Nat)]) (by rw[Ji _ _ _ am];exact al) o rfl (by simp);have e1:(varS E p id).a.map varE=E.a.map varE++[[ofL p, .d .i64 (id:Nat)]]:=by unfold varS;rw[ZA];rfl
  rw[e1];exact hm.D fun r f l=>⟨.inr (by grind),rfl⟩
theorem Jd4 (b:u.length=r.length)(h:∀i (h:i<u.length) (f:i<r.length),NarC s v u[i] r[i]):okC u:=fun e c=>by
 obtain⟨i,a,rfl⟩:=ZM.1 c;obtain⟨g,e,d⟩:=h i a (b▸a);rw[e,KN,KN,KN,QB,d.B];rfl
theorem Jrb {E:EnvS}{ne:List V}{x:Int×List Str×Nat}(hw:WF v)(hE:EnvC s v e E)(hN:NarC s v ne x)(hl:E.b.length<2^19):
  Dz 135 [.j e, .j ne] v fun f S'=>Gr v S'/\∃e',f= .j e'/\EnvC (fun r=>s r\/v.A r= .none) S' e' (KB E x):=by
 refine Jn tabM (aT Tryz.func135 rfl) rfl hw fun K ai=> ?_;obtain⟨vv,nv,rfl,h1,h2⟩:=hE;have c1:=h1.A;have c2:=h1.B;have c3:=h2.G;obtain⟨k,k1,M,k3⟩:=h2;have l1:=k1.G;rw[M]at l1;obtain⟨W,rfl,q1⟩:=hN;have q2:=q1.A;have q3:=q1.B;obtain⟨n0,X⟩:=nxE v;simp only[CT,Tryz.f135,XY,simprocAttr];rw[Ja];simp[XY,X,c2,c3.1,q3];generalize aj:up 0 n0=p4;generalize ak:up 1 n0=Y;generalize al:up 2 n0=U;refine nm3 hw X aj ak al ?_;intro S1 Z ⟨ay,az,a0⟩ ⟨a1,am,a2⟩ ⟨t4,r4⟩ ⟨t5,r5⟩ ⟨t6,r6⟩;obtain⟨n1,aa⟩:=nxE S1;have ab:IntKind.i64.wrap ((E.b.length:Int)+1)=((E.b.length+1:Nat):Int):=by rw[JV (by omega) (by omega)];omega
 have ao:=JkP (st:=S1) (d:=[.d .i64 0, .g, .d .i64 0]) (z:=3) (n:=E.b.length+1) (by omega) rfl;rw[Ja];simp only[XY,simprocAttr,r4,l1,ab,ao,aa];generalize ap:up 0 n1=o;refine nm1 Z.D aa ap ?_;intro S2 G2 N ⟨tA,rA⟩;have r42:=G2.A r4;have r62:=G2.A r6;have r52:=G2.A r5;have O:Y≠o:=fun e=>Jb r5 (by grind);have ad:p4≠o:=fun e=>Jb r4 (by grind);have ae:U≠o:=fun e=>Jb r6 (by grind);have af:=Z.B G2;rw[Ja];simp[XY,r42];have Q:∀x∈(k),x.length=3:=k1.1;have aq:JF (List.replicate (E.b.length+1) [V.d .i64 0, .g, .d .i64 0]).flatten 0 k.flatten=k.flatten++[.d .i64 0, .g, .d .i64 0]:=by
  have:=Jcp (es:=k) (d:=[.d .i64 0, .g, .d .i64 0]) Q
  grind
 have ag:=Jt Q;rw[M]at ag;refine Jd0 G2.D k1 (fun r e=>af.d r e) (Jd4 M k3) rA (by simp) (by omega) ?_;intro S3 t3 C3 T;rw[aq]at T;have r53:=(C3.d Y (Jb r52) O).trans r52;have ar:(E.b.length:Int)<((E.b.length+1:Nat):Int):=by omega
 have au:E.b.length*3+3<=(k.flatten++[V.d .i64 0, .g, .d .i64 0]).length:=by grind
 simp only[XY,simprocAttr,T,M,ar,r53];refine⟨by omega,⟨au,q3⟩,JQ (v:= .m o 0 (E.b.length+1) 3 (E.b.length+1)) (w:= .e Y 0) (q:=Y) (by rfl) (by rfl) rfl (fun e=>O (by injection e with e;grind)), ?_⟩;have ah:=JdG (es:=k) (d:=[.d .i64 0, .g, .d .i64 0]) (e:=[.d .i64 x.1,W, .d .i64 (x.2.2:Nat)]) ag rfl;rw[JL]at ah;refine nmW C3.D T ?_;intro S4 C4 ⟨tB,rB⟩;have rB:S4.A o= .a tB (k.flatten++[.d .i64 x.1,W, .d .i64 (x.2.2:Nat)]):=rB.trans (congrArg _ ah);have L:=C3.A C4 fun r u=> .inl u;have r44:=(L.d p4 (Jb r42) ad).trans r42;have r54:=(L.d Y (Jb r52) O).trans r52;have r64:=(L.d U (Jb r62) ae).trans r62;have av:∀r,v.A r≠ .none->S4.A r=v.A r:=fun r l=>by
  have l2:=af.d r l;rw[L.d r (by grind) (fun e=> ?_),l2];rw[e]at l;exact l (Z.I N)
 rw[Ja];simp[XY,r44];refine nmW C4.D r44 ?_;intro S5 C5 ⟨tC,rC⟩;have r65:=(C5.d U (Jb r64) fun e=>am e.symm).trans r64;have aw:=(C5.d o (Jb rB) fun e=>ad e.symm).trans rB;simp[XZ,rC,r65,c2];have dd:∀r,v.A r≠ .none->r≠p4/\r≠U/\r≠o:=fun r l=>⟨fun e=>l (by grind),fun e=>l (by grind),fun e=>l (by rw[e];exact(Z.I N))⟩
 have fA:v.A o= .none:=Z.I N;have ax:o≠U:=fun e=>ae e.symm;refine ai _ _ (fun r l=> ?_) fun g=>⟨_,rfl,_,_,rfl,h1.D fun r p l=>⟨.inl p,g.d r l⟩,k++[[.d .i64 x.1,W, .d .i64 (x.2.2:Nat)]], ?_,by simp[KB,M],fun i h h'=> ?_⟩
 ·rw[Ji _ _ _ (dd r l).2.1,C5.d r (by grind) (dd r l).1,av r l]
 ·have hm:=Jmy (st:=S5.D U t6 fun u=>Row.a u [V.d IntKind.i64 ↑E.c,vv,V.m o 0 (E.b.length+1) 3 (E.b.length+1)]) (p:=o) (t:=tB) (z:=3) (n:=E.b.length+1) (es:=k) (e:=[.d .i64 x.1,W, .d .i64 (x.2.2:Nat)]) (by rw[Ji _ _ _ ax];exact aw) Q rfl (by rw[M]);exact hm.D fun r p l=>⟨.inr (by grind),rfl⟩
 ·have kk:∀{e y},NarC s v e y->NarC (fun r=>s r\/v.A r= .none) _ e y:=fun h=>h.A fun r p l=>⟨.inl p,g.d r l⟩
  by_cases c:i<k.length
  ·have c':i<E.b.length:=M▸c;have e1:(KB E x).b[i]=E.b[i]:=Xx c'
   grind
  ·have hi:i=k.length:=by grind
   subst hi;have e1:(KB E x).b[k.length]=x:=by simp[KB,M]
   rw[e1,XG (Xb _)];simp;exact kk ⟨W,rfl,q1⟩
theorem JpO (f:WF v)(k:NarC P v e j):Dz 138 [.j e] v fun a m=>Gr v m/\a= .h (decide (j.1= -1)):=by
 refine Jn tabM (aT Tryz.func138 rfl) rfl f fun K b=> ?_;obtain⟨o,rfl,i⟩:=k;have p:=i.A;have n:=i.B;obtain⟨q,c⟩:=nxE v;simp only[CT,Tryz.f138,XZ,simprocAttr,c,n];refine b _ _ (fun r l=> ?_) fun g=>rfl;exact(Gr.G f (Jd _)).d r l
theorem Jrc (M:WF v)(h:LstAt (NarC P v) P v i 3 r)(W:r.length<100000):Dz 169 [i, .D 138 [] []] v fun u s=>Gr v s/\u= .d .i64 (match dotI r with
  |some a=>(a:Int)
  |none=> -1):=by
 refine Jl (aT Tryz.func169 rfl) rfl ?_;have k:=h.H;simp only[CT,Tryz.f169,XY,simprocAttr];rw[Ja];simp[XY];rw[Je,Ja];simp[XY,k];refine Jy (fun j m s=>∃a:Nat,j+a=r.length/\m 0=i/\m 1= .D 138 [] []/\m 7= .d .i64 (r.length:Nat)/\m 8= .d .i64 (a:Nat)/\Gr v s/\dotI r=(dotI (r.drop a)).map (·+a)) r.length (by omega) ⟨0,by omega,rfl,rfl,rfl,by rfl,Gr.F M,by simp⟩ ?_;rintro L hL j m y ⟨a,X,z,K,t,p,n,f⟩;by_cases w:a<r.length;rotate_left
 ·rw[Xs (by omega)]at f;have f:dotI r=none:=f;simp[XZ,t,p,w,f];exact n
 have x:(a:Int)<r.length:=by omega
 have g:=wiN (i:=a) (by omega);have N:LstAt (NarC P y) P y i 3 r:=LstAt.B h (fun _ _ h=>h.A n.H) n.H;obtain⟨b,q,e,O,Y,Z,Q,T,a6,a7⟩:=N.A w;rw[Xc w,dotI]at f;rw[Ja];simp only[XY,simprocAttr,t,p];rw[Je];simp only[XY,simprocAttr,x];rw[Je];simp only[XY,simprocAttr];rw[Ja];simp[XY];rw[Ja];simp[XY,z,K,p,O,Q];refine Jc (JpO n.D T) ?_;rintro _ S2 ⟨U,rfl⟩;have o:=n.B U;by_cases c:r[a].1= -1
 ·rw[Xd c]at f;have f:dotI r=some a:=by grind
  simp[XZ,c,f];exact o
 ·rw[Xa c]at f;simp[XZ,c,g,p];exact⟨r.length-(a+1),by omega,hL _ _ _ ⟨a+1,by omega,z,K,t,rfl,o,by rw[f,Hi];congr 1;grind⟩⟩
theorem JpP (X:Gr v y)(h:SlF v y i 3 u)(N:u.length=r.length)(hk:∀f (h:f<u.length) (h':f<r.length),NarC (fun m=>P m/\v.A m≠ .none) v u[f] r[f])(hl:r.length<100000):
  Dz 136 [i, .D 138 [] []] y fun n Y=>Ch (fun p=>rowOf i=some p) y Y/\LstAt (NarC (fun m=>P m/\v.A m≠ .none) v) (fun m=>v.A m= .none) Y n 3 (offD r):=by
 have hw:=X.D;refine Jl (aT Tryz.func136 rfl) rfl ?_;have aj:LstAt (NarC (fun m=>P m/\v.A m≠ .none) y) (fun m=>v.A m= .none) y i 3 r:=⟨u,h.D,N,fun f a b=>(hk f a b).A X.H⟩
 simp only[CT,Tryz.f136,XY,simprocAttr];rw[Ja];simp[XY];rw[Ja];simp[XY];refine Jc (Jrc (P:=fun m=>(P m/\v.A m≠ .none)\/v.A m= .none) hw (LstAt.B aj (fun _ _ h=>h.A fun m p e=>⟨.inl p,rfl⟩) fun m p e=>⟨.inr p,rfl⟩) hl) ?_;rintro _ S1 ⟨G1,rfl⟩;have g1:=X.B G1;have h1:SlF v S1 i 3 u:=h.G G1
 cases hd:dotI r with
 | none=>
   simp[XZ];refine⟨Ch.H _ G1, ?_⟩;rw[Jg2 hd];exact⟨u,h1.D,N,hk⟩
 |some Z=>
 obtain⟨av,ak⟩:=Jg3 hd;have h0:¬((Z:Nat):Int)= -1:=by omega
 have O:=wiN (i:=Z) (by omega);simp[XY];rw[Je,Ja];simp[XY,h0];rw[Je,Ja];simp[XY,O];refine Jy (fun q fr Y=>∃(f j:Nat) (s:List (List V)) (o:List (Int×List Str×Nat)),q+f=r.length/\j<f/\fr 0=i/\fr 1= .D 138 [] []/\fr 5= .d .i64 (j:Nat)/\fr 6= .d .i64 (f:Nat)/\Ch (fun p=>rowOf i=some p) y Y/\SlF v Y i 3 s/\s.length=r.length/\o.length=r.length/\(∀f (h:f<s.length) (h':f<o.length),NarC (fun m=>P m/\v.A m≠ .none) v s[f] o[f])/\o.take j=offD (r.take f)/\o.drop f=r.drop f) (r.length-(Z+1)) (by omega) ⟨Z+1,Z,u,r,by omega,by omega,rfl,rfl,rfl,rfl,Ch.H _ G1,h1,N,rfl,hk,ak.symm,rfl⟩ ?_;rintro L hL q fr S2 ⟨f,j,s,o,hq,aw,Q,f1,f5,f6,C2,T,aa,al,hn,ab,ad⟩;have ae:=T.D.G;rw[aa]at ae;rw[Je,Ja];simp only[XY,simprocAttr,Q,f6,ae];have am:∀m,v.A m≠ .none->S2.A m=v.A m:=fun m e=>by
  rw[C2.d m (by rw[X.d m e];exact e) (Qm T e),X.d m e]
 by_cases hi:f<r.length;rotate_left
 ·have ao:¬(f:Int)<r.length:=by omega
  have ap:f=r.length:=by omega
  rw[ap,Zf]at ab;obtain⟨v2,m,hr,ax,hc,aq⟩:=Jpk C2.D T (d:=[.d .i64 0, .g, .d .i64 0]) (k:=j) rfl rfl (by omega);simp only[XZ,simprocAttr,ao,Q,f5,hc,Jpj];refine aq fun S3 C3 s3=> ?_;obtain⟨v3,h3,a3,_⟩:=JeZ s3.D (k:=j) (by grind);simp[XZ,Q,f5,h3];refine⟨C2.A C3 fun r' e=> .inl (by grind),_,a3, ?_, ?_⟩
  ·grind
  grind
 have w:=wiN (i:=f) (by omega);have U:=wiN (i:=j) (by omega);have h2:LstAt (NarC (fun m=>P m/\v.A m≠ .none) S2) (fun m=>v.A m= .none) S2 i 3 o:=⟨s,T.D,by omega,fun f a b=>(hn f a b).A fun m p e=>⟨p,am m e⟩⟩
 have af:f<o.length:=by omega
 obtain⟨m,q',e,a1,a2,a3,a4,a5,a6,a7⟩:=h2.A af;have e3:e=s[f]'(by omega):=by
  obtain⟨r',q2,b1,_,_,b4,_⟩:=T.D.I (i:=f) (by omega)
  grind
 obtain⟨K,he,q1⟩:=a5;have q2:=q1.A;have q3:=q1.B;rw[he]at a4;obtain⟨n2,ag⟩:=nxE S2;simp[XY,hi];rw[Je];simp[XY];rw[Ja];simp[XY,Q,f6,a1,a4,ag,q3];generalize ar:up 0 n2=p7;refine nmA C2.D ag ar ?_;intro S3 G3 ay ⟨t7,r7⟩;rw[Ja];simp[XY,f1,r7];refine Jc (JpO G3.D (P:=fun m=>P m/\v.A m≠ .none) ⟨K,rfl,q1.H G3⟩) ?_;rintro _ S4 ⟨G4,rfl⟩;have ah:=G3.B G4;have r74:=G4.A r7;have ai:=T.G ah;have C4:=C2.I ah;have az:o[f]=r[f]:=by
  have:=congrArg (fun x=>x[0]?) ad
  grind
 have M:o.drop (f+1)=r.drop (f+1):=by
  have:=congrArg (List.drop 1) ad
  rwa [ZH,ZH]at this
 have z:offD (r.take (f+1))=offD (r.take f)++(if o[f].1= -1 then[]else[o[f]]):=by
  rw[XD hi];unfold offD
  grind
 by_cases c:o[f].1= -1
 ·rw[Xd c,ZC]at z;simp[XZ,c,w,f6];exact⟨r.length-(f+1),by omega,hL _ _ _ ⟨f+1,j,s,o,by omega,by omega,Q,f1,f5,rfl,C4,ai,aa,al,hn,by grind,M⟩⟩
 rw[Xa c]at z;obtain⟨r0,t0,o1,o2,o3,o4,o5,o6⟩:=Jmp ai (k:=j) (by omega);have W:j*3+3<=s.flatten.length:=by rw[Jt T.1];omega
 simp only[XZ,simprocAttr,c,r74,Q,f5,f6,o3,o4,q3,w,U];have au:∀S5:St,S5=(S4.D r0 t0 fun n=>Row.a n (JF s.flatten (j*3) [V.d IntKind.i64 o[f].fst,K,V.d IntKind.i64 ↑o[f].snd.snd]))->Ch (fun p=>rowOf i=some p) y S5/\SlF v S5 i 3 (s.set j [V.d IntKind.i64 o[f].fst,K,V.d IntKind.i64 ↑o[f].snd.snd]):=fun S5 e5=>by
  subst e5;refine⟨C4.J (Jb o3) (by rw[o3];rfl) (.inl o1) (Jd _), ?_⟩;have:=o6 (S4.D r0 t0 fun n=>Row.a n (JF s.flatten (j*3) [V.d IntKind.i64 o[f].fst,K,V.d IntKind.i64 ↑o[f].snd.snd])) S4.t 0 [V.d IntKind.i64 o[f].fst,K,V.d IntKind.i64 ↑o[f].snd.snd] (by simp) (Jk _ _ _ _);have e6:JF s[j] 0 [V.d IntKind.i64 o[f].fst,K,V.d IntKind.i64 ↑o[f].snd.snd]=[V.d IntKind.i64 o[f].fst,K,V.d IntKind.i64 ↑o[f].snd.snd]:=by
   rw[JL];simp[o5]
  grind
 obtain⟨k1,k2⟩:=au _ rfl;refine⟨W,r.length-(f+1),by omega,hL _ _ _ ⟨f+1,j+1,s.set j [V.d IntKind.i64 o[f].fst,K,V.d IntKind.i64 ↑o[f].snd.snd],o.set j o[f],by omega,by omega,Q,f1,rfl,rfl,k1,k2,by grind,by grind,fun k a b=> ?_, ?_, ?_⟩⟩
 ·grind
 ·rw[z,<-ab,XD (by grind),List.getElem_set_self,List.take_set_of_le (Xb _)]
 ·rw[List.drop_set_of_lt (by omega),M]
theorem Jsb {E:EnvS}{id:Nat}(hw:WF v)(hE:EnvC s v e E)(hl:E.b.length<100000):
  Dz 89 [.j e, .d .i64 (id:Nat)] v fun c S'=>Gr v S'/\∃e',c= .j e'/\EnvC (fun r=>s r\/v.A r= .none) S' e' (KJ E id):=by
 refine Jn tabM (aT Tryz.func89 rfl) rfl hw fun K N=> ?_;obtain⟨vv,nv,rfl,O,h2⟩:=hE;have c1:=O.A;have c2:=O.B;have c3:=h2.G;obtain⟨Q,k1,k2,k3⟩:=h2;obtain⟨n0,q⟩:=nxE v;simp only[CT,Tryz.f89,XY,simprocAttr];rw[Ja];simp[XY,q,c2,c3.1];generalize T:up 0 n0=w;generalize U:up 1 n0=m;refine nm2 hw q T U ?_;intro S1 G1 ad ae x ⟨t4,r4⟩ ⟨t6,r6⟩;rw[Ja];simp[XY,r4];refine nmW G1.D r4 ?_;intro k W ⟨af,r42⟩;have r62:=(W.d m (Jb r6) fun e=>x e.symm).trans r6;have y:Ch (fun _=>False) v k:=(Ch.H (fun _=>False) G1).A W fun r e=> .inr (by grind);have n:∀r,v.A r≠ .none->k.A r=v.A r:=fun r e=>y.d r e fun h=>h;have X:SlAt (fun r=>s r/\k.A r≠ .none) k nv 3 Q:=k1.D fun r p e=>⟨⟨p,by grind⟩,n r e⟩
 have z:∀i (h:i<Q.length) (h':i<E.b.length),NarC (fun r=>(s r/\v.A r≠ .none)/\k.A r≠ .none) k Q[i] E.b[i]:=fun i a b=>(k3 i a b).A fun r p e=>⟨⟨⟨p,e⟩,by grind⟩,n r e⟩
 rw[Ja];simp[XY,r42];refine Jc (JpF (by simp) W.D X (Jd4 k2 z) (by omega)) ?_;rintro cv S3 ⟨o,s3⟩;simp[XY];refine Jc (JpP (P:=fun r=>s r/\v.A r≠ .none) o s3 k2 z hl) ?_;rintro u S4 ⟨M,L4⟩;have Y:=fun r (e:k.A r≠ .none)=>Qm s3 e;have r44:=(M.d w (Jb (o.A r42)) (Y w (Jb r42))).trans (o.A r42);have r64:=(M.d m (Jb (o.A r62)) (Y m (Jb r62))).trans (o.A r62);have l1:=L4.G;simp[XY,r44,l1.1,l1.2];refine nmW M.D r44 ?_;intro S5 Z ⟨t5,r5⟩;have r65:=(Z.d m (Jb r64) fun e=>x e.symm).trans r64;simp[XZ,r5,r65,c2,l1.1];have n4:k.A w≠ .none:=Jb r42;have n6:k.A m≠ .none:=Jb r62;have aa:∀r,k.A r= .none->v.A r= .none:=fun r e=>y.B e;have dd:∀r,v.A r≠ .none->r≠w/\r≠m:=fun r l=>⟨fun e=>l (by grind),fun e=>l (by grind)⟩
 have ab:∀r,k.A r≠ .none->S4.A r=k.A r:=fun r e=>(M.d r (by rw[o.d r e];exact e) (Y r e)).trans (o.d r e);have L:∀r t f,v.A r≠ .none->(S5.D m t f).A r=v.A r:=fun r t f l=>by
  have l2:=n r l;have l4:=(ab r (by grind)).trans l2;rw[Ji _ _ _ (dd r l).2,Z.d r (by grind) (dd r l).1,l4]
 refine N _ _ (fun r l=>L r _ _ l) fun g=>⟨_,rfl,_,_,rfl,O.D fun r p l=>⟨.inl p,g.d r l⟩,LstAt.B L4 (fun _ _ h=>h.A fun r p l=> ?_) fun r p l=> ?_⟩
 ·grind
 ·have e4:r≠w:=fun e=>n4 (by grind);have e6:r≠m:=fun e=>n6 (by grind);exact⟨.inr (aa r p),by rw[Ji _ _ _ e6,Z.d r l e4]⟩
end Go.Proofs.YtmcjecniobkggaaGreat
