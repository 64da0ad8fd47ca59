/- The document's way to tell Opts in Opts. All types of a schema: the document's. The doc -/
import Derived.Test.YtdajkeoobbonjaaGreatQ1
set_option linter.constructorNameAsVariable false
set_option maxHeartbeats 16000000
set_option linter.unusedVariables false
set_option linter.unusedSimpArgs false
set_option linter.unusedSectionVars false
set_option maxRecDepth 100000
namespace Go.Proofs.YtdajkeoobbonjaaGreat
open Eva Go.RowKit
variable {P Q b:Pt->Prop}{v:List V}{e p:St}{n:Nat}{t:List Ty}{k:Sch}{z q:V}{d:List (List V)}{i:List Nd}{r:Pt}
theorem Jf3 (l:List (Str×Ty))(t:Ty){i:Nat}(h:(KL l i t).A≠9):∀j,KL l (i+j) t=KL l i t
 |0=>rfl
 | j+1=>by
   rw[<-ZZ,ji,Jf3 l t h j,Xa h]
theorem JtF {E m:List V}{s:Sch}{t:Ty}(hw:WF e)(h:SchC P e E s)(ht:TyC P e m t)(hP:∀r,P r->e.A r≠ .none)(hl:s.a.length<=100):
  Dz 107 [.j E, .j m] e fun v S=>Gr e S/\∃e',v= .j e'/\TyC P e e' (KL s.a (s.a.length+1) t):=by
 refine Jn tabM (aT Tryz.func107 rfl) rfl hw fun K X=> ?_;obtain⟨n,o⟩:=nxE e;have Y:=h;obtain⟨c,tv,sv,rfl,h1,h2,h3⟩:=h;obtain⟨l,Z⟩:∃l,l=s.a:=⟨_,rfl⟩
 rw[<-Z]at h2 hl X;obtain⟨aa,ab,ay,rfl,x1,x2,x3,x4⟩:=h1.B;have af:=ht;obtain⟨nv,kv,es,rfl,y1,y2,y3,y4⟩:=ht.B;have l1:=h2.H;have az:=x1.A;have ag:=x1.B;have a0:=x2.A;have ah:=x2.B;have ai:=h2.B;have aj:=h3.B;have a1:=y1.A;have ak:=y1.B;have a2:=y2.A;have al:=y2.B;obtain⟨I,hI⟩:=opE fun q S=>(Gr e S/\q 2= .g (up 0 n) 0/\q 3= .g (up 1 n) 0/\q 4= .g (up 2 n) 0/\(∃u,S.A (up 0 n)= .a u [.d .i64 s.b.A,ofL s.b.B,aa,ab,tv,sv])/\(∃u,S.A (up 1 n)= .a u [.d .i64 t.A,ofL t.B,nv,kv])/\(∃u,S.A (up 2 n)= .a u [.d .i64 0,ofL [], .e, .e]))
 simp only[CT,Tryz.f107,XY,simprocAttr];refine YU I ?_ ?_
 ·simp[XZ,o,ag,ah,ai.1,aj.1,ak,al];exact(hI _ _).2 ⟨((Gr.G hw (Jc _)).L (Jc _)).L (Jc _),rfl,rfl,rfl,⟨_,by simp[XZ,o];rfl⟩,⟨_,by simp[XZ,o];rfl⟩,⟨_,by simp[XZ,o];rfl⟩⟩
 intro q S am;obtain⟨g0,x,w,Q,⟨t0,y⟩,⟨t1,z⟩,⟨t2,U⟩⟩:=(hI _ _).1 am;rw[Jd,Ja];simp[XY];have ao:=fun r (m:e.A r≠ .none) (k:Nat)=>Jt hw o m k;have ap:up 0 n≠up 1 n:=by grind
 have aq:up 2 n≠up 1 n:=by rw[Jak];decide
 obtain⟨L,hL⟩:=loE fun j q W=>∃(i:Nat) (c:List V),j+i=l.length+1/\q 2= .g (up 0 n) 0/\q 3= .g (up 1 n) 0/\q 4= .g (up 2 n) 0/\q 5= .d .i64 i/\Gr e W/\(∃u,W.A (up 0 n)= .a u [.d .i64 s.b.A,ofL s.b.B,aa,ab,tv,sv])/\(∃u,W.A (up 1 n)= .a u c)/\(∃u,W.A (up 2 n)= .a u [.d .i64 0,ofL [], .e, .e])/\TyC P e c (KL l i t);refine JD L (l.length+1) (by omega) ((hL _ _ _).2 ⟨0,_,by omega,x,w,Q,by rfl,g0,⟨_,y⟩,⟨_,z⟩,⟨_,U⟩,af⟩) ?_;clear x w Q y z U;intro j q W ar;obtain⟨i,c,hj,x,w,Q,f5,hg,⟨u0,y⟩,⟨u1,z⟩,⟨u2,U⟩,hc⟩:=(hL _ _ _).1 ar;obtain⟨T,hT⟩:∃T,T=KL l i t:=⟨_,rfl⟩
 rw[<-hT]at hc;have M:=ji l i t;rw[<-hT]at M;have a3:=hc;obtain⟨ad,ae,a4,rfl,z1,z2,z3,z4⟩:=hc.B;have d1:=z1.A;have d2:=z1.B;have d3:=z2.A;have d4:=z2.B;have done:KL l (l.length+1) t=T->K (.j [.d .i64 T.A,ofL T.B,ad,ae]) (W.D (up 2 n) u2 fun u=> .a u [.d .i64 T.A,ofL T.B,ad,ae]):=fun hh=>by
  refine X _ _ (fun r m=> ?_) fun _=>⟨_,rfl,by grind⟩
  rw[Jj _ _ _ (ao r m 2),hg.d r m]
 by_cases hi:i<=l.length
 ·by_cases k9:T.A=9
  ·have N:=wiN (i:=i) (by omega);simp[XZ,x,w,f5,y,l1,hi,z,k9];refine Je (JsJ (P:=P) (s:=s) T.B hg.D (Y.A hg.H) (by grind)) ?_;rw[<-Z];rintro _ S2 ⟨g2,E',rfl,hE⟩;have hE:TyC P e E' ((defN l T.B).getD QD):=hE.A fun r p m=>⟨p,(hg.d r (hP r p)).symm⟩
   have au:=g2.B y;have O:=g2.B z;have av:=g2.B U;obtain⟨aw,ax,a5,rfl,w1,w2,w3,w4⟩:=hE.B;have e1:=w1.A;have e2:=w1.B;have e3:=w2.A;have e4:=w2.B;have G2:=hg.A g2;have g3:=G2.J (p:=up 1 n) (t:=u1) (f:=fun u=> .a u [.d .i64 ((defN l T.B).getD QD).A,ofL ((defN l T.B).getD QD).B,aw,ax]) (nx0 hw o 1) (Jb O) (by rw[O];rfl) (Jc _);simp[XZ,w,f5,O,e2,e4,N];exact⟨l.length+1-(i+1),by omega,(hL _ _ _).2 ⟨i+1,_,by omega,x,w,Q,rfl,g3,⟨u0,by rw[Jj _ _ _ ap,au]⟩,⟨_,Jh _ _ _ _⟩,⟨u2,by rw[Jj _ _ _ aq,av]⟩,by grind⟩⟩
  ·have a6:KL l (l.length+1) t=T:=by
    have:=Jf3 l t (i:=i) (by grind) (l.length+1-i)
    grind
   simp[XZ,x,w,Q,f5,y,l1,hi,z,U,k9,d2,d4]
   grind
 ·have a7:i=l.length+1:=by omega
  simp[XZ,x,w,Q,f5,y,l1,hi,z,U,d2,d4]
  grind
theorem Jqk :∀(m:Nat) (ty:Ty),tsz ty<m->∀(P:Pt->Prop) (O:St) (s:Sch) (E e:List V),WF O->SchC P O E s->TyC P O e ty->(∀r,P r->O.A r≠ .none)->s.a.length<=100->cntT ty<1000000->okO ty=true->
  Dz 65 [.j E, .j e] O fun v af=>Gr O af/\v= .h (YH s.a ty)
 |0,_,h=>absurd h (by omega)
 | m+1, .mk k nm ns f,hm=>by
   intro P O s E e hw W hx hP hl ag Z;refine Jn tabM (aT Tryz.func65 rfl) rfl hw fun K ah=> ?_;obtain⟨X,aa⟩:=nxE O;have z:=W;obtain⟨c,tv,sv,rfl,h1,h2,h3⟩:=W;obtain⟨ai,aj,ay,rfl,x1,x2,x3,x4⟩:=h1.B;obtain⟨nv,kv,es,rfl,y1,y2,y3,y4⟩:=hx.D;have l2:=y2.G;rw[y3]at l2;have az:=x1.A;have ak:=x1.B;have a0:=x2.A;have al:=x2.B;have am:=h2.B;have ao:=h3.B;have a6:=y1.A;have ap:=y1.B;have a7:=y2.A;have aq:=y2.B;have Q:=JjP s.a k nm ns f;rw[JfC]at Q;rw[JpB,Xk,ZB,Zg,Zg]at Z;have ax:f.length<1000000:=by have h1:=Jcs f;rw[Yy]at ag;omega
   obtain⟨I,hI⟩:=opE fun x S=>(Gr O S/\x 2= .g (up 0 X) 0/\x 3= .g (up 1 X) 0/\(∃u,S.A (up 0 X)= .a u [.d .i64 s.b.A,ofL s.b.B,ai,aj,tv,sv])/\(∃u,S.A (up 1 X)= .a u [.d .i64 k,ofL nm,nv,kv]))
   simp only[CT,Tryz.f65,XY,simprocAttr];refine YU I ?_ ?_
   ·simp[XZ,aa,ak,al,am.1,ao.1,ap,aq];exact(hI _ _).2 ⟨(Gr.G hw (Jc _)).L (Jc _),rfl,rfl,⟨_,by simp[XZ,aa];rfl⟩,⟨_,by simp[XZ,aa];rfl⟩⟩
   intro x S ad;obtain⟨U,M,y,⟨t0,r0⟩,⟨t1,r1⟩⟩:=(hI _ _).1 ad;have ar:∀b,YH s.a (.mk k nm ns f)=b->∀l,Gr S l->K (.h b) l:=fun b hb l g=>ah _ _ (fun r e=>(U.A g).d r e) fun _=>by rw[hb]
   have ae:∀{l:St} {i:Nat} (N:i<f.length),Gr S l->∃q o E,Js 4 kv (.d .i64 i)=some (.g q o, .a)/\ldn (l.A q) o 4=some (.j E, .a)/\TyC P l E f[i]:=fun{l i} N g=>by
    have G:=U.A g;have au:LstAt (TyC P l) P l kv 4 f:=⟨es,y2.I G,y3,fun i a b=>(y4 i a b).H G⟩
    obtain⟨q,qo,E',a1,a2,a3,a4,hE,e4,a5⟩:=au.A N
    grind
   have PS:∀{l:St},Gr S l->∀r,P r->l.A r≠ .none:=fun g r p=>by rw[(U.A g).d r (hP r p)];grind
   refine Ju (fun x l=>(Gr S l/\x 2= .g (up 0 X) 0/\x 3= .g (up 1 X) 0/\YH s.a (.mk k nm ns f)=f.any (YH s.a))) (fun J hJ=> ?_) ?_
   ·by_cases k6:k=6
    ·have h0:0<f.length:=Z.1.resolve_left fun h=>h k6;obtain⟨q,o,E',a1,a2,a3⟩:=ae h0 (Gr.F U.D);have a1:Js 4 kv (.d .i64 0)=some (.g q o, .a):=a1;have hd:f.headD QD=f[0]:=by cases f with
      |nil=>grind
      |cons a r=>rfl
     rw[Xe k6,hd]at Q;rw[Ja];simp[XY,M,y,r0,r1,k6,a1,a2];refine Ji (JtF (P:=P) (s:=s) (Jq U.D S.t) ((z.A U.H).B S.t) (a3.I S.t) (fun r p=>PS (Gr.F U.D) r p) hl) ?_;rintro _ S2 g2 ⟨e',rfl,av⟩;obtain⟨a8,a9,ba,rfl,w1,w2,w3,w4⟩:=av.B;obtain⟨T,hT⟩:∃T,T=KL s.a (s.a.length+1) f[0]:=⟨_,rfl⟩
     rw[<-hT]at Q⊢;by_cases t6:T.A=6
     ·rw[Xp t6,GJ]at Q;simp[XZ,t6]
      grind
     ·rw[Xv t6,ZQ]at Q;simp[XZ,t6];exact hJ _ _ ⟨g2,M,y,Q⟩
    ·rw[Xa k6,ZQ]at Q;rw[Ja];simp[XZ,y,r1,k6];exact hJ _ _ ⟨Gr.F U.D,M,y,Q⟩
   clear M y ad hI;rintro x S1 ⟨g1,M,y,Q⟩;rw[Jd,Ja];simp[XY];obtain⟨L,hL⟩:=loE fun j x l=>∃(i:Nat),j+i=f.length/\x 2= .g (up 0 X) 0/\x 3= .g (up 1 X) 0/\x 5= .d .i64 i/\Gr S l/\f.any (YH s.a)=(f.drop i).any (YH s.a);refine JD L f.length (by omega) ((hL _ _ _).2 ⟨0,by omega,M,y,by rfl,g1,rfl⟩) ?_;clear M y;intro j x l aw;obtain⟨i,hj,M,y,f5,Y,w⟩:=(hL _ _ _).1 aw;have r0:=Y.B r0;have r1:=Y.B r1;by_cases N:i<f.length
   ·have ab:=wiN (i:=i) (by omega);obtain⟨q,o,E',a1,a2,a3⟩:=ae N Y;have bb:=jF N;have bc:=Yy k nm ns f;rw[Xc N,Gj]at w;simp[XZ,M,y,f5,r0,r1,l2,N,a1,a2];refine Ji (Jqk m f[i] (by have:=Yv (k:=k) (n:=nm) (ns:=ns) N;omega) P _ s _ E' (Jq Y.D l.t) ((z.A (U.A Y).H).B l.t) (a3.I l.t) (fun r p=>PS Y r p) hl (by omega) (JfD Z.2 _ (Xh N))) ?_;rintro _ S2 g2 rfl
    cases hb:YH s.a f[i]with
    | true=>
      rw[hb,GJ]at w;simp[XZ];exact ar _ (by grind) _ (Y.A g2)
    | false=>
      rw[hb,ZQ]at w;simp[XZ,f5,ab];exact⟨f.length-(i+1),by omega,(hL _ _ _).2 ⟨i+1,by omega,M,y,rfl,Y.A g2,w⟩⟩
   ·rw[Xm (by omega)]at w;simp[XZ,y,f5,r1,l2,N]
    grind
theorem Juq {s:Sch}(hw:WF e)(h:SchC P e v s)(ai:s.a.length<=1000)(h0:s.c=[])(hQ:∀r,P r->Q r)(hN:∀r,e.A r= .none->Q r):
  Dz 64 [.j v] e fun v' O=>Gr e O/\LstAt (TyC Q O) Q O v' 4 (Qn s):=by
 refine Jn tabM (aT Tryz.func64 rfl) rfl hw fun K aa=> ?_;obtain⟨n,ab⟩:=nxE e;obtain⟨c,tv,sv,rfl,h1,Y,h3⟩:=h;obtain⟨M,hM⟩:∃M,M=s.b:=⟨_,rfl⟩
 obtain⟨l,hl⟩:∃l,l=s.a:=⟨_,rfl⟩
 obtain⟨U,ad⟩:∃l,l=s.c:=⟨_,rfl⟩
 have aj:Qn s=l.map Prod.snd++[M]++qj U:=by rw[hM,hl,ad];rfl
 rw[aj]at aa;rw[<-hM]at h1;rw[<-hl]at Y ai;rw[<-ad]at h3 h0;obtain⟨nv,kv,es,rfl,x1,x2,x3,x4⟩:=h1.B;have ak:TyC P e [.d .i64 M.A,ofL M.B,nv,kv] M:=h1;have l1:=Y.H;have l2:=h3.H;simp only[CT,Tryz.f64,XY,simprocAttr];rw[Ja];simp[XY,ab,x1.B,x2.B,Y.B.1,h3.B.1];obtain⟨k,y⟩:=exE (e.B fun t=> .a t [.d .i64 M.A,ofL M.B,nv,kv,tv,sv]);have L:Gr e k:=by rw[y];exact Gr.G hw (Jc _)
 obtain⟨t0,r0⟩:∃t,k.A (up 0 n)= .a t [.d .i64 M.A,ofL M.B,nv,kv,tv,sv]:=⟨_,by rw[y];simp[XZ,ab];rfl⟩
 rw[<-y];clear y;have al:TyC P k [.d .i64 M.A,ofL M.B,nv,kv] M:=ak.H L;have Y:LstAt (NmC P k) P k tv 5 l:=Y.G (fun v x h=>h.A L.H) L.H;have h3:LstAt (SgC P k) P k sv 6 U:=h3.G (fun v x h=>h.A L.H) L.H;have hN:∀r,k.A r= .none->Q r:=fun r h=>hN r (L.I h);have c1:=x1.A;have c2:=x1.B;have c3:=x2.A;have c4:=x2.B;rw[Ja];simp[XY];refine Ju (fun m S=>(∃f,m 1= .g (up 0 n) 0/\m 3=f/\Gr k S/\TysF P k S f (l.map Prod.snd))) (fun J hJ=> ?_) ?_
 ·rw[Ja];simp[XY];obtain⟨I,Z⟩:=loE fun j m S=>∃(i:Nat) (f:V),j+i=l.length/\m 1= .g (up 0 n) 0/\m 3=f/\m 4= .d .i64 i/\Gr k S/\TysF P k S f ((l.take i).map Prod.snd);refine JD I l.length (by omega) ((Z _ _ _).2 ⟨0, .e,by omega,rfl,rfl,by rfl,Gr.F L.D,TysF.F _ _ _⟩) ?_;intro j m S W;obtain⟨i,f,hj,u,z,f4,o,w⟩:=(Z _ _ _).1 W;have rS:=o.B r0;by_cases N:i<l.length
  ·obtain⟨r,q,ae,af,a1,a3,a4,ag,d1,d2,d3,d4⟩:=JdV Y (fun r v=>o.d r v) N;have a6:=JcC (a:=1) (b:=4) a4;have a6:ldn (S.A r) (q+1) 4=some (.j [.d .i64 l[i].2.A,ofL l[i].2.B,ae,af], .a):=a6;have wS:=o.D;obtain⟨nS,p⟩:=nxE S;have X:=wiN (i:=i) (by omega);have ah:(l.take (i+1)).map Prod.snd=(l.take i).map Prod.snd++[l[i].2]:=by rw[Xn N,ZA];rfl
   obtain⟨T,hT⟩:∃T,T=l[i].2:=⟨_,rfl⟩
   rw[<-hT]at ag ah a6;simp[XZ,u,z,f4,rS,l1,N,a1,a6,p,d2,d4];have gn:Gr S (S.B fun t=> .a t [.d .i64 T.A,ofL T.B,ae,af]):=Gr.G wS (Jc _);refine Jeo (ts':=[T]) (o.A gn) (w.A gn) (Jh9 p ag.G) rfl (fun i a b=>by
    grind) (by simp) (by grind) ?_
   intro S2 v2 g2 h5 rv kp;rw[<-ah]at h5;simp[XZ,f4,X];exact⟨l.length-(i+1),by omega,(Z _ _ _).2 ⟨i+1,v2,by omega,u,rfl,rfl,g2,h5⟩⟩
  ·simp[XZ,u,f4,rS,l1,N];rw[Xt (by omega)]at w;exact hJ _ _ ⟨f,u,z,o,w⟩
 rintro m S ⟨f,u,z,o,w⟩;have r1:=o.B r0;have wS:=o.D;obtain⟨nS,p⟩:=nxE S;rw[Ja];simp[XY,u,z,r1,p,c2,c4];have gn:Gr S (S.B fun t=> .a t [.d .i64 M.A,ofL M.B,nv,kv]):=Gr.G wS (Jc _);refine Jeo (ts':=[M]) (o.A gn) (w.A gn) (Jh9 p al.G) rfl (fun i a b=>by
  grind) (by simp) (by grind) ?_
 intro S2 v2 g2 h5 _ _;simp[XY];refine Ju (fun m S=>(∃f,m 3=f/\Gr k S/\TysF P k S f (l.map Prod.snd++[M]++qj U))) (fun J2 am=> ?_) ?_
 ·rw[Ja];simp[XY];obtain⟨I,Z⟩:=loE fun j m S=>∃(i:Nat) (f:V),j+i=U.length/\m 1= .g (up 0 n) 0/\m 3=f/\m 5= .d .i64 i/\Gr k S/\TysF P k S f (l.map Prod.snd++[M]++qj (U.take i));refine JD I U.length (by grind) ((Z _ _ _).2 ⟨0,v2,by omega,u,rfl,by rfl,g2,by rw[GO];unfold qj;grind⟩) ?_;clear u z;intro j m S W;obtain⟨i,f,hj,u,z,f5,o,w⟩:=(Z _ _ _).1 W;have rS:=o.B r0;by_cases N:i<U.length
  ·rw[h0]at N;cases N
  ·simp[XZ,u,f5,rS,l2,N];rw[Xt (by omega)]at w;exact am _ _ ⟨f,z,o,w⟩
 rintro m S ⟨f,z,o,w⟩;simp[XZ,z];exact aa _ _ (fun r v=>(L.A o).d r v) fun _=>w.D o hQ hN
theorem JhD (d:Str->Bool):∀(p:Option Str) (j:List Sg) (e:Nat),(Qv d p j e).1=0->∀f∈j,okOs (f.a++[f.b])=true
 |p,[],e,h=>fun f h=>by cases h
 | p,f::r,e,h=>by
   rw[Y7]at h
   split at h
   ·cases h
   split at h
   ·cases h
   split at h
   ·cases h
   split at h
   ·omega
   rename_i k
   intro g i;rcases Xq.1 i with rfl|i
   ·exact Ja7 d _ _ _ (by simpa using k)
   ·exact JhD d (some f.c) r _ h g i
theorem Jql {p:Option Str}{n:Str}{r:List Str}(a:Yb n=false)(b:Kx p n=false):Ka p (n::r)=Ka (some n) r:=by
 rw[Ka,Xa (by grind),Xa (by grind)]
theorem JrI (h0:k.c=[])(hw:WF e)(h:SchC P e v k)(hP:∀r,P r->e.A r≠ .none):
  Dz 35 [.j v] e fun v' al=>Gr e al/\v'= .d .i64 (refS k):=by
 refine Jn tabM (aT Tryz.func35 rfl) rfl hw fun K be=> ?_;obtain⟨n,bf⟩:=nxE e;have bg:=Jhb k;have bh:=h;obtain⟨c,tv,sv,rfl,h1,h2,h3⟩:=h;obtain⟨M,hM⟩:∃M,M=k.b:=⟨_,rfl⟩
 obtain⟨l,ad⟩:∃l,l=k.a:=⟨_,rfl⟩
 obtain⟨Z,af⟩:∃l,l=k.c:=⟨_,rfl⟩
 have L:refS k=
  if 12<l.length\/12<Z.length then 3 else
  if Ka none (l.map Prod.fst)≠0 then Ka none (l.map Prod.fst)else
  if(JE (hasN l) (l.map Prod.snd) 1 0).1≠0 then(JE (hasN l) (l.map Prod.snd) 1 0).1 else
  if(mayS (hasN l) M 1 (JE (hasN l) (l.map Prod.snd) 1 0).2).1≠0 then(mayS (hasN l) M 1 (JE (hasN l) (l.map Prod.snd) 1 0).2).1 else
  if(Qv (hasN l) none Z (mayS (hasN l) M 1 (JE (hasN l) (l.map Prod.snd) 1 0).2).2).1≠0 then(Qv (hasN l) none Z (mayS (hasN l) M 1 (JE (hasN l) (l.map Prod.snd) 1 0).2).2).1 else
  if(finR l (l.length+1) []).length≠l.length then 14 else
  if(Qn k).any (YH l)then 17 else 0:=by rw[ad,hM,af];rfl
 rw[<-hM]at h1;rw[<-ad]at h2;rw[<-af]at h3;rw[<-ad,<-hM,<-af]at bg;have bx:=h1;obtain⟨nv,kv,es,rfl,x1,x2,x3,x4⟩:=h1.B;have l1:=h2.H;have l2:=h3.H;have cp:=x1.A;have bi:=x1.B;have cq:=x2.A;have bj:=x2.B;have bk:=h2.B;have bl:=h3.B;simp only[CT,Tryz.f35,XY,simprocAttr];rw[Ja];simp only[XY,simprocAttr,bf,bi,bj,bk.1,bl.1];obtain⟨S,hS⟩:=exE (e.B fun t=> .a t [.d .i64 M.A,ofL M.B,nv,kv,tv,sv]);have g0:Gr e S:=by rw[hS];exact Gr.G hw (Jc _)
 obtain⟨t0,r0⟩:∃t,S.A (up 0 n)= .a t [.d .i64 M.A,ofL M.B,nv,kv,tv,sv]:=⟨_,by rw[hS];simp only[XZ,simprocAttr,bf];rfl⟩
 rw[<-hS];clear hS;by_cases b1:12<l.length
 ·have am:(12:Int)<l.length:=by omega
  rw[Jd,Ja];simp only[XZ,simprocAttr,r0,l1,am];refine be _ _ (fun r f=>g0.d r f) fun _=> ?_
  grind
 have am:¬(12:Int)<l.length:=by omega
 by_cases b2:12<Z.length
 ·have az:(12:Int)<Z.length:=by omega
  rw[Jd,Ja];simp only[XZ,simprocAttr,r0,l1,l2,am,az]
  grind
 have az:¬(12:Int)<Z.length:=by omega
 rw[Xa (fun h=>by omega)]at L;rw[Jd,Ja];simp only[XY,simprocAttr,r0,l1,l2,am,az];refine Ju (fun O J=>(S=J/\O 1= .g (up 0 n) 0/\Ka none (l.map Prod.fst)=0)) (fun J0 bz=> ?_) ?_
 ·rw[Ja];simp only[XY,simprocAttr];obtain⟨I,hI⟩:=loE fun j O J=>∃(i:Nat) (p:Option Str),j+i=l.length/\O 1= .g (up 0 n) 0/\O 3= .d .i64 i/\S=J/\Ka none (l.map Prod.fst)=Ka p ((l.map Prod.fst).drop i)/\(p=if i=0 then none else(l.map Prod.fst)[i-1]?);refine JD I l.length (by omega) ((hI _ _ _).2 ⟨0,none,by omega,rfl,by rfl,rfl,rfl,rfl⟩) ?_;intro j O J aa;obtain⟨i,p,hj,z,f3,rfl,y,hp⟩:=(hI _ _ _).1 aa;have kS:∀r,e.A r≠ .none->S.A r=e.A r:=fun r f=>g0.d r f;by_cases hi:i<l.length
  ·have T:(i:Int)<l.length:=by omega
   obtain⟨r,q,bm,bn,a1,a3,a4,_⟩:=JdV h2 kS hi;have a5:=Jep a4 (j:=0) (by decide) rfl;have a5:ld1 (S.A r) q=some (ofL l[i].1, .a):=a5;obtain⟨N,hN⟩:∃N,N=l[i].1:=⟨_,rfl⟩
   rw[<-hN]at a5;have hd:(l.map Prod.fst).drop i=N::(l.map Prod.fst).drop (i+1):=by
    rw[Xc (by grind),X6,<-hN]
   rw[hd]at y;have U:=wiN (i:=i) (by omega);have bo:Yb N=true->Ka none (l.map Prod.fst)=15:=fun hb=>by rw[y,Ka,Xe hb]
   have cr:=Jri N;simp only[XZ,simprocAttr,z,f3,r0,l1,T,a1,a5];refine Je (Jnb N _) ?_;rintro _ _ ⟨rfl,rfl⟩
   cases hid:Ko N with
   | false=>
     have hv:=bo (by grind);simp only[XZ,simprocAttr]
     grind
   | true=>
     simp only[XZ,simprocAttr,z,f3,r0,a1,a5];refine Je (JtA N _) ?_;rintro _ _ ⟨rfl,rfl⟩
     cases cs:Jfz.contains N with
     | true=>
       have hv:=bo (by grind);simp only[XZ,simprocAttr]
       grind
     | false=>
       have b0:Yb N=false:=by grind
       have next:∀{ao:Fr},Kx p N=false->ao 1= .g (up 0 n) 0->ao 3= .d .i64 ((i+1:Nat):Int)->∃j',j'<j/\I j' ao S:=fun{ao} hl v e3=>
        ⟨l.length-(i+1),by omega,(hI _ _ _).2 ⟨i+1,some N,by omega,v,e3,rfl,by rw[y,Jql b0 hl],by grind⟩⟩
       by_cases h0:i=0
       ·have ap:¬(0:Int)<(i:Int):=by omega
        simp only[XZ,simprocAttr,f3,ap,U];exact next (by rw[hp,Xe h0];rfl) z rfl
       ·have ap:(0:Int)<(i:Int):=by omega
        have ay:IntKind.i64.wrap ((i:Int)-1)=((i-1:Nat):Int):=by rw[JX (by omega) (by omega)];omega
        have b6:i-1<l.length:=by omega
        obtain⟨r',q',ct,cu,b1,b3,b4,_⟩:=JdV h2 kS b6;have b5:=Jep b4 (j:=0) (by decide) rfl;have b5:ld1 (S.A r') q'=some (ofL l[i-1].1, .a):=b5;have bp:p=some l[i-1].1:=by grind
        cases hl:Op.bytesLess l[i-1].1 N with
        | false=>
          have hv:Ka none (l.map Prod.fst)=6:=by rw[y,Ka,Xa (by grind),Xe (by rw[bp,Kx,hl];rfl)]
          simp only[XZ,simprocAttr,z,f3,r0,ap,ay,a1,a5,b1,b5,Ja6,hl]
          grind
        | true=>
          simp only[XZ,simprocAttr,z,f3,r0,ap,ay,a1,a5,b1,b5,Ja6,hl,U];exact next (by rw[bp,Kx,hl];rfl) z rfl
  ·have T:¬(i:Int)<l.length:=by omega
   have hv:Ka none (l.map Prod.fst)=0:=by rw[y,Xm (by grind),Ka]
   simp only[XZ,simprocAttr,z,f3,r0,l1,T];exact bz _ _ ⟨rfl,z,hv⟩
 rintro O J ⟨rfl,z,b7⟩;rw[Xa (fun h=>h b7)]at L;have w0:=g0.D;obtain⟨n2,a0⟩:=nxE S;rw[Ja];simp only[XY,simprocAttr,z,r0,a0,bi,bj,bk.1,bl.1];obtain⟨S3,aq⟩:=exE (S.B fun t=> .a t [.d .i64 M.A,ofL M.B,nv,kv,tv,sv, .d .i64 0]);have g3:Gr S S3:=by rw[aq];exact Gr.G w0 (Jc _)
 obtain⟨W,a2⟩:=exE (up 0 n2);obtain⟨tk,rk⟩:∃u,S3.A W= .a u [.d .i64 M.A,ofL M.B,nv,kv,tv,sv, .d .i64 ((0:Nat):Int)]:=⟨_,by rw[aq,a2];simp only[XZ,simprocAttr,a0];rfl⟩
 have b8:S.A W= .none:=by rw[a2];exact nx0 w0 a0 0
 rw[<-aq,<-a2];clear aq;have G3:=g0.A g3;have ar:up 0 n≠W:=fun h=>by grind
 have r0:=g3.B r0;have qk:e.A W= .none:=g0.I b8;have ag:∀r,e.A r≠ .none->r≠W:=fun r f h=>f (by grind);have b9:∀r,P r->r≠W:=fun r p=>ag r (hP r p);have keep:∀{J:St},Ch (fun r=>r=W) S3 J->∀r,e.A r≠ .none->J.A r=e.A r:=fun c r f=>by rw[c.d r (by rw[G3.d r f];exact f) (ag r f),G3.d r f]
 have X:∀{J:St} {p:Pt} {u:Nat} {x:List V},Ch (fun r=>r=W) S3 J->S3.A p= .a u x->p≠W->J.A p= .a u x:=fun c f n=>by rw[c.d _ (Jb f) n,f]
 have Y:∀{J:St},Ch (fun r=>r=W) S3 J->SchC P J ([.d .i64 M.A,ofL M.B,nv,kv]++[tv,sv]) k:=fun c=>bh.A fun r p f=>⟨p,keep c r f⟩
 have bq:∀{J:St} {E:List V} {t:Ty} {ae:Nat},Ch (fun r=>r=W) S3 J->TyC P J E t->(∃u,J.A W= .a u [.d .i64 M.A,ofL M.B,nv,kv,tv,sv, .d .i64 (ae:Int)])->ae<=400->
   Dz 61 [.g W 0, .j E, .d .i64 1] J fun o al=>Ch (fun r=>r=W) J al/\(∃u,al.A W= .a u [.d .i64 M.A,ofL M.B,nv,kv,tv,sv, .d .i64 ((mayS (hasN l) t 1 ae).2:Nat)])/\o= .d .i64 (mayS (hasN l) t 1 ae).1:=fun{J E t ae} c ht hk hm=>by
  rw[ad];exact JsK _ t (XO _) P J W k ae _ E 1 c.D (Y c) ht b9 hk (by decide) hm (by grind) (.inr trivial)
 rw[Ja];simp only[XY,simprocAttr];refine Ju (fun O J=>(O 1= .g (up 0 n) 0/\O 4= .g W 0/\O 5= .d .i64 (JE (hasN l) (l.map Prod.snd) 1 0).1/\Ch (fun r=>r=W) S3 J/\∃u,J.A W= .a u [.d .i64 M.A,ofL M.B,nv,kv,tv,sv, .d .i64 ((JE (hasN l) (l.map Prod.snd) 1 0).2:Nat)])) (fun J1 br=> ?_) ?_
 ·rw[Ja];simp only[XY,simprocAttr];obtain⟨I,hI⟩:=loE fun j O J=>∃(i mi:Nat) (x:Int),j+i=l.length/\O 1= .g (up 0 n) 0/\O 4= .g W 0/\O 5= .d .i64 x/\O 6= .d .i64 i/\Ch (fun r=>r=W) S3 J/\(∃u,J.A W= .a u [.d .i64 M.A,ofL M.B,nv,kv,tv,sv, .d .i64 (mi:Int)])/\JE (hasN l) (l.map Prod.snd) 1 0=(if x≠0 then(x,mi)else JE (hasN l) ((l.map Prod.snd).drop i) 1 mi)/\(x=0->mi<=400);refine JD I l.length (by omega) ((hI _ _ _).2 ⟨0,0,0,by omega,z,rfl,rfl,by rfl,Ch.G _ g3.D,⟨tk,rk⟩,by rfl,fun _=>by omega⟩) ?_;clear z;intro j O S2 aa;obtain⟨i,mi,x,hj,z,f4,f5,f6,C2,⟨ub,au⟩,ah,a7⟩:=(hI _ _ _).1 aa;have ai:=X C2 r0 ar;by_cases hi:i<l.length
  ·have T:(i:Int)<l.length:=by omega
   by_cases hx:x=0
   ·rw[Xa (fun h=>h hx),Xc (by grind),Kg,X6]at ah;obtain⟨r,q,bm,bn,a1,a3,a4,ca,d1,d2,d3,d4⟩:=JdV h2 (keep C2) hi;have a6:=JcC (a:=1) (b:=4) a4;have a6:ldn (S2.A r) (q+1) 4=some (.j [.d .i64 l[i].2.A,ofL l[i].2.B,bm,bn], .a):=a6;have U:=wiN (i:=i) (by omega);simp only[XZ,simprocAttr,z,f4,f5,f6,ai,l1,T,hx,a1,a6];refine Je (bq C2 (ca.A fun r p f=>⟨p,keep C2 r f⟩) ⟨ub,au⟩ (a7 hx)) ?_;rintro _ S4 ⟨c4,⟨u4,av⟩,rfl⟩;have C4:=C2.A c4 fun r w=> .inl w;have cb:=QN (hasN l) l[i].2 1 mi (a7 hx);simp only[XZ,simprocAttr,f6,U];exact⟨l.length-(i+1),by omega,(hI _ _ _).2 ⟨i+1,_,_,by omega,z,f4,rfl,rfl,C4,⟨u4,av⟩,ah,cb.2⟩⟩
   ·rw[Xe hx]at ah;simp only[XZ,simprocAttr,z,f5,f6,ai,l1,T,hx];exact br _ _ ⟨z,f4,by simp only[XZ,simprocAttr,f5,ah],C2,ub,by grind⟩
  ·have T:¬(i:Int)<l.length:=by omega
   have bt:JE (hasN l) (l.map Prod.snd) 1 0=(x,mi):=by
    rw[ah,Xm (by grind),QT]
    grind
   simp only[XZ,simprocAttr,z,f6,ai,l1,T];exact br _ _ ⟨z,f4,by simp only[XZ,simprocAttr,f5,bt],C2,ub,by grind⟩
 clear z;rintro O S2 ⟨z,f4,f5,C2,⟨u2,au⟩⟩;by_cases ab:(JE (hasN l) (l.map Prod.snd) 1 0).1=0;rotate_left
 ·rw[Jd,Ja];simp only[XY,simprocAttr,f5,ab];rw[Jd,Ja];simp only[XZ,simprocAttr,f5,ab]
  grind
 rw[Xa (fun h=>h ab)]at L;rw[ab]at f5;have cc:=kY (hasN l) (l.map Prod.snd) 1 0 ab;have a8:=(YP (hasN l) (l.map Prod.snd) 1 0 (by decide)).2 ab;have bu:=Ja7 (hasN l) (l.map Prod.snd) 1 0 ab;obtain⟨m1,cd⟩:∃m,m=(JE (hasN l) (l.map Prod.snd) 1 0).2:=⟨_,rfl⟩
 rw[<-cd]at L au a8 cc;have ai:=X C2 r0 ar;rw[Jd,Ja];simp only[XY,simprocAttr,f5];simp only[XZ,simprocAttr,z,f4,ai];refine Je (bq C2 (bx.A fun r p f=>⟨p,keep C2 r f⟩) ⟨u2,au⟩ a8) ?_;rintro _ S4 ⟨c4,⟨u4,av⟩,rfl⟩;have C4:=C2.A c4 fun r w=> .inl w;by_cases he:(mayS (hasN l) M 1 m1).1=0;rotate_left
 ·simp only[XZ,simprocAttr,he]
  grind
 rw[Xa (fun h=>h he)]at L;have bv:=JaA (hasN l) M 1 m1 he;have a9:=(QN (hasN l) M 1 m1 a8).2 he;have cn:=JfE (hasN l) M 1 m1 he;obtain⟨m2,ce⟩:∃m,m=(mayS (hasN l) M 1 m1).2:=⟨_,rfl⟩
 rw[<-ce]at L av a9 bv;simp only[XY,simprocAttr];rw[Jd,Ja];simp only[XY,simprocAttr,he];refine Ju (fun O J=>(O 1= .g (up 0 n) 0/\Ch (fun r=>r=W) S3 J/\(Qv (hasN l) none Z m2).1=0)) (fun J2 cf=> ?_) ?_
 ·rw[Ja];simp only[XY,simprocAttr];obtain⟨I,hI⟩:=loE fun j O J=>∃(i mi:Nat) (p:Option Str),j+i=Z.length/\O 1= .g (up 0 n) 0/\O 4= .g W 0/\O 5= .d .i64 0/\O 7= .d .i64 i/\Ch (fun r=>r=W) S3 J/\(∃u,J.A W= .a u [.d .i64 M.A,ofL M.B,nv,kv,tv,sv, .d .i64 (mi:Int)])/\mi<=400/\Qv (hasN l) none Z m2=Qv (hasN l) p (Z.drop i) mi/\(p=if i=0 then none else(Z.map Sg.c)[i-1]?);refine JD I Z.length (by omega) ((hI _ _ _).2 ⟨0,m2,none,by omega,z,f4,by rfl,by rfl,C4,⟨u4,av⟩,a9,rfl,rfl⟩) ?_;clear z f4 f5;intro j O S5 aa;obtain⟨i,mi,p,hj,z,f4,f5,f7,C5,⟨u5,cv⟩,a7,y,hp⟩:=(hI _ _ _).1 aa;have aw:=X C5 r0 ar;by_cases hi:i<Z.length
  ·rw[af,h0]at hi;cases hi
  ·have T:¬(i:Int)<Z.length:=by omega
   rw[Xm (by omega),Qv]at y;simp only[XZ,simprocAttr,z,f7,aw,l2,T];exact cf _ _ ⟨z,C5,by rw[y]⟩
 clear z f4 f5;rintro O S5 ⟨z,C5,ba⟩;rw[Xa (fun h=>h ba)]at L;obtain⟨cw,cx,cy⟩:=Jcv (hasN l) none Z m2 a9 ba;have co:=JhD (hasN l) none Z m2 ba;have aw:=X C5 r0 ar;have w5:=C5.D;rw[Jd,Ja];simp only[XY,simprocAttr,z,aw];refine Ji (Jqj (P:=P) (s:=k) (Jq w5 S5.t) ((Y C5).B S5.t) (by grind) (by grind)) ?_;rw[<-ad];rintro fv S6 g6 cg;have lf:=cg.G;rw[Jv]at lf;have C6:=C5.I g6;have ax:=g6.B aw;obtain⟨F,hF⟩:∃F,F=(finR l (l.length+1) []).length:=⟨_,rfl⟩
 rw[<-hF]at lf L;by_cases ch:F=l.length;rotate_left
 ·have aj:¬(F:Int)=(l.length:Int):=by omega
  simp only[XZ,simprocAttr,z,lf,ax,l1,aj]
  grind
 have aj:(F:Int)=(l.length:Int):=by omega
 rw[Xa (fun h=>h ch)]at L;simp only[XY,simprocAttr,z,lf,ax,l1,aj];rw[Ja];simp only[XY,simprocAttr,z,ax];refine Je (Juq (P:=P) (Q:=fun r=>P r\/S6.A r= .none) (s:=k) C6.D (Y C6) (by grind) h0 (fun r p=> .inl p) fun r p=> .inr p) ?_;rintro ev S7 ⟨g7,ak⟩;have C7:=C6.I g7;have cj:=g7.B ax;have bw:∀t∈Qn k,cntT t<1000000/\okO t=true:=fun t ht=>by
  rw[bg]at ht;rcases Xs.1 ht with ht|ht
  ·rcases Xs.1 ht with ht|ht
   ·exact⟨by have:=JmQ ht;omega,JfD bu t ht⟩
   grind
  ·unfold qj at ht
   grind
 have bb:(Qn k).length<1000000:=by
  have hk:qj Z=[]:=by rw[af,h0];rfl
  grind
 have le:=ak.H;simp only[XY,simprocAttr];rw[Jd,Ja];simp only[XY,simprocAttr];obtain⟨A,hA⟩:∃A,A=Qn k:=⟨_,rfl⟩
 rw[<-hA]at ak le bb bw L;obtain⟨I,hI⟩:=loE fun j O J=>∃(i:Nat),j+i=A.length/\O 1= .g (up 0 n) 0/\O 10=ev/\O 11= .d .i64 i/\Gr S7 J/\A.any (YH l)=(A.drop i).any (YH l);refine JD I A.length (by omega) ((hI _ _ _).2 ⟨0,by omega,z,rfl,by rfl,Gr.F g7.D,rfl⟩) ?_;clear z;intro j O S8 aa;obtain⟨i,hj,z,bc,bd,g8,y⟩:=(hI _ _ _).1 aa;have C8:=C7.I g8;have ck:=g8.B cj;by_cases hi:i<A.length
 ·have T:(i:Int)<A.length:=by omega
  obtain⟨q2,qo,E',c1,c2,c3,c4,hE,e4,c5⟩:=(ak.G (fun f x h=>h.H g8) g8.H:LstAt (TyC (fun r=>P r\/S6.A r= .none) S8) (fun r=>P r\/S6.A r= .none) S8 ev 4 A).A hi;have U:=wiN (i:=i) (by omega);rw[Xc hi,Gj]at y;obtain⟨cl,cm⟩:=bw _ (Xh hi);simp only[XZ,simprocAttr,z,bc,bd,ck,le,T,c1,c4];refine Ji (Jqk _ A[i] (XO _) (fun r=>S8.A r≠ .none) _ k _ E' (Jq C8.D S8.t) (((Y C8).A fun r p f=>⟨f,rfl⟩).B S8.t) ((hE.A fun r p f=>⟨f,rfl⟩:TyC (fun r=>S8.A r≠ .none) S8 E' A[i]).I S8.t) (fun r p=>p) (by grind) cl cm) ?_;rw[<-ad];rintro _ S9 g9 rfl
  cases hb:YH l A[i]with
  | true=>
    rw[hb,GJ]at y;simp only[XZ,simprocAttr];refine be _ _ (keep (C8.I g9)) fun _=> ?_
    grind
  | false=>
    rw[hb,ZQ]at y;simp only[XZ,simprocAttr,bd,U];exact⟨A.length-(i+1),by omega,(hI _ _ _).2 ⟨i+1,by omega,z,bc,rfl,g8.A g9,y⟩⟩
 ·have T:¬(i:Int)<A.length:=by omega
  rw[Xm (by omega)]at y;simp only[XZ,simprocAttr,bc,bd,le,T]
  grind
theorem Jin (f:k.c=[])(g:WF e)(h:SchC P e v k):
  Dz 35 [.j v] e fun i b=>Gr e b/\i= .d .i64 (refS k):=
 JrI (P:=fun r=>P r/\e.A r≠ .none) f g (h.A fun r p a=>⟨⟨p,a⟩,rfl⟩) fun r p=>p.2
theorem Jqm {R:Row}(h:ldn R n 5=some (.j (z::v), .a)):ldn R (n+1) 4=some (.j v, .a):=by
 have b:∀l:List V,(if n+5<=l.length then some (V.j ((l.drop n).take 5),Eff.a)else none)=some (V.j (z::v),Eff.a)->(if n+1+4<=l.length then some (V.j ((l.drop (n+1)).take 4),Eff.a)else none)=some (V.j v,Eff.a):=fun l e=>by
  by_cases d:n+5<=l.length
  ·rw[Xe d]at e;injection e with e;injection e with e;injection e with e;have g:l.drop (n+1)=(l.drop n).drop 1:=by rw[ZH]
   rw[Xe (by omega),g];generalize l.drop n=D at e
   cases D with
   |nil=>cases e
   | cons a r=>
     simp only[Hx]at e;injection e with _ e;simp[e]
  ·rw[Xa d]at e;cases e
 cases R with
 |a t l=>rw[Ym]at h⊢;exact b l h
 |f l=>rw[JeX]at h⊢;exact b l h
 |_=>cases h
theorem _root_.Eva.RT.B {x S u:St}{q:Pt}{v w:V}{s rest':List V}{O:Pt->Prop}{c:List Nd}{n:List Ty}(h:RT x S q v w s O c n)(g:Gr x u)(y:∃t,u.A q= .a t (v::w::rest'))(k:∀r,Bt q v w O r->r≠q->u.A r=S.A r):RT x u q v w rest' O c n:=by
 obtain⟨z,J,K,L⟩:=h.l;obtain⟨M,N,P,Q⟩:=h.t;refine⟨g,h.m,y,⟨z,J.B fun r e=>k r (.inr (.inl e)) (h.f r e).2,K,fun i a b=>(L i a b).A fun r p _=>⟨p,k r (.inr (.inr (.inr p))) (h.o r p).2.2.1⟩⟩,⟨M,N.B fun r e=>k r (.inr (.inr (.inl e))) (h.j r e),P,fun i a b=>(Q i a b).A fun r p _=>⟨p,by rw[g.d r p,h.g.d r p]⟩⟩,h.f,h.j,fun r p=> ?_⟩;obtain⟨a,b⟩:=h.o r p;exact⟨by rw[k r (.inr (.inr (.inr p))) b.2.1];exact a,b⟩
structure RN (S1 S:St) (s:Sch) (tb:Tb) (ru:Pt) (lv tv dv nv kv sv tyv:V) (O:Pt->Prop) (tr:List Ty) (ids:List Nat) (mn:Nat):Prop where
 a:RT S1 S ru lv tv [.d .i64 s.b.A,ofL s.b.B,nv,kv,tyv,sv,dv, .d .i64 (mn:Nat), .e] O tb.a tr
 t:Qd tb.a tr
 d:SlF S1 S dv 1 (ints ids)
 c:∀r,rowOf dv=some r->¬Bt ru lv tv O r
 e:ids.length<=s.a.length
 b:∀k (h:k<ids.length) (h':k<s.a.length),Ki tb.a s.a[k].2=some ids[k]
theorem Jqn (d:k.c=[]):newS k=if Qx k≠0 then(none,Qx k)else if(Jr k.a JF).2≠0 then(none,(Jr k.a JF).2)else if(addT k.b 400 (Jr k.a JF).1).2.2.1≠0 then(none,(addT k.b 400 (Jr k.a JF).1).2.2.1)else(some {(addT k.b 400 (Jr k.a JF).1).1 with b:=(addT k.b 400 (Jr k.a JF).1).2.1},0):=by
 rw[Jcx,d];simp[Kb]
theorem JnL (h:Qd i t)(l:n<i.length)(f:n<t.length):i[n].d=t[n].B:=by
 have c:=h.b n f;generalize t[n]=X at c;obtain⟨k,a,m,g⟩:=X;rw[Ki]at c
 cases e:JS i g with
 |none=>rw[e]at c;cases c
 | some j=>
   rw[e]at c;obtain⟨_,b⟩:=jG c;rw[ZN]at b;obtain⟨_,b⟩:=Xx.1 b;rw[b];rfl
structure RD (S1 S:St) (s:Sch) (tb:Tb) (ru:Pt):Prop where
 a:∃lv tv dv nv kv sv tyv O tr ids,RN S1 S s tb ru lv tv dv nv kv sv tyv O tr ids tb.b/\ids.length=s.a.length/\LstAt (NmC (fun r=>S1.A r≠ .none) S1) (fun r=>S1.A r≠ .none) S1 tyv 5 s.a
 b:kC s tb
theorem JtG {z:Tb}{id o:Nat}(hD:RD e p k z r)(ho:Ks z (z.a.length+1) id=(o,true)):
  Dz 154 [.g r 0, .d .i64 (id:Nat)] p fun v W=>v= .p [.d .i64 (o:Nat), .h true]/\p=W:=by
 refine Jl (aT Tryz.func154 rfl) rfl ?_;have X:=hD.b;obtain⟨lv,tv,dv,nv,kv,sv,ag,O,tr,K,N,aq,ah⟩:=hD.a;obtain⟨t,Y⟩:=N.a.d;obtain⟨es,l1,l2,l3⟩:=N.a.l;obtain⟨ts,u1,u2,u3⟩:=N.a.t;have ll:=l1.D.G;rw[l2]at ll;have au:=N.t.c;have ar:=(qr X.d).1;have Q:LstAt (NmC (fun m=>e.A m≠ .none) p) (fun m=>e.A m≠ .none) p ag 5 k.a:=ah.G (fun _ _ x=>x.A fun m n _=>⟨n,N.a.g.d m n⟩) fun m n _=>⟨n,N.a.g.d m n⟩
 have ai:=Q.H;have hid:id<z.a.length:=Xd fun c=>by rw[qP (by omega)]at ho;cases ho
 have n0:¬((id:Nat):Int)<0:=by omega
 have n1:¬((z.a.length:Nat):Int)<=((id:Nat):Int):=by omega
 simp only[CT,Tryz.f154,XY,simprocAttr];rw[Ja];simp[XY];rw[Jd,Ja];simp[XY,Y,ll,n0,n1];obtain⟨L,hL⟩:=loE fun f U W=>∃i:Nat,U 0= .g r 0/\U 1= .d .i64 (i:Nat)/\Ks z f i=(o,true)/\W=p;rw[Jd];simp[XY];refine JD L (z.a.length+1) (by omega) ((hL _ _ _).2 ⟨id,rfl,rfl,ho,rfl⟩) ?_;intro f U W aj;obtain⟨i,J,Z,y,rfl⟩:=(hL _ _ _).1 aj
 cases f with
 |zero=>cases y
 |succ f=>
 have hi:i<z.a.length:=Xd fun c=>by rw[qP (by omega)]at y;cases y
 obtain⟨m,q,a1,_,_,_,a5⟩:=l1.D.H (i:=i) (by omega);obtain⟨xv,yv,he,_,_⟩:=l3 i (by omega) hi;have d0:ld1 (W.A m) q=some (.d .i64 z.a[i].a, .a):=by
  have:=a5 0 (by rw[he];simp);rw[show q=q+0 from rfl,this];simp[he]
 by_cases h9:z.a[i].a=9;rotate_left
 ·rw[qQ hi h9]at y;injection y with y;subst y;rw[Jd,Ja];simp[XZ,J,Z,Y,a1,d0,h9]
 have ak:hasN k.a z.a[i].d=true:=X.c.a i _ (Xg hi) h9;obtain⟨T,hT⟩:=Jcz ak;have av:=N.t.a;have ab:i<tr.length:=by omega
 have al:=JnL N.t hi ab;obtain⟨r',q',b1,_,_,_,b5⟩:=u1.D.H (i:=i) (by omega);obtain⟨aw,ax,ay,ad,_,_,_,_⟩:=(u3 i (by omega) ab).B;have d1:ld1 (W.A r') (q'+1)=some (ofL z.a[i].d, .a):=by
  have:=b5 1 (by rw[ad];simp);rw[this,al];simp[ad]
 rw[Jd,Ja];simp[XY,J,Z,Y,a1,d0,h9];rw[Ja];simp[XY];refine Jo (fun j U S2=>∃u:Nat,j+u=k.a.length/\U 0= .g r 0/\U 1= .d .i64 (i:Nat)/\U 6= .d .i64 (u:Nat)/\(∀k' (h:k'<k.a.length),k'<u->k.a[k'].1≠z.a[i].d)/\S2=W) k.a.length (by omega) ⟨0,by omega,J,Z,by simp[XZ]<;>rfl,fun k' _ h=>absurd h (XH _),rfl⟩ ?_;rintro M hM j U S2 ⟨u,hj,J,Z,f6,ae,rfl⟩;by_cases hk:u<k.a.length;rotate_left
 ·obtain⟨k',am,w⟩:=X1 hT;exact absurd (by rw[w]) (ae k' am (by omega))
 have aa:=wiN (i:=u) (by omega);obtain⟨r2,q2,e2,c1,_,_,_,⟨ce,ao,_⟩,c5,c6⟩:=Q.A hk;have d2:ld1 (S2.A r2) q2=some (ofL k.a[u].1, .a):=by
  have:=c6 0 (by omega);rw[show q2=q2+0 from rfl,this];simp[ao]
 rw[Jd,Ja];simp[XY,J,f6,Y,ai,hk];rw[Jd];simp[XY];by_cases P:k.a[u].1=z.a[i].d
 ·have af:u<K.length:=by omega
  obtain⟨jj,g1,g2⟩:=X.a _ (Xh hk);have ap:jj=K[u]:=by
   have:=N.b u af hk;rw[g2]at this;injection this
  subst ap;rw[P]at g1;rw[qf hi h9 g1]at y;obtain⟨r3,q3,p1,_,_,_,p5⟩:=N.d.D.H (i:=u) (by rw[JP];exact af);have d3:ld1 (S2.A r3) q3=some (.d .i64 (K[u]:Nat), .a):=by
   have:=p5 0 (by simp[ints]);rw[show q3=q3+0 from rfl,this];simp[ints]
  rw[Ja];simp[XY,J,Z,f6,Y,c1,d2,b1,d1,P];simp[XZ,J,f6,Y,p1,d3];exact⟨f,by omega,(hL _ _ _).2 ⟨K[u],J,rfl,y,rfl⟩⟩
 ·rw[Ja];simp[XY,J,Z,f6,Y,c1,d2,b1,d1,P];simp[J,aa];exact⟨k.a.length-(u+1),by omega,hM _ _ _ ⟨u+1,by omega,J,Z,rfl,fun k2 h2 h3=>by
   by_cases w:k2=u
   ·subst w;exact P
   ·exact ae k2 h2 (by omega),rfl⟩⟩
def Jf4 (Sb st S:St)(s:Sch)(v:V):Prop:=match newS s with
 |(none,e)=>v= .p [.s, .d .i64 e]
 |(some tb,_)=>∃ru lv tv dv nv kv sv tyv O tr ids,v= .p [.g ru 0, .d .i64 0]/\RN Sb S s tb ru lv tv dv nv kv sv tyv O tr ids tb.b/\ids.length=s.a.length/\LstAt (NmC (fun r=>Sb.A r≠ .none) Sb) (fun r=>Sb.A r≠ .none) Sb tyv 5 s.a/\∀r,(Bt ru lv tv O r\/rowOf dv=some r)->st.A r= .none
theorem JsO (hw:WF p)(hb:Gr e p)(h:SchC (fun r=>e.A r≠ .none) p v k)(hs:k.c=[]):
  Dz 20 [.j v] p fun l S=>Gr p S/\Jf4 e p S k l:=by
 refine Jn tabM (aT Tryz.func20 rfl) rfl hw fun K au=> ?_;have Q:=Jqn hs;obtain⟨n0,bh⟩:=nxE p;have bi:=h;obtain⟨c,P,sv,rfl,h1,h2,h3⟩:=h;rw[hs]at h3;obtain⟨M,hM⟩:=exE (k.b);rw[<-hM]at h1;obtain⟨nv,kv,es,rfl,x1,x2,x3,x4⟩:=h1.B;have l2:=h2.H;have l3:J8 sv=some (.d .i64 0, .a):=h3.I;have cb:=x1.A;have bj:=x1.B;have cc:=x2.A;have bk:=x2.B;have bl:=h2.B;have bm:=h3.B;simp only[CT,Tryz.f20,XY,simprocAttr];rw[Ja];simp[XY,bh,bj,bk,bl.1,bm.1];refine YW ?_;intro S0 ay;have g0:Gr p S0:=by rw[ay];exact Gr.G hw (Jc _)
 obtain⟨p1,bn⟩:=exE (up 0 n0);obtain⟨t0,r0⟩:∃t,S0.A p1= .a t [.d .i64 M.A,ofL M.B,nv,kv,P,sv]:=⟨_,by rw[ay,bn];simp[XZ,bh];rfl⟩
 rw[<-bn];clear ay;have bo:∀{S:St},Gr p S->SchC (fun r=>S.A r≠ .none) S [.d .i64 M.A,ofL M.B,nv,kv,P,sv] k:=fun g=>bi.A fun r n q=>⟨by rw[g.d r q];exact q,g.d r q⟩
 rw[Jd,Ja];simp[XY,r0];refine Je (Jin hs g0.D (bo g0)) ?_;rintro _ S1 ⟨g1,rfl⟩;have r1:=g1.B r0;have af:=g0.A g1;rw[JpE];by_cases hc:Qx k=0;rotate_left
 ·rw[Xe hc]at Q;simp[XY,hc];rw[Ja];simp[XY,r1];refine Je (Jin hs af.D (bo af)) ?_;rintro _ S2 ⟨g2,rfl⟩;rw[JpE];simp[XZ];refine au _ _ (fun r w=>(af.A g2).d r w) fun _=> ?_;unfold Jf4;rw[Q]
 rw[Xa fun y=>y hc]at Q;obtain⟨az,aj,ak⟩:=JfH hc;obtain⟨b9,_⟩:=qr hc;simp[XY,hc];obtain⟨n1,a0⟩:=nxE S1;have w1:=af.D;obtain⟨Y,a6⟩:=exE (up 0 n1);rw[Ja];simp[XY,r1,a0,bj,bk,bl.1,bm.1];rw[<-a6];obtain⟨S2,av⟩:=exE (S1.B fun t=> .a t [.e, .e, .d .i64 M.A,ofL M.B,nv,kv,P,sv, .e, .d .i64 0, .e]);have g2:Gr S1 S2:=by rw[av];exact Gr.G w1 (Jc _)
 obtain⟨t2,r2⟩:∃t,S2.A Y= .a t [.e, .e, .d .i64 M.A,ofL M.B,nv,kv,P,sv, .e, .d .i64 0, .e]:=⟨_,by rw[av,a6];simp[XZ,a0];rfl⟩
 have run:S1.A Y= .none:=by rw[a6];exact nx0 w1 a0 0
 rw[<-av];clear av;have a7:∀{r},S1.A r= .none->e.A r= .none:=fun{r} w=>(hb.A af).I w;have R2:RT e S2 Y .e .e [.d .i64 M.A,ofL M.B,nv,kv,P,sv, .e, .d .i64 0, .e] (fun _=>False) JF.a []:=⟨(hb.A af).A g2,a7 run,⟨t2,r2⟩,⟨[],SlF.I _ _ _,rfl,fun i h=>absurd h (XH _)⟩,⟨[],SlF.I _ _ _,rfl,fun i h=>absurd h (XH _)⟩,fun r w=>(nomatch w),fun r w=>(nomatch w),fun r (w:False)=>w.elim⟩
 have N2:RN e S2 k JF Y .e .e .e nv kv sv P (fun _=>False) [] [] 0:=⟨by grind,Qd.F,SlF.I _ _ _,(fun r w=>by cases w),XC _,fun y h=>absurd h (XH _)⟩
 obtain⟨F,hF⟩:∃F:St->Prop,∀S,F S<->∀r,S1.A r≠ .none->S.A r=S1.A r:=⟨_,fun _=>Iff.rfl⟩
 have F2:F S2:=(hF _).2 fun r w=>g2.d r w;have ah:∀{S:St},F S->∀{r},p.A r≠ .none->S.A r=p.A r:=fun{S} f {r} w=>by rw[(hF _).1 f r (by rw[af.d r w];exact w),af.d r w]
 have a8:∀{S:St},F S->∀{r},S.A r= .none->S1.A r= .none:=fun{S} f {r} w=>Xd fun c=>c (by grind);have am:∀{S:St},F S->S.A p1= .a t0 [.d .i64 M.A,ofL M.B,nv,kv,P,sv]:=fun f=>((hF _).1 f p1 (Jb r1)).trans r1;have bw:∀{S:St},F S->LstAt (NmC (fun r=>e.A r≠ .none) S) (fun r=>e.A r≠ .none) S P 5 k.a:=fun f=>h2.G (fun _ _ x=>x.A fun r n w=>⟨n,ah f w⟩) fun r n w=>⟨n,ah f w⟩
 rw[Jd,Ja];simp[XY];obtain⟨J,hJ⟩:=opE fun fr S=>∃(lv tv dv:V) (O:Pt->Prop) (tr:List Ty) (Z:List Nat),fr 1= .g p1 0/\fr 4= .g Y 0/\RN e S k (Jr k.a JF).1 Y lv tv dv nv kv sv P O tr Z 0/\F S/\(∀r,Bt Y lv tv O r\/rowOf dv=some r->S1.A r= .none)/\Z.length=k.a.length/\(Jr k.a JF).2=0;refine Jo (fun j fr S=>∃(i:Nat) (lv tv dv:V) (O:Pt->Prop) (tr:List Ty) (Z:List Nat) (W:Tb),j+i=k.a.length/\fr 1= .g p1 0/\fr 4= .g Y 0/\fr 5= .d .i64 (i:Nat)/\RN e S k W Y lv tv dv nv kv sv P O tr Z 0/\F S/\(∀r,Bt Y lv tv O r\/rowOf dv=some r->S1.A r= .none)/\Z.length=i/\Jr k.a JF=Jr (k.a.drop i) W) k.a.length (by omega) ⟨0, .e, .e, .e,_,[],[],JF,by omega,rfl,rfl,by rfl,N2,F2,(fun r w=>by rcases w with(w|w|w|w)|w<;>first|grind|cases w),rfl,rfl⟩ ?_;rintro L hL j fr S3 ⟨i,lv,tv,dv,O,tr,Z,W,hj,f1,f4,f5,N,F3,fb,ca,ad⟩;have g3:=N.a.g;by_cases hi:i<k.a.length
 ·have a9:=wiN (i:=i) (by omega);obtain⟨q,o,w,a1,a2,a3,a4,⟨ce,he,aw⟩,cd,a5⟩:=(bw F3).A hi;obtain⟨hf,bp⟩:=az _ (Xh hi);rw[Xc hi]at ad;obtain⟨X,hX⟩:=exE (k.a[i]);rw[<-hX]at aw hf bp ad he;obtain⟨bx,bz,cf,rfl,y1,y2,_,_⟩:=aw.B;subst he;have d0:=a5 1 (by simp);have b0:ldn (S3.A q) (o+1) 4=some (.j [.d .i64 X.2.A,ofL X.2.B,bx,bz], .a):=Jqm a4;rw[Jd,Ja];simp[XY,f1,f5,am F3,l2,hi];rw[Jd];simp[XY];rw[Ja];simp[XY,f1,f4,f5,am F3,a1,b0];by_cases aa:(addT X.2 400 W).2.2.1=0;rotate_left
  ·refine Je (JsI _ X.2 (XO _) N.a N.t aw aa hf bp ⟨_,_,_,_,_,_,_,_,_,rfl⟩) ?_;rintro _ S4 ⟨g4,K4,rfl⟩;have hz:(Jr k.a JF).2=20:=by
    rw[ad,show X=(X.1,X.2)from rfl,Jj1 aa];exact(Jfr X.2 400 W).resolve_left aa
   simp[XZ];refine au _ _ (fun r w=>by rw[K4.c r (by grind) fun b=>w (by grind),ah F3 w]) fun _=> ?_;unfold Jf4
   grind
  refine Je (Jqg _ X.2 (XO _) N.a N.t aw aa ⟨_,_,_,_,_,_,_,_,_,rfl⟩) ?_;rintro _ S4 ⟨T,U,O4,ba,R4,T4,K4,rfl⟩;obtain⟨t4,r4⟩:=R4.d;obtain⟨_,_,ao,_⟩:=Yz X.2 aa;obtain⟨rn,ap⟩:=JfI aa;obtain⟨ai,ag⟩:=exE ((addT X.2 400 W).1);obtain⟨id,hid⟩:=exE ((addT X.2 400 W).2.1);rw[<-ag]at R4 T4 ao ap;rw[<-hid]at ao⊢;have bb:Jr k.a JF=Jr (k.a.drop (i+1)) {ai with c:=setI X.1 id ai.c}:=by rw[ad,show X=(X.1,X.2)from rfl,Jlj aa,ag,hid]
  have bc:∀r,rowOf dv=some r->S3.A r≠ .none:=fun r w=>N.d.A w;have bd:SlF e S4 dv 1 (ints Z):=N.d.B fun r hr=>K4.c r (bc r hr) (N.c r hr);have aq:∀r,rowOf dv=some r->¬Bt Y T U O4 r:=fun r hr b=>by
   rcases K4.d r b with x|x
   ·exact N.c r hr x
   grind
  have w4:=R4.g.D;obtain⟨n4,bq⟩:=nxE S4;have cg:=fun y=>nes (Jt w4 bq (Jb r4) y);have F4:F S4:=(hF _).2 fun r w=>by rw[K4.c r (by grind) fun b=>w (fb r (.inl b)),(hF _).1 F3 r w]
  have b1:∀r,Bt Y T U O4 r->S1.A r= .none:=fun r b=>(K4.d r b).elim (fun x=>fb r (.inl x)) fun x=>a8 F3 x;simp[XY];rw[Jd,Ja];simp[XY];simp[XY,f4,r4,bq];obtain⟨A5,be⟩:=exE (S4.B fun t=>Row.a t [V.d .i64 (id:Nat)]);have ab:Gr S4 A5:=by rw[be];exact Gr.G w4 (Jc _)
  have br:SlAt (fun r=>r=up 0 n4) A5 (.m (up 0 n4) 0 1 1 1) 1 [[.d .i64 (id:Nat)]]:=by
   have:=QE (st:=S4) (z:=1) (e:=[.d .i64 (id:Nat)]) rfl
   grind
  rw[<-be];clear be;have r5:=ab.B r4;refine Yc (S0:=e) (R4.g.A ab) (bd.G ab) br (fun w he=>by rw[Xj.1 he];rfl) (by simp) (by simp) (by rw[JP];grind) ?_;intro A6 ae g6 h6 bt bf;have r6:A6.A Y= .a t4 [T,U, .d .i64 k.b.A,ofL k.b.B,nv,kv,P,sv,dv, .d .i64 ((0:Nat):Int), .e]:=(bf Y (Jb r5) fun w=>aq Y w (.inl rfl)).trans r5;have b2:=h6.D.B;have b3:=h6.D.A;simp[XZ,f5,r6,b2,b3,a9];have bu:∀r,A5.A r≠ .none->r≠A5.b:=fun r w c=>w (by rw[c];exact J6 ab.D);have k7:∀r,Bt Y T U O4 r->r≠Y->(A6.D Y t4 fun u=>Row.a u [T,U, .d .i64 k.b.A,ofL k.b.B,nv,kv,P,sv,ae, .d .i64 ((0:Nat):Int), .e]).A r=S4.A r:=fun r b hr=>by
   have al:=R4.A r b;rw[JQ,Xa hr,bf r (by rw[ab.d r al];exact al) fun w=>aq r w b,ab.d r al]
  have g7:Gr e (A6.D Y t4 fun u=>Row.a u [T,U, .d .i64 k.b.A,ofL k.b.B,nv,kv,P,sv,ae, .d .i64 ((0:Nat):Int), .e]):=g6.J (a7 run) (Jb r6) (by rw[r6];rfl) (Jc _);have ax:∀r,rowOf ae=some r->¬Bt Y T U O4 r:=fun r w b=>by
   rw[bt]at w;injection w with w;have al:=R4.A r b;exact bu r (by rw[ab.d r al];exact al) w.symm
  have b4:=R4.B (rest':=[.d .i64 k.b.A,ofL k.b.B,nv,kv,P,sv,ae, .d .i64 ((0:Nat):Int), .e]) g7 ⟨_,Jh _ _ _ _⟩ k7;have b5:SlF e (A6.D Y t4 fun u=>Row.a u [T,U, .d .i64 k.b.A,ofL k.b.B,nv,kv,P,sv,ae, .d .i64 ((0:Nat):Int), .e]) ae 1 (ints (Z++[id])):=by
   have w:ints (Z++[id])=ints Z++[[.d .i64 (id:Nat)]]:=by simp[ints]
   rw[w];exact h6.B fun r hr=>by rw[JQ,Xa fun c=>ax r hr (.inl c)]
  have F7:F (A6.D Y t4 fun u=>Row.a u [T,U, .d .i64 k.b.A,ofL k.b.B,nv,kv,P,sv,ae, .d .i64 ((0:Nat):Int), .e]):=(hF _).2 fun r w=>by
   have e4:S4.A r≠ .none:=by grind
   rw[JQ,Xa fun x=>w (fb r (.inl (.inl x))),bf r (by rw[ab.d r e4];exact e4) fun x=>w (fb r (.inr x)),ab.d r e4,(hF _).1 F4 r w]
  have b6:∀r,Bt Y T U O4 r\/rowOf ae=some r->S1.A r= .none:=fun r w=>by
   rcases w with w|w
   ·grind
   ·rw[bt]at w;injection w with w;exact a8 F4 (Xd fun c=>bu r (by rw[ab.d r c];exact c) w.symm)
  refine⟨k.a.length-(i+1),by omega,hL _ _ _ ⟨i+1,T,U,ae,O4,ba,Z++[id],{ai with c:=setI X.1 id ai.c},by omega,f1,f4,rfl,⟨b4,T4,b5,ax,by grind,fun y hk bg=> ?_⟩,F7,b6,by grind,bb⟩⟩;by_cases w:y<Z.length
  ·rw[Xw w];have:=N.b y w bg;rw[ap];exact jm _ this
  grind
 ·rw[Xm (by omega),Jr]at ad;rw[ad,Xa fun y=>y rfl,<-hM]at Q;have Q:newS k=if(addT M 400 W).2.2.1≠0 then(none,(addT M 400 W).2.2.1)else(some {(addT M 400 W).1 with b:=(addT M 400 W).2.1},0):=Q;rw[<-hM]at aj ak;have bv:TyC (fun r=>e.A r≠ .none) S3 [.d .i64 M.A,ofL M.B,nv,kv] M:=h1.A fun r n w=>⟨n,ah F3 w⟩
  have b7:ldn (S3.A p1) 0 4=some (.j [.d .i64 M.A,ofL M.B,nv,kv], .a):=by rw[am F3];rfl
  rw[Jd,Ja];simp[XY,f1,f5,am F3,l2,hi];rw[Ja];simp[XY,f1,f4,b7];by_cases aa:(addT M 400 W).2.2.1=0;rotate_left
  ·refine Je (JsI _ M (XO _) N.a N.t bv aa aj ak ⟨_,_,_,_,_,_,_,_,_,rfl⟩) ?_;rintro _ S4 ⟨g4,K4,rfl⟩;simp[XZ];refine au _ _ (fun r w=>by rw[K4.c r (by grind) fun b=>w (by grind),ah F3 w]) fun _=> ?_;unfold Jf4;rw[Q,Xe aa,(Jfr M 400 W).resolve_left aa]
  rw[Xa fun y=>y aa]at Q;refine Je (Jqg _ M (XO _) N.a N.t bv aa ⟨_,_,_,_,_,_,_,_,_,rfl⟩) ?_;rintro _ S4 ⟨T,U,O4,ba,R4,T4,K4,rfl⟩;obtain⟨t4,r4⟩:=R4.d;obtain⟨rn,ap⟩:=JfI aa;obtain⟨ai,ag⟩:=exE ((addT M 400 W).1);obtain⟨id,hid⟩:=exE ((addT M 400 W).2.1);rw[<-ag]at R4 T4 ap Q;rw[<-hid]at Q⊢;have bc:∀r,rowOf dv=some r->S3.A r≠ .none:=fun r w=>N.d.A w;have bd:SlF e S4 dv 1 (ints Z):=N.d.B fun r hr=>K4.c r (bc r hr) (N.c r hr);have aq:∀r,rowOf dv=some r->¬Bt Y T U O4 r:=fun r hr b=>by
   rcases K4.d r b with x|x
   ·exact N.c r hr x
   grind
  simp[XY];rw[Jd,Ja];simp[XY];rw[Ja];simp[XY,f4,r4];obtain⟨S5,ar⟩:=exE (S4.D Y t4 fun u=> .a u [T,U, .d .i64 k.b.A,ofL k.b.B,nv,kv,P,sv,dv, .d .i64 (id:Nat), .e]);have g5:Gr e S5:=by rw[ar];exact R4.g.J (a7 run) (Jb r4) (by rw[r4];rfl) (Jc _)
  have k5:∀r,r≠Y->S5.A r=S4.A r:=fun r w=>by rw[ar,JQ,Xa w]
  have r5:∃t,S5.A Y= .a t [T,U, .d .i64 k.b.A,ofL k.b.B,nv,kv,P,sv,dv, .d .i64 (id:Nat), .e]:=⟨_,by rw[ar,JQ,Xe rfl]⟩
  rw[<-ar];clear ar;have F4:F S4:=(hF _).2 fun r w=>by rw[K4.c r (by grind) fun b=>w (fb r (.inl b)),(hF _).1 F3 r w]
  have b1:∀r,Bt Y T U O4 r->S1.A r= .none:=fun r b=>(K4.d r b).elim (fun x=>fb r (.inl x)) fun x=>a8 F3 x;have F5:F S5:=(hF _).2 fun r w=>by grind
  have b8:¬(0:Int)<0:=by omega
  rw[Jd,Ja];simp[XY];refine Jct (by omega) ?_;simp[XZ,f1,f4,am F5,l3,b8];refine au _ _ (fun r w=>ah F5 w) fun _=> ?_;unfold Jf4;rw[Q];refine⟨Y,T,U,dv,nv,kv,sv,P,O4,ba,Z,rfl,⟨R4.B g5 r5 fun r _ w=>k5 r w,T4,bd.B fun r hr=>k5 r fun w=>aq r hr (.inl w),aq,by omega,fun y hk bg=> ?_⟩,by omega,h2.G (fun _ _ x=>x.A fun r n w=>⟨n,(hb.d r n).symm⟩) fun r n w=>⟨n,(hb.d r n).symm⟩,fun r w=> ?_⟩;rotate_left
  ·grind
  show Ki ai.a _=_;rw[ap];exact jm _ (N.b y hk bg)
theorem _root_.Eva.RT.H {g S:St}{i:Pt}{k n:V}{c:List V}{O:Pt->Prop}{a:List Nd}{b:List Ty}(h:RT g S i k n c O a b):∀r,Bt i k n O r->g.A r= .none:=fun r e=>by
 obtain⟨s,p,_⟩:=h.l;obtain⟨u,q,_⟩:=h.t;rcases e with rfl|e|e|e
 ·exact h.m
 ·exact(p.H e).1
 ·exact(q.H e).1
 ·exact(h.o r e).2.1
theorem Jur {d:V}(c:∀a,a=r\/rowOf z=some a\/rowOf q=some a\/rowOf d=some a->P a)(f:∀a,b a->P a\/Q a):∀a,Bt r z q b a\/rowOf d=some a->P a\/Q a:=fun a e=>by
 rcases e with(e|e|e|e)|e
 ·exact .inl (c a (.inl e))
 ·exact .inl (c a (.inr (.inl e)))
 ·exact .inl (c a (.inr (.inr (.inl e))))
 ·exact f a e
 ·exact .inl (c a (.inr (.inr (.inr e))))
structure DT (Z:Pt->Prop) (S:St) (U:Pt->Prop) (ru:Pt) (s:Sch) (tb:Tb):Prop where
 wf:WF S
 i:∃(T:Pt->Prop) (lv tv dv nv kv sv tyv:V) (O:Pt->Prop) (tr:List Ty) (ids:List Nat),RN (bs T S) S s tb ru lv tv dv nv kv sv tyv O tr ids tb.b/\ids.length=s.a.length/\LstAt (NmC (fun r=>T r) S) (fun r=>T r) S tyv 5 s.a/\(∀r,T r->U r\/Z r)/\(∀r,r=ru\/rowOf lv=some r\/rowOf tv=some r\/rowOf dv=some r->U r)/\∀r,O r->U r\/Z r
 f:∀r,U r\/Z r->S.A r≠ .none
section
variable {Z U U' U'' : Pt -> Prop} {S S' S'' : St} {ru : Pt} {s : Sch} {tb tb' : Tb}
theorem JrJ {i k l m g:V}{h:List Nat}(N:RN (bs P S) S s tb ru z q i k l m g b t h n)(w:WF S')(o:∀r,P r->S.A r≠ .none->Q r/\S'.A r=S.A r)(j:∀r,Bt ru z q b r\/rowOf i=some r->¬Q r/\S'.A r=S.A r):RN (bs Q S') S' s tb ru z q i k l m g b t h n:=
 ⟨N.a.F w (fun r e=>(o r (Jd6 e).1 (Jd6 e).2).1) (fun r f=>j r (.inl f)) fun r e=>(o r (Jd6 e).1 (Jd6 e).2).2,N.t,N.d.F fun r e=>⟨Jdl (j r (.inr e)).1,(j r (.inr e)).2⟩,N.c,N.e,N.b⟩
theorem JtH {h i j k f:V}{g:List Nat}(N:RN (bs P S) S s tb ru z q h i j k f Q t g n):∀r,Bt ru z q Q r\/rowOf h=some r->¬P r/\S.A r≠ .none:=fun r e=>by
 have c:(bs P S).A r= .none/\S.A r≠ .none:=by
  rcases e with e|e
  ·exact⟨N.a.H r e,N.a.A r e⟩
  ·exact⟨(N.d.H e).1,N.d.A e⟩
 exact⟨fun b=>c.2 (by rw[<-Jhw (S:=S) b];exact c.1),c.2⟩
theorem DT.A (h:DT Z S U ru s tb)(w:WF S')(k:∀r,U r\/Z r->S'.A r=S.A r):DT Z S' U ru s tb:=by
 obtain⟨T,m,n,o,q,v,y,g,O,z,j,N,a,b,c,d,l⟩:=h.i;exact⟨w,⟨T,m,n,o,q,v,y,g,O,z,j,JrJ N w (fun r t _=>⟨t,k r (c r t)⟩) fun r e=>⟨(JtH N r e).1,k r (Jur d l r e)⟩,a,b.G (fun _ _ x=>x.A fun r p _=>⟨p,k r (c r p)⟩) fun r p _=>⟨p,k r (c r p)⟩,c,d,l⟩,fun r u=>by rw[k r u];exact h.f r u⟩
theorem DT.B (h:DT Z S U ru s tb)(g:Gr S S'):DT Z S' U ru s tb:=h.A g.D fun r u=>g.d r (h.f r u)
theorem DT.D (h:DT Z S U ru s tb)(w:WF {S with a:=n}):DT Z {S with a:=n} U ru s tb:=h.A w fun r u=>rfl
theorem DT.F (h:DT Z S U ru s tb)(o:kC s tb):∃j,RD j S s tb ru:=by
 obtain⟨T,l,m,p,q,u,v,e,O,w,g,N,a,b,c,d,y⟩:=h.i;have k:∀r,T r->S.A r≠ .none->(bs T S).A r≠ .none/\(bs T S).A r=S.A r:=fun r t n=>by rw[Jhw t];exact⟨n,rfl⟩
 exact⟨_,⟨l,m,p,q,u,v,e,O,w,g,N,a,b.G (fun _ _ x=>x.A k) k⟩,o⟩
end
theorem jW {g:Nat}(O:n=150/\g=1\/n=83/\g=1\/n=166/\g=3\/n=38/\g=4\/n=84/\g=9\/n=86/\g=2\/n=42/\g=2\/n=127/\g=1\/n=128/\g=7\/n=27/\g=2)(q:WF e)(h:SlAt P e z g d)(L:okC d)(Q:d.length<2^20):
  Dz n [z] e fun S y=>Gr e y/\SlF e y S g d:=by
 obtain⟨i,k⟩:=nxE e;have s:=fun r (h:e.A r≠ .none)=>jR q k h;have N:SlAt P (e.B fun t=> .a t []) z g d:=h.D fun r p j=>⟨p,KC q _ j⟩
 have J:appV (e.B fun t=> .a t []) g (.m e.b 0 0 g 0) z=if 0<d.length then some (.w (e.B fun t=> .a t []).b 0 d.length g, .b fun u=> .a u d.flatten)else some (.m e.b 0 0 g 0, .a):=by
  by_cases x:0<d.length
  ·rw[Xe x];exact Jnx N L Q x (JI e fun t=> .a t [])
  ·rw[Xa x];have:d=[]:=XD.1 (by omega);subst this;exact Jk7 N
 rw[k]at J;rcases O with⟨rfl,rfl⟩|⟨rfl,rfl⟩|⟨rfl,rfl⟩|⟨rfl,rfl⟩|⟨rfl,rfl⟩|⟨rfl,rfl⟩|⟨rfl,rfl⟩|⟨rfl,rfl⟩|⟨rfl,rfl⟩|⟨rfl,rfl⟩
 refine Does.B tabM q (Jl (aT Tryz.func150 rfl) rfl ?_);rotate_left;refine Does.B tabM q (Jl (aT Tryz.func83 rfl) rfl ?_);rotate_left;refine Does.B tabM q (Jl (aT Tryz.func166 rfl) rfl ?_);rotate_left;refine Does.B tabM q (Jl (aT Tryz.func38 rfl) rfl ?_);rotate_left;refine Does.B tabM q (Jl (aT Tryz.func84 rfl) rfl ?_);rotate_left;refine Does.B tabM q (Jl (aT Tryz.func86 rfl) rfl ?_);rotate_left;refine Does.B tabM q (Jl (aT Tryz.func42 rfl) rfl ?_);rotate_left;refine Does.B tabM q (Jl (aT Tryz.func127 rfl) rfl ?_);rotate_left;refine Does.B tabM q (Jl (aT Tryz.func128 rfl) rfl ?_);rotate_left;refine Does.B tabM q (Jl (aT Tryz.func27 rfl) rfl ?_);rotate_left
 all_goals
  rcases h.2 with⟨rfl,rfl⟩|⟨r,o,U,T,l,W,X,Y⟩
  ·have K:eqV (.a .l) false .e .e=some (.h true, .a):=rfl;simp only[CT,Tryz.f150,Tryz.f83,Tryz.f166,Tryz.f38,Tryz.f84,Tryz.f86,Tryz.f42,Tryz.f127,Tryz.f128,Tryz.f27,XZ,simprocAttr,K];exact⟨fun _ _=>trivial,SlF.I _ _ _⟩
  ·have K:eqV (.a .l) false z .e=some (.h false, .a):=by rcases T with rfl|⟨c,_,rfl⟩<;>rfl
   by_cases x:0<d.length
   ·simp only[x]at J;simp only[CT,Tryz.f150,Tryz.f83,Tryz.f166,Tryz.f38,Tryz.f84,Tryz.f86,Tryz.f42,Tryz.f127,Tryz.f128,Tryz.f27,XZ,simprocAttr,K,k,Jl9,J];exact⟨fun r M=>by simp only[s r M,X8],h.1, .inr ⟨up 1 i,(e.B fun t=> .a t []).t,nx0 q k 1,by simp only[XZ,simprocAttr,k], .inl rfl⟩⟩
   ·simp only[x]at J;simp only[CT,Tryz.f150,Tryz.f83,Tryz.f166,Tryz.f38,Tryz.f84,Tryz.f86,Tryz.f42,Tryz.f127,Tryz.f128,Tryz.f27,XZ,simprocAttr,K,k,Jl9,J];have:d=[]:=XD.1 (by omega);subst this;exact⟨fun r M=>by simp only[s r M,X8],h.1, .inr ⟨up 0 i,e.t,nx0 q k 0,by simp only[XZ,simprocAttr,k,List.flatten_nil], .inr rfl⟩⟩
theorem Jdu (m:n=150\/n=83)(c:WF e)(h:SlAt P e z 1 d)(b:okC d)(i:d.length<2^20)(j:∀r,e.A r= .none->Q r):
  Dz n [z] e fun l a=>Gr e a/\SlAt Q a l 1 d:=
 (jW (by grind) c h b i).A fun _ _ ⟨g,k⟩=>⟨g,k.D.D fun r p _=>⟨j r p,rfl⟩⟩
theorem keyed {i:Nd}(s:WF e)(h:NdC P e v i)(o:i.A):
  Dz 149 [.j v] e fun f J=>Gr e J/\f= .j (keyL i):=by
 refine Does.B tabM s (Jl (aT Tryz.func149 rfl) rfl ?_);obtain⟨n,g⟩:=nxE e;have m:=fun r (h:e.A r≠ .none)=>jR s g h;obtain⟨nv,kv,rfl,K,M⟩:=h;have S:=K.G;have T:=M.G;rw[Jv]at S;rw[JP]at T;simp only[CT,Tryz.f149,XZ,simprocAttr,g,K.B,M.B,S,T];have hS:=fun(r:Pt) (hr:e.A r≠ .none)=>m r hr;refine JmJ (st0:=e) (t:= ?t) (l:= ?l) K ?hS (Ya _) ?hr ?hle ?hn ?k
 case hr=>simp only[XZ,simprocAttr];rfl
 case hS=>intro r hr;simp[XZ,g,m r hr]
 case hle=>simp
 case hn=>rw[Jv];exact o.1
 intro u t1 w x U;have Y:u.A (up 0 n)= .a _ _:=(x _ (by simp only[Jak];decide)).trans (by simp only[XZ,simprocAttr,g];rfl);have N:u.A (up 1 n)= .a _ _:=(x _ (by simp only[Jak];decide)).trans (by simp only[XZ,simprocAttr,g];rfl);have O:∀r,e.A r≠ .none->u.A r=e.A r:=fun r hr=>(x r (Jt s g hr 2)).trans (by simp[XZ,g,m r hr]);have W:u.b=up 3 n:=U.trans (by simp[XZ,g]);clear x U;rw[Jg0,Juh _ _ _ _ _ _ _ (by simpa using o.1)]at w;obtain⟨Z,p⟩:∃L,L=[V.d IntKind.i64 i.a,V.d IntKind.i64 ↑i.b.length,V.d IntKind.i64 ↑i.c.length,ofL i.d]++(pad (i.b.map ofL) (ofL [])++List.replicate 8 (V.d IntKind.i64 0)):=⟨_,rfl⟩
 rw[<-p]at w;have q:20<=Z.length:=by
  rw[p,XW,XW,Jek (by simpa using o.1),List.length_replicate];simp
 simp[XZ,w,Y,q];refine JmJ (st0:=e) M O (Jej _) w q (by rw[JP];exact o.2) ?_;intro y t2 z Q X;have N:y.A (up 1 n)= .a _ _:=(Q _ (by simp only[Jak];decide)).trans N;have O:∀r,e.A r≠ .none->y.A r=e.A r:=fun r hr=>(Q r (Jt s g hr 2)).trans (O r hr);have W:y.b=up 3 n:=X.trans W;clear Q X;rw[Jg1,p,Jui _ _ _ _ _ _ _ _ (by simpa using o.1) (by simpa using o.2)]at z;have z:y.A (up 2 n)= .a t2 (keyL i):=z;have k1:=Jcn o;have k2:20<=(keyL i).length:=by omega
 have k3:(keyL i).take 20=keyL i:=by grind
 simp[XZ,z,N,k3,k1,Jh3]
 grind
theorem lay {F:Pt->Prop}{K:Tb}{nd:Nd}(hw:WF e)(N:Tab Q F e r K)(hn:NdC P e v nd)(hf:nd.A):
  Dz 116 [.g r 0, .j v] e fun m ap=>Ch Q e ap/\(∃W' F':Pt->Prop,(∀o,Q o->W' o)/\(∀o,W' o->Q o\/e.A o= .none)/\(∀o,F' o->F o\/e.A o= .none)/\Tab W' F' ap r (layS K nd).1)/\m= .p [.d .i64 ((layS K nd).2.1:Nat), .d .i64 (layS K nd).2.2]:=by
 refine Does.G tabM hw (Jl (aT Tryz.func116 rfl) rfl ?_);obtain⟨lv,ra,rn,rs,es,sv,N⟩:=N.B;obtain⟨n,af⟩:=nxE e;have aq:=hn;obtain⟨nv,kv,rfl,h1,h2⟩:=hn;have g0:Gr e (e.B fun t=> .a t [.d .i64 nd.a,ofL nd.d,nv,kv]):=Gr.G hw fun u=>⟨rfl,fun v=>by cases v⟩
 simp only[CT,Tryz.f116,XZ,simprocAttr,af,h1.B,h2.B];refine Je (keyed (P:=P) g0.D (aq.B g0) hf) ?_;rintro _ Y ⟨g1,rfl⟩;have G1:=g0.A g1;have w1:=G1.D;have b0:Y.A (up 0 n)= .a e.t [.d .i64 nd.a,ofL nd.d,nv,kv]:=g1.B (by simp[XZ,af]);have U:=N.T G1;have bb:=aq.B G1;obtain⟨n1,Z⟩:=nxE Y;have aa:=fun o (h:Y.A o≠ .none)=>jR w1 Z h;have o0:=aa (up 0 n) (by grind);obtain⟨tt,c1⟩:=U.s;have ar:=aa r U.B;have k1:=Jcn hf;have k2:20<=(keyL nd).length:=by omega
 have k3:(keyL nd).take 20=keyL nd:=by grind
 have ai:ekN.A (encN nd)=true:=by
  have:(keyL nd).length==20:=by grind
  exact this
 have au:∀p∈(K.a.zipIdx.map fun p=>(p.1,V.d .i64 (p.2:Int))),ekN.B (encN nd) (encN p.1)=some (decide (nd=p.1)):=fun p hp=>by
  obtain⟨q,hq,rfl⟩:=Xz.1 hp;exact Jth hf (U.J _ (List.fst_mem_of_mem_zipIdx hq))
 have av:∀S:St,S.A ra=Y.A ra->Q9 S ekN (.d .i64 0) true (.q ra) (.j (keyL nd))=some (ansL (.d .i64 0) true (at_ nd (K.a.zipIdx.map fun p=>(p.1,V.d .i64 (p.2:Int)))), .a):=fun S hS=>
  K0 (enc:=encN) (U.y.B hS) _ _ nd au ai
 have aw:=aa ra U.y.A;have k4:Jw [V.d .i64 0,V.d .i64 0,V.d .i64 0,ofL [],ofL [],ofL [],ofL [],ofL [],ofL [],ofL [],ofL [],ofL [],V.d .i64 0,V.d .i64 0,V.d .i64 0,V.d .i64 0,V.d .i64 0,V.d .i64 0,V.d .i64 0,V.d .i64 0] 0 (keyL nd)=keyL nd:=YO (by rw[k1];rfl);have ad:layS K nd=match idx nd K.a 0 with
  |some i=>(K,i,0)
  |none=>if 120<=K.a.length then(K,0,20)else({K with a:=K.a++[nd]},K.a.length,0):=rfl
 have g2:Gr Y ((Y.B fun t=> .a t zk).D (up 0 n1) Y.t fun u=> .a u (keyL nd)):=(Gr.F w1).M Z (Jc _) (Jc _);have hz:=Jh4 nd K.a 0
 cases hi:idx nd K.a 0 with
 | some i=>
   simp[hi]at ad hz;obtain⟨_,i1,i2⟩:=Jpc hi;simp at i1 i2;have i3:i<es.length:=by rw[N.D];exact i1
   obtain⟨q,qo,a1,a2,a3,a4,a5,a6⟩:=U.I i3;have oq:=aa q a2;simp only[XM,simprocAttr,Z,ar,c1,k1,k3,Jh3,k4,av,aw,hz,ansL,a1,oq,a5];refine Ji (keyed (Jq g2.D _) (((U.H i i3 i1).B g2).D _) (U.J _ (Xh i1))) ?_;rintro _ am g3 rfl;rw[i2];have kk:am.A (up 0 n1)= .a _ (keyL nd):=g3.B (by simp only[XZ,simprocAttr];rfl);have l1:(padI nd.c).length=8:=by have:=hf.2;simp[padI];omega
   simp only[XZ,simprocAttr,k1,Jny hf,kk,Jq6 l1];rw[ad];have G3:=G1.A (g2.A g3);exact⟨fun o h _=>G3.d o h,⟨Q,_,fun _ h=>h,fun _ h=> .inl h,fun _ h=> .inl h.1,lv,ra,rn,rs,es,sv,N.T G3⟩,rfl⟩
 | none=>
   simp[hi]at ad hz;simp only[XM,simprocAttr,Z,ar,c1,k1,k3,Jh3,k4,av,aw,hz,ansL,U.l.B];by_cases aj:120<=K.a.length
   ·have ag:(120:Int)<=(K.a.length:Int):=by omega
    simp only[XZ,simprocAttr,ag];rw[ad,Xe aj];have G3:=G1.A g2;exact⟨fun o h _=>by have:=G3.d o h;simpa only[KR,JQ,Z]using this,⟨Q,_,fun _ h=>h,fun _ h=> .inl h,fun _ h=> .inl h.1,lv,ra,rn,rs,es,sv,N.T G3⟩,rfl⟩
   have ag:¬(120:Int)<=(K.a.length:Int):=by omega
   simp only[XZ,simprocAttr,ag,b0,o0,Z];refine Ji (Jdu (.inr rfl) (Q:=fun o=>e.A o= .none/\¬Q o/\o≠up 0 n) (Jq g2.D _) (((h1.I G1).I g2).L _) (Ya _) (by rw[Jv];have:=hf.1;omega) ?_) ?_
   ·exact fun o X=>⟨Ch.B (Ch.H Q (G1.A g2)) X,fun w=>N.u o w (by rw[<-(G1.A g2).d o (N.u o w)];exact X),fun v=>Jb (g2.B b0) (by rw[<-v];exact X)⟩
   rintro ae am g3 c3;have c3:=c3.S;have b3:am.A (up 0 n)= .a _ _:=g3.B (g2.B b0);simp only[XZ,simprocAttr,b3];refine Ji (Jdu (.inl rfl) (Q:=fun o=>e.A o= .none/\¬Q o/\o≠up 0 n) (Jq g3.D _) ((((h2.I G1).I g2).I g3).L _) (Jej _) (by rw[JP];have:=hf.2;omega) ?_) ?_
   ·exact fun o X=>⟨Ch.B (Ch.H Q ((G1.A g2).A g3)) X,fun w=>N.u o w (by rw[<-((G1.A g2).A g3).d o (N.u o w)];exact X),fun v=>Jb b3 (by rw[<-v];exact X)⟩
   rintro ah z g4 c4;have c4:=c4.S;have c3:=c3.I g4;have b4:z.A (up 0 n)= .a _ _:=g4.B b3;have kk:z.A (up 0 n1)= .a _ (keyL nd):=g4.B (g3.B (by simp only[XZ,simprocAttr];rfl));have G4:Gr e z:=((G1.A g2).A g3).A g4;have ab:=N.T G4;obtain⟨t4,d4⟩:=ab.s;obtain⟨t5,m5⟩:=ab.y;have ax:=nes (Jt hw af N.B 0);have bc:=nes (Jt w1 Z U.B 0);have ak:=nes (Jt hw af N.y.A 0);have ay:=nes (Jt w1 Z (Jb b0) 0);have al:=nes (show r≠ra from fun v=>by grind);have bd:=nes (Jt w1 Z U.y.A 0);have az:∀(S:St) (m:V),S.A ra=z.A ra->JdK S ekN (.q ra) (.j (keyL nd)) m=_:=fun S m hS=>jD (enc:=encN) (hS.trans m5) nd m au ai;obtain⟨n4,x⟩:=nxE z;have w4:=g4.D;have a0:=fun o (h:z.A o≠ .none)=>jR w4 x h;have be:=nes (Jt w4 x ab.B 0);have bf:=nes (Jt w4 x (Jb b4) 0);have a7:=nes (Jt w4 x ab.y.A 0);have a8:=nes (Jt w4 x ab.B 1);have gw:Gr Y Y:=Gr.F w1;have wS:WF ((((z.D (up 0 n) e.t fun u=>Row.a u [V.d IntKind.i64 nd.a,ofL nd.d,ae,kv]).D (up 0 n) z.t fun u=>Row.a u [V.d IntKind.i64 nd.a,ofL nd.d,ae,ah]).D ra t5 fun u=>Row.b u
        (List.map (fun p=>(encN p.fst,p.snd)) (Y4 nd (V.d IntKind.i64 ↑K.a.length) (List.map (fun p=>(p.fst,V.d IntKind.i64 ↑p.snd)) K.a.zipIdx)))).B fun u=>Row.a u [V.d IntKind.i64 nd.a,ofL nd.d,ae,ah]):=by
    refine(jd (Q8 (Q8 (Q8 w4 (Jb b4) (by rw[b4];rfl) (Jc _)).wf ?_ ?_ (Jc _)).wf ?_ ?_ (Qb _)).wf (Jc _)).wf
    all_goals simp only[JQ,ak,ZS,X8,m5]
    ·simp
    ·rfl
    ·simp
    ·rfl
   have bg:z.A ra≠ .none:=ab.y.A;simp only[XZ,simprocAttr,b4,kk,d4,c3.A,c4.A,c3.B,c4.B,ax,ak,ay,al,k2,k3,ab.l.B,az,x];refine Jpd (rt:=r) (ab.l.D fun o t a9 bh ba=> ?_) (tq:= ?tq) (new:=[V.d IntKind.i64 nd.a,ofL nd.d,ae,ah]) ?hq rfl ?hsc (by omega) wS ?_
   ·have e1:=nes (Jt w4 x (Jb ba) 0);have e2:=nes (Jt hw af (N.u o a9) 0);have e3:=nes (show o≠ra from fun v=>by grind);simp[KR,JQ,Jal,x,e1,e2,e3]
   case hq=>simp[KR,Jal,x];rfl
   case hsc=>simp only[XZ,simprocAttr,c3.B,c4.B]
   intro S5 t6 r5 n5 s5 x5 _;simp[kj,Jal,x,ki,Nat.reduceAdd]at r5 n5;have f5:∀o,o≠up 1 n4->rowOf lv≠some o->o≠up 0 n4->o≠ra->o≠up 0 n->S5.A o=z.A o:=fun o a1 a2 a3 a4 a5=>by
    rw[s5 o (by simp[kj,Jal,x,ki];exact a1) a2];simp[KR,JQ,Jal,x,a3,a4,a5]
   have bi:rowOf lv≠some r:=fun v=>(N.l.A v).2.1 rfl;have d5:S5.A r= .a t4 [lv, .q ra, .q rn, .d .i64 K.b, .q rs]:=by grind
   simp only[XZ,simprocAttr,d5,x];rw[ad,Xa aj];have q1:z.A (up 1 n4)= .none:=nx0 w4 x 1;have q2:e.A (up 1 n4)= .none:=Xd fun v=>by rw[G4.d _ v]at q1;grind
   refine⟨fun o X hW=> ?_,⟨fun o=>Q o\/o=up 1 n4,fun o=>(F o/\e.A o≠ .none)\/(e.A o= .none/\¬Q o/\o≠up 1 n4),fun o w=> .inl w, ?_, ?_, .w (up 1 n4) 0 (K.a.length+1) 4,ra,rn,rs,es++[[.d .i64 nd.a,ofL nd.d,ae,ah]],sv,N.O q2 ⟨S5.t, ?_⟩ ⟨t6, ?_⟩ ⟨(((z.D (up 0 n) e.t fun u=>Row.a u [V.d IntKind.i64 nd.a,ofL nd.d,ae,kv]).D (up 0 n) z.t fun u=>Row.a u [V.d IntKind.i64 nd.a,ofL nd.d,ae,ah])).t, ?_⟩ ?_ ?_ (fun o f=> .inl f) ?_ ?_ hf hi (by omega)⟩, ?_⟩
   ·have e1:o≠r:=fun v=>hW (by rw[v];exact N.w.1);have e4:z.A o≠ .none:=by rw[G4.d o X];exact X
    simp[e1];rw[f5 o (Jt w4 x e4 1) (fun v=>hW (N.l.A v).1) (Jt w4 x e4 0) (fun v=>hW (by rw[v];exact N.w.2.1)) (Jt hw af X 0),G4.d o X]
   ·grind
   ·grind
   ·simp[JQ]
   ·simp[JQ,a8];exact r5
   ·simp[JQ,al];rw[s5 ra (by simp[kj,Jal,x,ki];grind) (fun v=>by obtain⟨_,_,t2,h2⟩:=ab.l.A v;grind)];simp[KR,JQ,Jal,x,a7]
   ·intro o X a1 a2 a3;have ao:z.A o≠ .none:=by rw[G4.d o X];exact X
    simp[JQ,a1];rw[f5 o (Jt w4 x ao 1) a3 (Jt w4 x ao 0) a2 (Jt hw af X 0),G4.d o X]
   ·intro o X;have ao:z.A o≠ .none:=by rw[G4.d o X];exact X
    simp[JQ]
    split
    ·simp
    ·refine x5 o ?_;simp[KR,JQ,Jal,x]
     grind
   ·rintro o (f|f)
    ·exact⟨N.M o f,fun v=>f.2 (by grind)⟩
    grind
   ·refine⟨ae,ah,rfl,c3.D fun o p v=> ?_,c4.D fun o p v=> ?_⟩
    all_goals
     refine⟨.inr ⟨p.1,p.2.1,Jt w4 x v 1⟩, ?_⟩;have e1:o≠r:=fun k=>p.2.1 (by rw[k];exact N.w.1);simp[JQ,e1];exact f5 o (Jt w4 x v 1) (fun k=>p.2.1 (N.l.A k).1) (Jt w4 x v 0) (fun k=>p.2.1 (by rw[k];exact N.w.2.1)) p.2.2
   ·rw[JX (by omega) (by omega)];simp
def JrK (W F:Pt->Prop)(st st':St)(rt lp:Pt)(tb':Tb)(left':Int):Prop:=
 Ch (fun r=>W r\/r=lp) st st'/\(∃W' F':Pt->Prop,(∀r,W r->W' r)/\(∀r,W' r->W r\/st.A r= .none)/\(∀r,F' r->F r\/st.A r= .none)/\Tab W' F' st' rt tb')/\∃t,st'.A lp= .a t [.d .i64 left']
theorem JrL (x:Tb×List Nat×Int×Int):pre [] x=x:=by rfl
structure AddI (W F:Pt->Prop) (st:St) (rt lp:Pt) (n:Pt) (k:Int) (nm:Str) (nv kv:V) (ks:List Ty) (left:Int) (tb:Tb) (j:Nat) (fr:Fr) (S:St) (i:Nat) (Wi Fi:Pt->Prop) (tbi:Tb) (lefti:Int) (ids:List Nat) (kvi:V) (tli tp:Nat):Prop where
 u:j+i=ks.length
 q:fr 0= .g rt 0
 t:fr 2= .g lp 0
 p:fr 8= .g (up 1 n) 0
 h:fr 42=kv
 d:fr 43= .d .i64 ks.length
 e:fr 44= .d .i64 i
 ch:Ch (fun r=>W r\/r=lp) st S
 s:∀r,W r->Wi r
 o:∀r,Wi r->W r\/st.A r= .none
 x:∀r,Fi r->F r\/st.A r= .none
 f:¬Wi (up 1 n)
 g:¬Wi lp
 l:¬Fi (up 1 n)
 m:¬Fi lp
 tab:Tab Wi Fi S rt tbi
 rlp:S.A lp= .a tli [.d .i64 lefti]
 rn:S.A (up 1 n)= .a tp [.d .i64 k,ofL nm,nv,kvi]
 ls:LsAt (fun r=>¬Wi r/\¬Fi r/\st.A r= .none/\r≠up 1 n) S lp kvi 1 ids.length (ids.map fun a:Nat=>V.d .i64 (a:Int))
 b:ids.length=i
 v:0<=lefti
 w:lefti<=left
 c:JA ks (left-1) tb=pre ids (JA (ks.drop i) lefti tbi)
theorem add :∀(m:Nat) (ty:Ty),tsz ty<m->∀(W F P:Pt->Prop) (y:St) (rt L:Pt) (tb:Tb) (e:List V) (left:Int) (tl:Nat),WF y->Tab W F y rt tb->TyC P y e ty->(∀r,P r->¬W r/\r≠L)->y.A L= .a tl [.d .i64 left]->¬W L->¬F L->0<=left->left<1000000->
  Dz 74 [.g rt 0, .j e, .g L 0] y fun v ad=>JrK W F y ad rt L (addT ty left tb).1 (addT ty left tb).2.2.2/\v= .p [.d .i64 ((addT ty left tb).2.1:Nat), .d .i64 (addT ty left tb).2.2.1]
 |0,_,h=>absurd h (by omega)
 | m+1, .mk k nm ns X,hm=>by
   intro W F P y rt L tb e left tl hw hT hx hP ab ba bk h0 h1;have aq:=QS k nm ns X left tb;refine(Does.D tabM hw (Jl (Q:=fun v ad=>(∀r,y.A r≠ .none->¬(W r\/r=L)->ad.A r=y.A r)/\(∃W' F':Pt->Prop,(∀r,W r->W' r)/\(∀r,W' r->W r\/y.A r= .none)/\(∀r,F' r->F r\/y.A r= .none)/\Tab W' F' ad rt (addT (.mk k nm ns X) left tb).1)/\(∃t,ad.A L= .a t [.d .i64 (addT (.mk k nm ns X) left tb).2.2.2])/\v= .p [.d .i64 ((addT (.mk k nm ns X) left tb).2.1:Nat), .d .i64 (addT (.mk k nm ns X) left tb).2.2.1]) (aT Tryz.func74 rfl) rfl ?_)).A fun v ad ⟨mn,a,b,c,d⟩=>⟨⟨⟨mn.d,a⟩,b,c⟩,d⟩
   obtain⟨n,N⟩:=nxE y;have ar:=fun r (h:y.A r≠ .none)=>jR hw N h;obtain⟨nv,kv,es,rfl,x1,x2,x3,x4⟩:=hx.D;have l1:=x1.G;have l2:=x2.G;rw[Jv]at l1;rw[x3]at l2;have ag:=fun k=>nes (Jt hw N (Jb ab) k);have bw:=fun k=>nes (Jt hw N (by obtain⟨_,_,_,_,_,_,h⟩:=hT;exact h.B) k);have bv:=nes (show rt≠L from fun e=>ba (by obtain⟨_,_,_,_,_,_,h⟩:=hT;rw[<-e];exact h.w.1));have Y:IntKind.i64.wrap (left-1)=left-1:=JX (by omega) (by omega);have e0:Gr y (y.B fun t=> .a t [.d .i64 k,ofL nm,nv,kv]):=Gr.G hw (Jc _);by_cases c1:left-1<0\/8<X.length\/8<ns.length
   ·rw[aq,Xe c1];have bl:∀S:St,(∀r,y.A r≠ .none->¬(r=L)->S.A r=y.A r)->(S.A L= .a (y.t+1) [.d .i64 (left-1)])->(∀r,y.A r≠ .none->¬(W r\/r=L)->S.A r=y.A r)/\(∃W' F':Pt->Prop,(∀r,W r->W' r)/\(∀r,W' r->W r\/y.A r= .none)/\(∀r,F' r->F r\/y.A r= .none)/\Tab W' F' S rt tb)/\(∃t,S.A L= .a t [.d .i64 (left-1)]):=fun S h1 h2=>
     ⟨fun r e n=>h1 r e fun k=>n (.inr k),⟨W,F,fun _ w=>w,fun _ w=> .inl w,fun _ w=> .inl w,hT.A fun r w e=>h1 r e fun k=>by grind⟩,_,h2⟩
    have bb:∀r,y.A r≠ .none->¬(r=L)->((y.B fun t=> .a t [.d .i64 k,ofL nm,nv,kv]).D L tl fun u=> .a u [.d .i64 (left-1)]).A r=y.A r:=fun r e n=>by simp[JQ,KR,N,ar r e,n]
    have F:=bl _ bb (by rw[Jh];rfl);by_cases d1:left-1<0
    ·simp only[CT,Tryz.f74,XZ,Nat.reduceEqDiff,↓reduceIte,N,x1.B,x2.B,ag,ab,Y,d1]
     grind
    by_cases d2:(8:Int)<X.length
    ·simp only[CT,Tryz.f74,XZ,Nat.reduceEqDiff,↓reduceIte,N,x1.B,x2.B,l2,ag,ab,Y,d1,d2]
     grind
    have d3:(8:Int)<ns.length:=by omega
    simp only[CT,Tryz.f74,XZ,Nat.reduceEqDiff,↓reduceIte,N,x1.B,x2.B,l1,l2,ag,ab,Y,d1,d2,d3]
    grind
   ·have c2:¬left-1<0:=fun e=>c1 (.inl e);have c3:¬(8:Int)<X.length:=fun e=>c1 (.inr (.inl (by omega)));have c4:¬(8:Int)<ns.length:=fun e=>c1 (.inr (.inr (by omega)));rw[aq,Xa c1];simp only[CT,Tryz.f74,XZ,Nat.reduceEqDiff,↓reduceIte,Nat.reduceAdd,Nat.reduceLeDiff,N,x1.A,x1.B,x2.B,l1,l2,ag,ab,Y,c2,c3,c4];have g1:Gr y ((y.B fun t=> .a t [.d .i64 k,ofL nm,nv,kv])):=e0;refine JD (fun j fr S=>∃i Wi Fi aa z O Z ak tp,AddI W F y rt L n k nm nv kv X left tb j fr S i Wi Fi aa z O Z ak tp) X.length (by omega) ?_ ?_
    ·refine⟨0,W,fun r=>F r/\y.A r≠ .none,tb,left-1,[], .e, ?ta, ?tb,⟨by omega, ?_, ?_, ?_, ?_, ?_, ?_, ?ch,fun _ w=>w,fun _ w=> .inl w,fun _ w=> .inl w.1, ?_,ba, ?_,fun w=>bk w.1, ?tab, ?rlp, ?rn,⟨rfl, .inl ⟨rfl,rfl⟩⟩,rfl,by omega,by omega,(JrL _).symm⟩⟩
     case rlp=>simp only[XZ,↓reduceIte,N,ag];rfl
     case rn=>simp only[XZ,↓reduceIte];rfl
     case ch=>exact(((Ch.H _ e0).J (Jb (e0.B ab)) (by rw[e0.B ab];rfl) (.inl (.inr rfl)) (Jc _))).M (by simp[Jal,kj,N,ki]) (Jc _) (Jc _)
     case tab=>
      refine hT.B.A fun r w e=> ?_;have e1:r≠L:=fun k=>by grind
      simp only[XZ,↓reduceIte,N,ar r e,e1]
     all_goals try simp only[XZ,Nat.reduceEqDiff,↓reduceIte,reduceCtorEq]
     ·rfl
     ·obtain⟨_,_,_,_,_,_,hT⟩:=hT;exact fun w=>hT.u _ w (nx0 hw N 1)
     grind
    ·rintro j fr S ⟨i,Wi,Fi,aa,z,O,Z,ak,tp,h⟩;have wS:=h.ch.D;obtain⟨nS,av⟩:=nxE S;by_cases hi:i<X.length
     ·have aw:(i:Int)<X.length:=by omega
      have al:i<es.length:=by omega
      obtain⟨q,qo,a1,a2,a3,a4,a5⟩:=x2.H al;have am:∀r,P r->y.A r≠ .none->S.A r=y.A r:=fun r p e=>h.ch.d r e fun w=>by grind
      have bc:ldn (S.A q) qo 4=some (.j es[i], .a):=by grind
      have oq:=fun k=>nes (Jt wS av (by rw[am q a2 a3];exact a3) k);have ao:=x4 i al hi;obtain⟨E,hE⟩:∃E,E=es[i]:=⟨_,rfl⟩
      obtain⟨T,ax⟩:∃T,T=X[i]:=⟨_,rfl⟩
      rw[<-hE]at bc ao;rw[<-ax]at ao;obtain⟨k',n',ah,ai⟩:=T;obtain⟨bd,be,bx,rfl,y1,y2,y3,y4⟩:=ao.D;simp only[XZ,Nat.reduceEqDiff,↓reduceIte,reduceCtorEq,Nat.reduceAdd,h.q,h.t,h.h,h.d,h.e,aw,a1,bc,av,y1.B,y2.B];have gS:Gr S ((S.B fun t=> .a t [.d .i64 0,ofL [], .e, .e]).D (up 0 nS) S.t fun u=> .a u [.d .i64 k',ofL n',bd,be]):=(Gr.F wS).M av (Jc _) (Jc _);refine Je (add m (.mk k' n' ah ai) (by rw[ax];have:=Yv (k:=k) (n:=nm) (ns:=ns) hi;omega) Wi Fi (fun r=>P r/\y.A r≠ .none) _ rt L aa _ z ak gS.D (h.tab.G gS) ((ao.A fun r p e=>⟨⟨p,e⟩,am r p e⟩).H gS) (fun r p=>⟨fun w=>by rcases h.o r w with w|w;exact(hP r p.1).1 w;grind,(hP r p.1).2⟩) (gS.B h.rlp) h.g h.m h.v (by have:=h.w;omega)) ?_;rintro _ S2 ⟨⟨c2,⟨W2,F2,b1,b2,b3,T2⟩,t2,ap⟩,rfl⟩;have U:=h.c;rw[Xc hi,<-ax]at U;have bm:=qe (.mk k' n' ah ai) z aa h.v;have ay:=Jk5 (ids:=O) (t:= .mk k' n' ah ai) (r:=X.drop (i+1)) (left:=z) (tb:=aa);have az:=Jk6 (ids:=O) (t:= .mk k' n' ah ai) (r:=X.drop (i+1)) (left:=z) (tb:=aa);generalize addT (.mk k' n' ah ai) z aa=A at*;obtain⟨bn,a0,bf,aj⟩:=A;simp only at*;have a6:Ch (fun r=>W r\/r=L) y S2:=(h.ch.I gS).A c2 fun r w=>by
       rcases w with w|w
       ·rcases h.o r w with w|w
        ·grind
        grind
       grind
      have bg:∀r,W2 r->W r\/y.A r= .none:=fun r w=>by
       rcases b2 r w with w|w
       ·exact h.o r w
       ·exact .inr ((h.ch.I gS).B w)
      have bh:∀r,F2 r->F r\/y.A r= .none:=fun r w=>by
       rcases b3 r w with w|w
       ·exact h.x r w
       ·exact .inr ((h.ch.I gS).B w)
      by_cases he:bf=0
      ·subst he;have a7:=U.trans (ay rfl);have bo:∀r,S.A r≠ .none->((S.B fun t=> .a t [.d .i64 0,ofL [], .e, .e]).D (up 0 nS) S.t fun u=> .a u [.d .i64 k',ofL n',bd,be]).A r≠ .none:=fun r e=>by rw[gS.d r e];exact e
       have nW:∀r,S.A r≠ .none->¬Wi r->¬W2 r:=fun r e w w2=>by grind
       have nF:∀r,S.A r≠ .none->¬Fi r->¬F2 r:=fun r e w w2=>by grind
       have keep:∀r,S.A r≠ .none->¬Wi r->r≠L->S2.A r=S.A r:=fun r e w n=>by
        rw[c2.d r (bo r e) (fun x=>by grind),gS.d r e]
       have au:up 1 n≠L:=by grind
       have ae:S2.A (up 1 n)= .a tp [.d .i64 k,ofL nm,nv,Z]:=by rw[keep _ (Jb h.rn) h.f au,h.rn]
       have af:LsAt (fun r=>¬W2 r/\¬F2 r/\y.A r= .none/\r≠up 1 n) S2 L Z 1 O.length (O.map fun a:Nat=>V.d .i64 (a:Int)):=by
        refine⟨h.ls.1, ?_⟩;rcases h.ls.2 with l|⟨r,t,l1,l2,l3,l4⟩
        ·grind
        grind
       have w2:=c2.D;obtain⟨n2,K⟩:=nxE S2;have bz:=fun k=>nes (Jt w2 K (Jb ae) k);have b0:=fun k=>nes (Jt w2 K (Jb ap) k);simp only[XZ,Nat.reduceEqDiff,↓reduceIte,h.p,ae,K];refine Jpd (rt:=L) (af.D fun r t b4 b5 bp=> ?_) (tq:= ?tq) (new:=[V.d IntKind.i64 a0]) ?hq rfl rfl (by have:=h.b;omega) ?wf ?_
       ·have e1:=nes (Jt w2 K (Jb bp) 0);simp[KR,K,e1]
       case hq=>simp[KR,K];rfl
       case wf=>exact(Gr.G w2 (Jc _)).D
       intro S5 t6 r5 n5 s5 x5 m5;simp[kj,K,ki,Nat.reduceAdd]at r5 n5;have f5:∀r,S2.A r≠ .none->rowOf Z≠some r->S5.A r=S2.A r:=fun r a1 a2=>by
        rw[s5 r (by simp[kj,K,ki];exact Jt w2 K a1 1) a2];have e1:=nes (Jt w2 K a1 0);simp[KR,K,e1]
       have a8:S5.A (up 1 n)= .a tp [.d .i64 k,ofL nm,nv,Z]:=by rw[f5 _ (Jb ae) (fun e=>(af.A e).1.2.2.2 rfl),ae]
       have b6:S5.A L= .a t2 [.d .i64 aj]:=(f5 _ (Jb ap) (fun e=>(af.A e).2.1 rfl)).trans ap;have a9:=wiN (i:=i) (by omega);have b7:=nes au;have o5:=fun k=>nes (Jt w2 K (Jb ae) k);simp only[XZ,Nat.reduceEqDiff,↓reduceIte,Nat.reduceAdd,a8,h.p,h.e,K,a9];have g5:Ch (fun r=>W r\/r=L) y S5:=by
        refine a6.A (W':=fun r=>rowOf Z=some r) ⟨(jd w2 (Jc [.d .i64 (a0:Int)])).A m5,fun r e n=>f5 r e n⟩ fun r e=> .inr ((af.A e).1.2.2.1)
       have bi:y.A (up 1 n2)= .none:=a6.B (nx0 w2 K 1);have bq:∀r,S2.A r≠ .none->r≠up 1 n2:=fun r e=>Jt w2 K e 1;have br:¬W2 (up 1 n2):=fun w=>by obtain⟨_,_,_,_,_,_,bt⟩:=T2;exact bt.u _ w (nx0 w2 K 1)
       refine⟨X.length-(i+1),by have:=h.u;omega,i+1,W2,fun r=>F2 r/\S2.A r≠ .none,bn,aj,O++[a0], .w (up 1 n2) 0 (O.length+1) 1,t2,S5.t,⟨by omega, ?_, ?_, ?_, ?_, ?_, ?_, ?ch,fun r w=>b1 r (h.s r w),bg,fun r w=>bh r w.1,nW _ (Jb h.rn) h.f,nW _ (Jb h.rlp) h.g,fun w=>nF _ (Jb h.rn) h.l w.1,fun w=>nF _ (Jb h.rlp) h.m w.1, ?tab, ?rlp, ?rn, ?ls,by simp[h.b],bm.2.2 rfl,by have:=h.w;omega,a7⟩⟩
       case ch=>exact g5.J (Jb a8) (by rw[a8];rfl) (.inr (nx0 hw N 1)) (Jc _)
       all_goals try simp only[XZ,Nat.reduceEqDiff,↓reduceIte,reduceCtorEq,h.q,h.t,h.p,h.h,h.d]
       case tab=>
        refine T2.B.A fun r w e=> ?_;have e1:r≠up 1 n:=fun k=>by
         rcases w with w|w
         ·exact nW _ (Jb h.rn) h.f (by grind)
         ·exact nF _ (Jb h.rn) h.l (by grind)
        rw[JQ,Xa e1];refine f5 r e fun k=> ?_;rcases w with w|w
        ·exact(af.A k).1.1 w
        ·exact(af.A k).1.2.1 w.1
       case rlp=>grind
       case ls=>
        refine⟨by simp, .inr ⟨up 1 n2,t6,by simp, ?_,⟨br,fun w=>w.2 (nx0 w2 K 1),bi, ?_⟩, ?_⟩⟩
        ·rw[JQ,Xa (bq _ (Jb ae)).symm,r5];simp
        ·grind
        grind
      ·have a7:=U.trans (az he);have bj:¬bf=0:=he;simp only[XZ,Nat.reduceEqDiff,↓reduceIte,bj];rw[a7];simp only[bj,HM,ZS];exact⟨a6.d,⟨W2,F2,fun r w=>b1 r (h.s r w),bg,bh,T2⟩,⟨t2,ap⟩,rfl⟩
     ·have al:i=X.length:=by have:=h.u;omega
      have aw:¬(i:Int)<X.length:=by omega
      have U:=h.c;rw[al,Ga,Qm]at U;have U:JA X (left-1) tb=(aa,O,0,z):=by rw[U];simp[pre]
      rw[U];simp only[XZ,Nat.reduceEqDiff,↓reduceIte,reduceCtorEq,Nat.reduceAdd,h.q,h.p,h.d,h.e,aw,h.rn];have am:∀r,P r->y.A r≠ .none->S.A r=y.A r:=fun r p e=>h.ch.d r e fun w=>by grind
      have bu:SlAt (fun _=>True) S Z 1 (ints O):=(LsAt.G (es:=ints O) (by rw[Jg1];exact h.ls) (Jcq _) (JP _)).D fun _ _ _=>⟨trivial,rfl⟩
      refine Je (lay (nd:=⟨k,nm,ns,O⟩) wS h.tab ⟨nv,Z,rfl,x1.D fun r p e=>⟨trivial,am r p e⟩,bu⟩ ⟨(by grind),(by show O.length<=8;have:=h.b;omega)⟩) ?_;rintro _ S2 ⟨c2,⟨W2,F2,b1,b2,b3,T2⟩,rfl⟩;simp only[XZ,Nat.reduceEqDiff,↓reduceIte];refine⟨fun r e n=> ?_,⟨W2,F2,fun r w=>b1 r (h.s r w),fun r w=> ?_,fun r w=> ?_,T2⟩,ak, ?_⟩
      ·have e2:=h.ch.d r e n;rw[c2.d r (by grind) fun w=>by rcases h.o r w with w|w;exact n (.inl w);exact e w,e2]
      ·rcases b2 r w with w|w
       ·exact h.o r w
       ·exact .inr (h.ch.B w)
      ·rcases b3 r w with w|w
       ·exact h.x r w
       ·exact .inr (h.ch.B w)
      ·rw[c2.d L (Jb h.rlp) h.g,h.rlp]
end Go.Proofs.YtdajkeoobbonjaaGreat
