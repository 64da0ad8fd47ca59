/- The document's type of a path. An Env with another dot, as the law's Maker has it. The  -/
import Derived.Test.YtdajkeoobbonjaaGreatQ6
set_option linter.constructorNameAsVariable false
set_option maxHeartbeats 32000000
set_option linter.unusedVariables false
set_option linter.unusedSimpArgs false
set_option linter.unusedSectionVars false
set_option maxRecDepth 100000
namespace Go.Proofs.YtdajkeoobbonjaaGreat
open Eva Go.RowKit
variable {v z r Q:Pt->Prop}{e S T:St}{n j:List V}{t K:Nat}{k:Option (List Nat)}{b:V->St->Prop}{d:List (Opn×Nat)}{i:Pt}{q:EnvS}{p L:V}{f:Tb}{h:Sch}{g W:Int}{m:List (Int×List Str×Nat)}{a:Str}{c:R9}{u:Fr}{w:List Str}{x:Opn}{y:Bool}{M:Pipe}
theorem JtT (h:LstAt (NarC v e) v e p 3 m)(f:t<m.length):∃r q c,Js 3 p (.d .i64 (t:Nat))=some (.g r q, .a)/\ld1 (e.A r) q=some (.d .i64 m[t].1, .a)/\ld1 (e.A r) (q+1)=some (c, .a)/\ld1 (e.A r) (q+2)=some (.d .i64 (m[t].2.2:Nat), .a)/\SlAt v e c 1 (strs m[t].2.1):=by
 obtain⟨r,q,b,k,_,_,n,⟨c,rfl,o⟩,_,j⟩:=h.A f;have s:=j 0 (by simp)
 grind
theorem JuL {E:EnvS}{sx:Str}(hD:DT v e z i h f)(hO:OfF h f)(hE:EnvC r e n E)(hK:EnvK f E)(ho:OprC Q e t j (.mk g a w sx W y M))(hl:w.length<100000):
  Dz 193 [.g i 0, .j n, .j j] e fun m S'=>Gr e S'/\m= .p [.d .i64 ((Qs f E a w).1:Nat), .d .i64 (Qs f E a w).2]:=by
 obtain⟨t,rfl⟩:∃d',t=d'+1:=by
  cases t with
  |zero=>exact ho.elim
  |succ t=>simp
 have hw:=hD.wf;refine Jn tabM (aT Tryz.func193 rfl) rfl hw fun K ag=> ?_;obtain⟨vv,nv,rfl,h1,h2,c1,c2⟩:=K8 hE;obtain⟨pv,qv,rfl,hp,hq⟩:=ho;have d1:=hp.A;have d2:=hp.B;have d3:=hq.B.2;have d4:=hq.B.1;have lp:=hp.G;rw[Jv]at lp;have ln:=h2.H;obtain⟨n0,bc⟩:=nxE e;simp only[CT,Tryz.f193,XY,simprocAttr];rw[Ja];simp[XY,bc,c1.1,c2.1,d2,d4];generalize bm:up 0 n0=p4;generalize bn:up 1 n0=p5;refine nm2 hw bc bm bn ?_;intro S1 G1 b5 b6 _ ⟨t4,r4⟩ ⟨t5,r5⟩;have bo:EnvC r S1 [.d .i64 (E.c:Nat),vv,nv] E:=hE.A G1.H;rw[Ja];simp[XY,r4,r5];refine Je (findD G1.D bo hK.e a) ?_;rintro _ S2 ⟨G2,rfl⟩;have ak:=G1.A G2;have a7:=G2.B r4;have a8:=G2.B r5;have D2:=hD.B ak;have a9:=h1.I ak;have bp:LstAt (NarC r S2) r S2 nv 3 E.b:=h2.G (fun _ _ o=>o.A ak.H) ak.H;have bd:=hp.I ak;unfold Qs at ag
 cases au:Qh E a with
 | none=>
   rw[au]at ag;have hz:kE E a= -2:=by unfold kE;rw[au]
   have bq:(-2:Int)< -1:=by omega
   rw[hz];simp[XY];rw[Jd,Ja];simp[XZ,bq];exact ag _ _ (fun u n=>ak.d u n) fun _=>rfl
 |some m=>
 rw[au]at ag;have hz:kE E a=m:=by unfold kE;rw[au]
 rw[hz];simp at ag;have hv:=qC au;obtain⟨ft,fl⟩:=JfQ hK hv w;have be:¬m< -1:=by omega
 simp[XY];rw[Jd,Ja];simp[XY,be];rw[Ja];simp[XY,a7];refine Ju (fun fr S'=>fr 0= .g i 0/\fr 4= .g p4 0/\fr 5= .g p5 0/\fr 8= .d .i64 m/\fr 9= .d .i64 (kD E m:Nat)/\S'=S2) (fun J hJ=> ?_) ?_
 ·rcases hv with rfl|⟨O,rfl,hi⟩
  ·have bf:¬(-1:Int)≥0:=by omega
   rw[Ja];simp[XZ];exact hJ _ _ (by simp[XZ,ZP,kD])
  ·have bf:(O:Int)≥0:=by omega
   have ap:¬((O:Nat):Int)= -1:=by omega
   obtain⟨u,q,a1,a2,a3⟩:=JlC a9 hi;rw[Ja];simp[XZ,bf,a7,a1,a3];refine hJ _ _ ⟨rfl,rfl,rfl,rfl, ?_,rfl⟩;simp[XZ,kD,Zu,XA,Xg hi]
 rintro fr av ⟨f0,f4,f5,f8,f9,rfl⟩;rw[Ja];simp[XY];refine Ju (fun fr S'=>fr 0= .g i 0/\fr 5= .g p5 0/\fr 9= .d .i64 ((JaJ E m w).1:Nat)/\fr 10= .d .i64 ((JaJ E m w).2:Nat)/\Gr av S') (fun J hJ=> ?_) ?_
 ·rw[Ja];simp[XY];obtain⟨L,hL⟩:=loE fun T fr S'=>∃O:Nat,T+O=w.length+1/\fr 0= .g i 0/\fr 4= .g p4 0/\fr 5= .g p5 0/\fr 8= .d .i64 m/\fr 9= .d .i64 ((E.b.foldl (narB m w O) (kD E m,0)).1:Nat)/\fr 10= .d .i64 ((E.b.foldl (narB m w O) (kD E m,0)).2:Nat)/\fr 11= .d .i64 (O:Nat)/\Gr av S';refine JD L (w.length+1) (by omega) ((hL _ _ _).2 ⟨0,by omega,f0,f4,f5,f8,by simp[XZ,f9,JfV],by simp[XZ,JfV]<;>rfl,by rfl,Gr.F ak.D⟩) ?_;clear f0 f4 f5 f8 f9;intro T fr S3 ba;obtain⟨O,hj,f0,f4,f5,f8,f9,af,ah,G3⟩:=(hL _ _ _).1 ba;have ai:=G3.B a8;by_cases hi:O<=w.length;rotate_left
  ·have br:¬(O:Int)<=w.length:=by omega
   obtain rfl:O=w.length+1:=by omega
   rw[Jrx]at f9 af;simp only[XZ,simprocAttr,ah,f5,ai,lp,br];exact hJ _ _ ⟨f0,f5,by simp only[XZ,simprocAttr,f9]<;>rfl,by simp only[XZ,simprocAttr,af]<;>rfl,G3⟩
  have al:=wiN (i:=O) (by omega);rw[Jd,Ja];simp[XY,f5,ah,ai,lp,hi];rw[Jd];simp[XY];rw[Ja];simp[XY];have bb:E.b.foldl (narB m w (O+1)) (kD E m,0)=E.b.foldl (narE m w O) (E.b.foldl (narB m w O) (kD E m,0)):=Jp3 (XC _) _ _ rfl;generalize E.b.foldl (narB m w O) (kD E m,0)=R at*;obtain⟨X,hM⟩:=loE fun q fr S'=>∃c:Nat,q+c=E.b.length/\fr 0= .g i 0/\fr 4= .g p4 0/\fr 5= .g p5 0/\fr 8= .d .i64 m/\fr 9= .d .i64 (((E.b.take c).foldl (narE m w O) R).1:Nat)/\fr 10= .d .i64 (((E.b.take c).foldl (narE m w O) R).2:Nat)/\fr 11= .d .i64 (O:Nat)/\fr 12= .d .i64 (c:Nat)/\Gr av S';refine JD X E.b.length (by have:=hK.f;omega) ((hM _ _ _).2 ⟨0,by omega,f0,f4,f5,f8,by simp[XZ,f9]<;>rfl,by simp[XZ,af]<;>rfl,ah,by rfl,G3⟩) ?_;clear f0 f4 f5 f8 f9 af ah G3 ai;intro q fr S3 bt;obtain⟨c,hq,f0,f4,f5,f8,f9,af,ah,aq,G3⟩:=(hM _ _ _).1 bt;have aw:=G3.B a7;have ai:=G3.B a8;by_cases hc:c<E.b.length;rotate_left
  ·rw[Xt (by omega),<-bb]at f9 af;simp[XZ,f4,aq,aw,ln,hc,ah,al];exact⟨w.length+1-(O+1),by omega,(hL _ _ _).2 ⟨O+1,by omega,f0,f4,f5,f8,f9,af,rfl,G3⟩⟩
  have am:IntKind.i64.wrap ((c:Int)+1)=((c+1:Nat):Int):=by rw[JX (by omega) (by have:=hK.f;omega)];rfl
  have bu:LstAt (NarC r S3) r S3 nv 3 E.b:=bp.G (fun _ _ o=>o.A G3.H) G3.H;obtain⟨ra,qa,na,a1,a2,a3,a4,a5⟩:=JtT bu hc;have bv:(E.b.take (c+1)).foldl (narE m w O) R=narE m w O ((E.b.take c).foldl (narE m w O) R) E.b[c]:=by
   rw[Zy,Xg hc,HN];rfl
  have bw:=(hK.c E.b[c] (Xh hc)).2.1;generalize (E.b.take c).foldl (narE m w O) R=Y at*;generalize E.b[c]=x at*;have next:∀{aj:Fr} {S':St},Gr av S'->aj 0= .g i 0->aj 4= .g p4 0->aj 5= .g p5 0->aj 8= .d .i64 m->aj 11= .d .i64 (O:Nat)->aj 12= .d .i64 ((c+1:Nat):Int)->aj 9= .d .i64 ((narE m w O Y x).1:Nat)->aj 10= .d .i64 ((narE m w O Y x).2:Nat)->∃q',q'<q/\X q' aj S':=fun aa h0 h4 h5 h8 bx a9 h9 b7=>⟨E.b.length-(c+1),by omega,(hM _ _ _).2 ⟨c+1,by omega,h0,h4,h5,h8,by grind,by grind,bx,a9,aa⟩⟩
  by_cases ax:x.1=m;rotate_left
  ·have ap:narE m w O Y x=Y:=Xa fun o=>ax o.1;rw[ap]at next;simp[XZ,f4,f8,aq,aw,ln,hc,a1,a2,ax,am];exact next G3 f0 f4 f5 f8 ah rfl f9 af
  rw[Jd,Ja];simp[XY,f4,aq,aw,ln,hc];rw[Jd];simp[XY];rw[Ja];simp[XY,f4,f5,f8,ah,aq,aw,ai,a1,a2,a3,ax];refine Ji (P:=fun m _=>m= .h (decide (x.2.1=w.take O))) ((JtS (a5.L _) ((bd.I G3).L _) hi bw).A fun m S' ⟨ab,y⟩=>⟨y▸Gr.F (Jq G3.D _),ab⟩) ?_;rintro _ S4 G4 rfl;have bg:=G3.A G4;have bz:=G4.B aw;by_cases ay:x.2.1=w.take O;rotate_left
  ·have ap:narE m w O Y x=Y:=Xa fun o=>ay o.2.1;rw[ap]at next;rw[Xv ay];simp[XZ,aq,am];exact next bg f0 f4 f5 f8 ah rfl f9 af
  have ap:narE m w O Y x=(x.2.2,O):=Xe ⟨ax,ay,by grind⟩;rw[ap]at next;have b0:ld1 (S4.A ra) (qa+2)=some (.d .i64 (x.2.2:Nat), .a):=by
   have:S3.A ra≠ .none:=fun o=>by rw[o]at a4;cases a4
   rw[G4.d ra this];exact a4
  rw[Xp ay];simp[XZ,f4,ah,aq,bz,a1,b0,am];exact next bg f0 f4 f5 f8 ah rfl rfl rfl
 clear f0 f4 f5 f8 f9;rintro fr S3 ⟨f0,f5,f9,af,G3⟩;generalize JaJ E m w=tl at ft fl ag f9 af;obtain⟨t0,lg⟩:=tl;simp at ft fl ag f9 af;have ar:=ak.A G3;rw[Jd,Ja];simp[XY,af];obtain⟨L,hL⟩:=loE fun T fr S'=>∃(O id:Nat),T+O=w.length/\fr 0= .g i 0/\fr 5= .g p5 0/\fr 9= .d .i64 (id:Nat)/\fr 13= .d .i64 (O:Nat)/\Gr e S'/\Gr av S'/\id<f.a.length/\YC f t0 (w.drop lg)=YC f id (w.drop O);refine JD L (w.length-lg) (by omega) ((hL _ _ _).2 ⟨lg,t0,by omega,f0,f5,f9,rfl,ar,G3,ft,rfl⟩) ?_;clear f0 f5 f9 af G3 ar S3 fr;intro T fr S3 ba;obtain⟨O,id,hj,f0,f5,f9,az,ar,G3,hid,ae⟩:=(hL _ _ _).1 ba;have ai:=G3.B a8;by_cases hi:O<w.length;rotate_left
 ·rw[XB (l:=w) (i:=O) (by omega)]at ae;simp[XZ,f5,az,ai,lp,hi,f9];exact ag _ _ (fun u n=>ar.d u n) fun _=>by rw[ae];rfl
 have al:=wiN (i:=O) (by omega);rw[Xc hi,YC]at ae;have bh:JbS f id w[O]=if(Jm f id).a=7 then match fstN w[O] (Jm f id).b with
   |some T=>(Jm f id).c[T]?
   |none=>none else none:=rfl
 rw[bh]at ae;clear bh;rw[Jd,Ja];simp[XY,f5,az,ai,lp,hi];rw[Jd];simp[XY];rw[Ja];simp[XY,f0,f9];refine Je (atD (hD.B ar) hO hid) ?_;rintro _ S4 ⟨G4,x,ad,rfl,ux,uy⟩;obtain⟨_,_,_,_,o5,o6⟩:=hO.F hid;have e1:=ux.A;have j:=ux.B;have e3:=uy.A;have e4:=uy.B;obtain⟨n4,bi⟩:=nxE S4;simp[XY,bi,j,e4];generalize bj:up 0 n4=b8;refine nmA G4.D bi bj ?_;intro S5 G5 _ ⟨b9,bk⟩;have a0:=G4.A G5;have b1:=a0.B ai;obtain⟨ra,oa,a1,a4⟩:=Q7 (bd.I (G3.A a0)) hi;rw[Ja];simp[XY,f5,az,b1,bk,a1,a4];have b2:(Jm f id).b.length<=(Jm f id).c.length:=by
  rw[o5.a];rcases o5.c with o|o
  ·grind
  ·rw[JaI,Xa (by omega),Xe o];simp
 refine Ji (kidD (Jq G5.D _) ((ux.I G5).L _) ((uy.I G5).L _) b2 o5.b) ?_;rintro _ S6 G6 rfl;have ao:=G6.B bk;have a6:=(ar.A a0).A G6;have b3:=(G3.A a0).A G6;generalize w[O]=nm at*;generalize Jm f id=N at*
 cases hf:fstN nm N.b with
 | none=>
   have hv:=JnR (ks:=N.c) hf;rw[hf]at ae;simp[ite_self]at ae;by_cases h7:N.a=7
   ·simp[XZ,hv,ao,h7];exact ag _ _ (fun u n=>a6.d u n) fun _=>by grind
   ·simp[XZ,hv,ao,h7];exact ag _ _ (fun u n=>a6.d u n) fun _=>by grind
 | some c=>
   have hc:=Jih hf;have hv:=JnS (ks:=N.c) hf;rw[hf]at ae;by_cases h7:N.a=7
   ·have bl:c<N.c.length:=by omega
    rw[Xe h7]at ae;simp[Xg bl]at ae;have b4:N.c.getD c 0=N.c[c]:=by grind
    simp only[XZ,simprocAttr,hv,b4,ao,h7,az,al];exact⟨w.length-(O+1),by omega,(hL _ _ _).2 ⟨O+1,N.c[c],by omega,f0,f5,rfl,rfl,a6,b3,o6 _ (Xh bl),ae⟩⟩
   ·rw[Xa h7]at ae;simp[XZ,hv,ao,h7];exact ag _ _ (fun u n=>a6.d u n) fun _=>by grind
theorem JnT (h:t<m.length):offD (m.take (t+1))=if m[t].1≠-1 then offD (m.take t)++[m[t]]else offD (m.take t):=by
 rw[Zy,Xg h];unfold offD
 grind
theorem JrX {E:EnvS}{id:Nat}(hw:WF e)(hE:EnvC v e n E)(hv:E.a.length<100000)(hl:E.b.length<100000)(hm:∀x∈E.b,-1<=x.1):
  Dz 126 [.j n, .d .i64 (id:Nat)] e fun f U=>Gr e U/\∃e',f= .j e'/\EnvC (fun r=>v r\/e.A r= .none) U e' (Q4 E id):=by
 refine Jn tabM (aT Tryz.func126 rfl) rfl hw fun K a0=> ?_;obtain⟨vv,al,rfl,h1,h2,c1,c2⟩:=K8 hE;have ln:=h2.H;obtain⟨n0,am⟩:=nxE e;simp only[CT,Tryz.f126,XY,simprocAttr];rw[Ja];simp[XY,am,c1.1,c2.1];generalize a1:up 0 n0=p2;generalize a2:up 1 n0=W;refine nm2 hw am a1 a2 ?_;intro S1 G1 bp bq br ⟨t2,r2⟩ ⟨t4,r4⟩;have w1:=G1.D;obtain⟨nA,X⟩:=nxE S1;have o2:=fun k=>nes (Jt w1 X (Jb r2) k);rw[Ja];simp[XY,r2,X,o2];obtain⟨x0,ae⟩:=exE (up 0 nA);obtain⟨S2,Y⟩:=exE (S1.B fun t=>Row.a t []);have G2:Gr S1 S2:=by rw[Y];exact Gr.G w1 (Jc _)
 obtain⟨t1,r1⟩:∃t,S2.A x0= .a t []:=⟨_,by rw[Y,ae];simp[XZ,X];rfl⟩
 have a3:S1.A x0= .none:=by rw[ae];exact nx0 w1 X 0
 rw[<-Y,<-ae];clear Y;have a4:∀r,S1.A r= .none->e.A r= .none:=fun r n=>G1.I n;have a5:SlF e S2 (.m x0 0 0 2 0) 2 []:=⟨by simp, .inr ⟨x0,t1,a4 _ a3,by grind, .inr rfl⟩⟩
 have ao:=G1.A G2;have nx:∀p,S1.A p≠ .none->rowOf (.m x0 0 0 2 0)≠some p:=fun p h n=>by
  injection n with n
  grind
 refine Qj (S0:=e) ao a5 (h1.I ao) (JfS _) (by grind) (by grind) fun Sa y ga M ap af=> ?_;simp at M;have kS:∀{p:Pt} {t:Nat} {l:List V},S1.A p= .a t l->Sa.A p= .a t l:=fun{p t l} h=>(af p (by rw[G2.d p (Jb h)];grind) (nx p (Jb h))).trans (G2.B h);have aq:=kS r2;have ar:=kS r4;have s1:=M.D.B;have a6:=M.D.A;obtain⟨nB,au⟩:=nxE Sa;simp[XY,au,s1,a6];generalize a7:up 0 nB=w;refine nmA ga.D au a7 ?_;intro S3 G3 av ⟨t5,r5⟩;have a8:=ga.A G3;have a9:e.A w= .none:=ga.I av;have ba:=M.G G3;have bb:=G3.B aq;have bc:=G3.B ar;have bd:rowOf y≠some w:=fun n=>M.A n av;have ab:∀p,rowOf y=some p->S1.A p= .none:=fun p n=>by
  rcases ap with h|h
  ·grind
  ·rw[h]at n;injection n with n;rw[<-n];exact G2.I (J6 G2.D)
 have bt:rowOf y≠some p2:=fun n=>Jb r2 (ab _ n);have be:rowOf y≠some W:=fun n=>Jb r4 (ab _ n);have bf:p2≠w:=fun n=>Jb aq (by grind);have bg:W≠w:=fun n=>Jb ar (by grind);rw[Jd,Ja];simp[XY];refine Jo (fun j fr U=>∃(i:Nat) (v2:V) (N:List (List V)) (t:Nat),j+i=E.b.length/\fr 2= .g p2 0/\fr 4= .g W 0/\fr 5= .g w 0/\fr 6= .d .i64 (i:Nat)/\Gr e U/\U.A p2= .a t2 [.d .i64 (E.c:Nat),vv,al]/\U.A W= .a t4 [.d .i64 0, .e, .e]/\U.A w= .a t [.d .i64 (id:Nat),y,v2]/\SlF e U y 2 (E.a.map varE)/\SlF e U v2 3 N/\N.length=(offD (E.b.take i)).length/\N.length<=i/\(∀k (a:k<N.length) (b:k<(offD (E.b.take i)).length),NarC (fun r=>v r/\e.A r≠ .none) U N[k] (offD (E.b.take i))[k])/\(∀r,rowOf v2=some r->r≠p2/\r≠W/\r≠w/\rowOf y≠some r)) E.b.length (by omega) ⟨0, .e,[],t5,by omega,rfl,rfl,rfl,by rfl,a8,bb,bc,r5,ba,SlF.I _ _ _,rfl,XC _,fun k a=>absurd a (XH _),fun r n=>by cases n⟩ ?_;rintro L hL j fr s ⟨i,v2,N,t,hj,f2,f4,f5,f6,g,Z,q4,q5,b1,b2,b3,bu,b4,b5⟩;by_cases hi:i<E.b.length;rotate_left
 ·rw[Xt (by omega)]at b3 b4;have s2:=b2.D.B;have bv:=b2.D.A;have s3:=b1.D.B;have bw:=b1.D.A;simp[XZ,f2,f4,f5,f6,Z,q4,q5,ln,hi,s2,s3];have kf:∀{t:Nat} {l:List V} {r:Pt},r≠W->(s.D W t fun u=> .a u l).A r=s.A r:=fun{t l r} n=>Jj _ _ _ n;refine a0 _ _ (fun r n=>by rw[kf fun x=>n (by grind),g.d r n]) fun G=>⟨_,rfl,y,v2,rfl,(b1.B fun r n=>kf fun x=>be (by grind)).D.D fun r a _=>⟨.inr a,rfl⟩,N,(b2.B fun r n=>kf (b5 r n).2.1).D.D fun r a _=>⟨.inr a,rfl⟩,b3,fun k a b=> ?_⟩
  have:=b4 k a b;exact this.A fun r p q=>⟨.inl p.1,by rw[G.d r p.2,g.d r p.2]⟩
 have O:=wiN (i:=i) (by omega);have bh:LstAt (NarC (fun r=>v r/\e.A r≠ .none) s) (fun r=>v r/\e.A r≠ .none) s al 3 E.b:=h2.G (fun _ _ h=>h.A fun r a b=>⟨⟨a,b⟩,g.d r b⟩) fun r a b=>⟨⟨a,b⟩,g.d r b⟩
 obtain⟨ra,qa,ea,e1,_,e3,e4,e5,e6,e7⟩:=bh.A hi;have ag:=e7 0 (by omega);have bx:=hm _ (Xh hi);have aa:=JnT hi;have bi:=e5;obtain⟨pa,rfl,aw⟩:=e5;simp at ag;have d1:=aw.A;have d2:=aw.B;generalize E.b[i]=x at*;have o2:=fun{o:Pt} (h:s.b=up 0 o) k=>nes (Jt g.D h (Jb Z) k);have o5:=fun{o:Pt} (h:s.b=up 0 o) k=>nes (Jt g.D h (Jb q5) k);rw[Jd,Ja];simp[XY,f2,f6,Z,ln,hi];rw[Jd];simp[XY];by_cases hx:x.1≥0;rotate_left
 ·rw[Xa (by omega)]at aa;rw[<-aa]at b3 b4;rw[Ja];simp[XZ,f2,f6,Z,e1,ag,hx,O];exact⟨E.b.length-(i+1),by omega,hL _ _ _ ⟨i+1,v2,N,t,by omega,f2,f4,f5,rfl,g,Z,q4,q5,b1,b2,b3,by omega,b4,b5⟩⟩
 rw[Xe (by omega)]at aa;obtain⟨nC,ah⟩:=nxE s;have o2:=o2 ah;have o5:=o5 ah;rw[Ja];simp[XY,f2,f6,Z,e1,ag,hx];simp[XY,f2,f5,f6,Z,q5,e1,e4,ah,d2];obtain⟨Sb,ai⟩:=exE (s.B fun t=>Row.a t [.d .i64 x.1,pa, .d .i64 (x.2.2:Nat)]);have Q:Gr s Sb:=by rw[ai];exact Gr.G g.D (Jc _)
 have ax:SlAt (fun r=>r=up 0 nC) Sb (.m (up 0 nC) 0 1 3 1) 3 [[.d .i64 x.1,pa, .d .i64 (x.2.2:Nat)]]:=by
  have:=QE (st:=s) (z:=3) (e:=[.d .i64 x.1,pa, .d .i64 (x.2.2:Nat)]) rfl
  grind
 rw[<-ai];clear ai;refine Yc (S0:=e) (g.A Q) (b2.G Q) ax (fun n he=>by rw[Xj.1 he];simp[J9,Kv,jS,d2]) (by simp) (by simp) (by grind) ?_;intro Sc v3 gc aj bj ay;have kc:∀{p:Pt} {t:Nat} {l:List V},s.A p= .a t l->rowOf v2≠some p->Sc.A p= .a t l:=fun{p t l} h o=>(ay p (by rw[Q.d p (Jb h)];grind) o).trans (Q.B h);have bk:=kc Z fun n=>(b5 _ n).1 rfl;have bl:=kc q4 fun n=>(b5 _ n).2.1 rfl;have ak:=kc q5 fun n=>(b5 _ n).2.2.1 rfl;have s2:=aj.D.B;have s3:=aj.D.A;simp[XZ,f5,f6,ak,s2,s3,O];obtain⟨S5,T⟩:=exE (Sc.D w t fun u=> .a u [.d .i64 (id:Nat),y,v3]);have g5:Gr e S5:=by rw[T];exact gc.J a9 (Jb ak) (by rw[ak];rfl) (Jc _)
 obtain⟨bm,bn⟩:∃t,S5.A w= .a t [.d .i64 (id:Nat),y,v3]:=⟨_,by rw[T];exact Jh _ _ _ _⟩
 have k5:∀r,r≠w->S5.A r=Sc.A r:=fun r n=>by rw[T,Jj _ _ _ n]
 rw[<-T];clear T;have az:∀r,rowOf v3=some r->r≠p2/\r≠W/\r≠w/\rowOf y≠some r:=fun r n=>by
  rw[bj]at n;injection n with n;have o:=J6 Q.D;rw[n]at o;exact⟨fun x=>Jb (Q.B Z) (by grind),fun x=>Jb (Q.B q4) (by grind),fun x=>Jb (Q.B q5) (by grind),fun x=>(b1.G Q).A x o⟩
 have bo:∀r,s.A r≠ .none->r≠w->rowOf v2≠some r->S5.A r=s.A r:=fun r a b c=>by rw[k5 r b,ay r (by rw[Q.d r a];exact a) c,Q.d r a]
 have ad:∀r,v r/\e.A r≠ .none->s.A r≠ .none->(v r/\e.A r≠ .none)/\S5.A r=s.A r:=fun r p q=>⟨p,by rw[g5.d r p.2,g.d r p.2]⟩
 refine⟨E.b.length-(i+1),by omega,hL _ _ _ ⟨i+1,v3,N++[[.d .i64 x.1,pa, .d .i64 (x.2.2:Nat)]],bm,by omega,f2,f4,f5,rfl,g5,(k5 p2 bf).trans bk,(k5 W bg).trans bl,bn,b1.B fun r n=>bo r (b1.A n) (fun x=>bd (by grind)) fun x=>(b5 r x).2.2.2 n,aj.B fun r n=>k5 r (az r n).2.2.1,by grind,by grind,fun k a b=> ?_,az⟩⟩;simp[aa]at b⊢;by_cases hk:k<N.length
 ·rw[Xw hk,Xw (by omega)];exact(b4 k hk (by omega)).A ad
 ·have:k=N.length:=by grind
  subst this;rw[XL (Xb _),XL (by omega)];simp[b3];exact bi.A ad
def YD (d:Nat)(o:Opn):Prop:=fitO d o/\docO d o/\o.k≠6
theorem qE (a n:Int)(g:St)(h:0<n)(j:n<4611686018427387904):Dz 119 [.d .i64 a, .d .i64 n] g fun v b=>v= .d .i64 (a%n)/\g=b:=by
 refine Jl (aT Tryz.func119 rfl) rfl ?_;have c:n≠0:=by omega
 have k:=Zr a c;have l:=Zc a h;rcases Jps a h with⟨e,f⟩|⟨e,f⟩
 ·simp only[CT,Tryz.f119,XZ,simprocAttr,c,e];rw[f]
 ·have i:IntKind.i64.wrap (a.tmod n+n)=a%n:=by rw[f,JX (by omega) (by omega)]
  simp only[CT,Tryz.f119,XZ,simprocAttr,c,e,i]
theorem JhH (a n:Int)(g:St)(h:0<n)(j:n<4611686018427387904):Dz 79 [.d .i64 a, .d .i64 n] g fun v b=>v= .d .i64 (a%n)/\g=b:=by
 refine Jl (aT Tryz.func79 rfl) rfl ?_;have c:n≠0:=by omega
 have k:=Zr a c;have l:=Zc a h;rcases Jps a h with⟨e,f⟩|⟨e,f⟩
 ·simp only[CT,Tryz.f79,XZ,simprocAttr,c,e];rw[f]
 ·have i:IntKind.i64.wrap (a.tmod n+n)=a%n:=by rw[f,JX (by omega) (by omega)]
  simp only[CT,Tryz.f79,XZ,simprocAttr,c,e,i]
theorem KU (a:Int){n:Nat}(h:0<n):∃m:Nat,a%(n:Int)=(m:Nat)/\m<n:=by
 have b:=Zr a (show(n:Int)≠0 by omega);have c:=Zc a (show(0:Int)<n by omega);exact⟨(a%n).toNat,by omega,by omega⟩
def OpnR (P:Pt->Prop)(S':St)(d:Nat)(v:V):Prop:=∃oe o,v= .j oe/\OprC P S' d oe o/\YD d o
theorem Jdx (k n:Int)(b:Bool)(a:Str)(f:k≠5/\k≠6):OprC v e (t+1) [.d .i64 k,ofL [], .e,ofL a, .d .i64 n, .h b, .e] (.mk k [] [] a n b [])/\YD (t+1) (.mk k [] [] a n b []):=
 ⟨⟨.e, .e,rfl,SlAt.K _ _ _,LstAt.F⟩,⟨by simp,by simp,fun c h=>by cases h⟩,fun h=>absurd h f.1,f.2⟩
theorem JnU {P:Pt->Prop}{d:Nat}(f n:Int)(M:WF e):Dz 121 [.d .i64 f, .d .i64 n] e fun v N=>Gr e N/\OpnR P N (d+1) v:=by
 refine Jn tabM (aT Tryz.func121 rfl) rfl M fun K h=> ?_;obtain⟨W,j⟩:=nxE e;simp only[CT,Tryz.f121,XY,simprocAttr];rw[Ja];simp[XY,j];generalize s:up 0 W=X;refine nm1 M j s ?_;intro O o Y ⟨t4,q⟩;have w:∀{p:St} {t:Nat} {l:List V},Gr O p->∀r,e.A r≠ .none->(p.D X t fun u=> .a u l).A r=e.A r:=fun{p t l} g r b=>by rw[Jj _ _ _ fun x=>b (by grind),(o.A g).d r b]
 by_cases Q:f=2
 ·rw[Jd,Ja];simp[XZ,Q,q];exact h _ _ (w (Gr.F o.D)) fun _=>⟨_,_,rfl,Jdx 3 n false [] (by decide)⟩
 by_cases T:f=1
 ·have y:(2:Int)≠0:=by decide
  rw[Jd,Ja];simp[XZ,T,q,y];exact h _ _ (w (Gr.F o.D)) fun _=>⟨_,_,rfl,Jdx 4 0 _ [] (by decide)⟩
 obtain⟨Z,i⟩:=nxE O;have o4:=fun k=>nes (Jt o.D i (Jb q) k);obtain⟨m,z,aa⟩:=KU n (n:=4) (by decide);have z:n%4=(m:Nat):=z;rw[Jd,Ja];simp[XY];rw[Ja];simp[XY,Q];rw[Ja];simp[XY,T];rw[Ja];simp[XY,i];generalize J:up 0 Z=p5;refine nm1c o.D i J ?_;intro p U ab ⟨t5,r5⟩;refine Je (qE n 4 p (by decide) (by decide)) ?_;rintro _ _ ⟨rfl,rfl⟩;have L:=U.B q;rw[z];have c:m=0\/m=1\/m=2\/m=3:=by omega
 rcases c with rfl|rfl|rfl|rfl
 all_goals
  simp[XZ,r5,L]
 all_goals
  exact h _ _ (w U) fun _=>⟨_,_,rfl,Jdx 2 0 false _ (by decide)⟩
abbrev JaU (s:Str):List V:=[.d .i64 6,ofL [], .e,ofL s, .d .i64 0, .h false, .e]
theorem JtU (s:Str)(g:WF e):Dz 152 [ofL s] e fun v h=>Gr e h/\v= .j (JaU s):=by
 refine Jn tabM (aT Tryz.func152 rfl) rfl g fun K c=> ?_;obtain⟨i,b⟩:=nxE e;simp only[CT,Tryz.f152,XY,simprocAttr];rw[Ja];simp[XY,b];generalize f:up 0 i=n;refine nm1 g b f ?_;intro o k l ⟨p,m⟩;rw[Ja];simp[XZ,m];exact c _ _ (fun r a=>by rw[Jj _ _ _ fun x=>a (by grind),k.d r a]) fun _=>rfl
theorem JhI {P:Pt->Prop}(s:Str)(d:Nat):OprC P S (d+1) (JaU s) (.mk 6 [] [] s 0 false [])/\fitO (d+1) (.mk 6 [] [] s 0 false [])/\docO (d+1) (.mk 6 [] [] s 0 false []):=
 ⟨⟨.e, .e,rfl,SlAt.K _ _ _,LstAt.F⟩,⟨by simp,by simp,fun c h=>by cases h⟩,fun h=>absurd h (by decide)⟩
theorem _root_.Eva.R9C.B (h:R9C v e n c):∃(k a:Int) (f:V) (b:List (List V)),n=[.d .i64 k, .d .i64 a,f]/\In64 k/\In64 a/\SlAt v e f 3 b/\b.length=c.A.length/\b.length<2^63/\∀i (h:i<b.length) (p:i<c.A.length),R9C v e b[i] c.A[i]:=by
 cases h with
 |mk g j l m q o=>exact⟨_,_,_,_,rfl,g,j,l,m,by omega,o⟩
theorem JuM (T:WF e)(h:R9C v e n c)(i:Nat)(hi:i<1000):Dz 153 [.j n, .d .i64 (i:Nat)] e fun b U=>Gr e U/\∃W r',b= .j W/\R9C v U W r':=by
 refine Jn tabM (aT Tryz.func153 rfl) rfl T fun K y=> ?_;obtain⟨k,f,kv,m,rfl,hk,hn,M,h3,hl,h4⟩:=h.B;have c2:=M.A;have s2:=M.B;have len2:=M.G;obtain⟨X,z⟩:=nxE e;simp only[CT,Tryz.f153,XY,simprocAttr];rw[Ja];simp[XY,z,s2];generalize N:up 0 X=p2;generalize O:up 1 X=p4;refine nm2 T z N O ?_;intro S1 Y aa ab _ ⟨t2,Q⟩ ⟨t4,Z⟩;have kf:∀{t:Nat} {l:List V} {c:Pt},e.A c≠ .none->(S1.D p4 t fun u=> .a u l).A c=e.A c:=fun{t l c} n=>by rw[Jj _ _ _ fun x=>n (by grind),Y.d c n]
 by_cases h0:m.length=0
 ·have p:(m.length:Int)=0:=by omega
  rw[Jd,Ja];simp[XZ,Q,Z,len2,p];exact y _ _ (fun c n=>kf n) fun _=>⟨_,_,rfl, .mk (ks:=[]) (es:=[]) (wrap64 _) (wrap64 _) (SlAt.K _ _ _) rfl (by decide) fun i h=>absurd h (by simp)⟩
 ·have p:¬(m.length:Int)=0:=by omega
  have hj:i%m.length<m.length:=Hg _ (by omega);have J:(i:Int).tmod (m.length:Int)=((i%m.length:Nat):Int):=rfl;obtain⟨q,o,a1,a2,a3,a4,a5⟩:=(M.I Y).H hj;have s:=h4 _ hj (by omega);generalize m[i%m.length]=ek at*;have w:=s;obtain⟨k',n',ad,ae,rfl,b1,b2,b3,b4,b5,b6⟩:=w.B;have c3:=b3.A;have s3:=b3.B;have L:(m.length:Int)≠0:=p;rw[Jd,Ja];simp only[XY,simprocAttr,Q,len2,p];rw[Ja];simp only[XZ,simprocAttr,Q,Z,len2,L,J,a1,a4,s3];refine y _ _ (fun c n=>kf n) fun g=>⟨_,_,rfl,s.D g⟩
theorem JuN {E:EnvS}{sx:Str}(N:DT v e z i h f)(hO:OfF h f)(O:EnvC r e n E)(hK:EnvK f E)(o:OprC Q e t j (.mk 1 a w sx g y M))(hl:w.length<100000):
  Dz 177 [.g i 0, .j n, .j j] e fun c S'=>Gr e S'/\c= .p [.d .i64 ((Qs f E a w).1:Nat), .d .i64 (Qs f E a w).2]:=by
 have T:=N.wf;refine Jn tabM (aT Tryz.func177 rfl) rfl T fun K q=> ?_;have u:=O;have x:=o;obtain⟨vv,nv,rfl,h1,h2,c1,c2⟩:=K8 O
 cases t with
 |zero=>exact o.elim
 |succ t=>
 obtain⟨pv,qv,rfl,W,X⟩:=o;have d1:=W.A;have d2:=W.B;have d3:=X.B.2;have d4:=X.B.1;obtain⟨Y,l⟩:=nxE e;simp only[CT,Tryz.f177,XY,simprocAttr];rw[Ja];simp[XY,l,c1.1,c2.1,d2,d4];generalize J:up 0 Y=p4;generalize L:up 1 Y=p5;refine nm2 T l J L ?_;intro S1 m aa ab _ ⟨t4,r4⟩ ⟨t5,r5⟩;simp[XZ,r4,r5];refine Je (JuL (N.B m) hO (u.A m.H) hK (OprC.A (st:=e) (st':=S1) m.H x) hl) ?_;rintro _ S2 ⟨G2,rfl⟩;simp[XZ];exact q _ _ (fun k n=>(m.A G2).d k n) fun _=>rfl
theorem ofP1 {J O:Pt}{E:EnvS}{tc:Nat}{u sx:Str}(hD:DT v e z i h f)(hO:OfF h f)(hE:EnvC r e n E)(hK:EnvK f E)(ho:OprC Q e t j (.mk 1 u w sx g y M))(hl:w.length<100000)(hp:e.A J= .a K [.m O 0 1 7 1])(hc:e.A O= .a tc j):
  Dz 151 [.g i 0, .j n, .m J 0 1 1 1] e fun k S'=>Gr e S'/\k= .p [.d .i64 ((Qs f E u w).1:Nat), .d .i64 (Qs f E u w).2]:=by
 have hw:=hD.wf;refine Jn tabM (aT Tryz.func151 rfl) rfl hw fun l T=> ?_;have ab:=hE;obtain⟨vv,nv,rfl,h1,h2,c1,c2⟩:=K8 hE;have lp:J8 (.m J 0 1 1 1)=some (.d .i64 1, .a):=rfl;have h7:=ho.F;have i0:Js 1 (.m J 0 1 1 1) (.d .i64 0)=some (.g J 0, .a):=rfl;have i1:Js 7 (.m O 0 1 7 1) (.d .i64 0)=some (.g O 0, .a):=rfl;obtain⟨n0,W⟩:=nxE e;simp only[CT,Tryz.f151,XY,simprocAttr];rw[Ja];simp[XY,W,c1.1,c2.1];generalize ad:up 0 n0=p4;refine nm1 hw W ad ?_;intro X N am ⟨t4,r4⟩;have ae:=N.B hp;have Y:=N.B hc;have af:ld1 (X.A J) 0=some (.m O 0 1 7 1, .a):=by rw[ae];rfl
 have ag:ld1 (X.A O) 0=some (.d .i64 1, .a):=by
  rw[Y]
  cases t with
  |zero=>exact ho.elim
  | succ t=>
    obtain⟨pv,qv,rfl,_⟩:=ho;rfl
 have aa:ldn (X.A O) 0 7=some (.j j, .a):=by
  rw[Y,Ym,Xe (by omega),XP,<-h7,XE]
 rw[Ja];simp[XY];rw[Jd,Ja];simp[XY];refine Jo (fun o x S'=>(o=1/\S'=X/\x 0= .g i 0/\x 2= .m J 0 1 1 1/\x 4= .g p4 0/\x 8= .d .i64 0/\x 9= .d .i64 0)\/(o=0/\Gr X S'/\x 2= .m J 0 1 1 1/\x 8= .d .i64 ((Qs f E u w).1:Nat)/\x 9= .d .i64 1/\(Qs f E u w).2=0)) 1 (by omega) ((.inl ⟨rfl,rfl,rfl,rfl,rfl,rfl,rfl⟩)) ?_;intro L hL o x S2 ah;rcases ah with⟨rfl,rfl,f0,f2,f4,f8,f9⟩|⟨rfl,G2,f2,f8,f9,hz⟩
 rotate_left
 ·have ai:¬(1:Int)<1:=by omega
  simp[XZ,f2,f8,f9,lp,ai];refine T _ _ (fun q n=>(N.A G2).d q n) fun _=> ?_;rw[hz]
 have aj:(0:Int)<1:=by omega
 have ao:¬(1:Int)=6:=by decide
 have ak:¬(0:Int)>0:=by omega
 have al:IntKind.i64.wrap ((0:Int)+1)=1:=by decide
 rw[Jd,Ja];simp[XY,f2,f9,lp,aj];rw[Jd];simp[XY];rw[Ja];simp[XY,f2,f9,i0,af];rw[Jd,Ja];simp[XY,i1,ag];rw[Ja];simp[XY,f0,f4,r4,i1,aa];have wl:=Jq N.D S2.t;refine Ji (JuN (hD.B N|>.D wl) hO (ab.A N.H) hK (OprC.A (st:=e) (st':={S2 with a:=S2.t}) N.H ho) hl) ?_;rintro _ S3 G3 rfl;simp[XY];by_cases c:(Qs f E u w).2=0
 ·rw[Jd,Ja];simp[XY,c];rw[Jd,Ja];simp only[XZ,simprocAttr,f9,ak];exact⟨0,by omega,hL _ _ _ (.inr ⟨rfl,G3,f2,rfl,rfl,c⟩)⟩
 ·have hz:(Qs f E u w).1=0:=Jlq c;rw[Jd,Ja];simp[XZ,c];refine T _ _ (fun q n=>(N.A G3).d q n) fun _=> ?_
  grind
def KF (P:Pt->Prop)(S:St)(v:V)(l:List (Opn×Nat)):Prop:=LstAt (jI P S) P S v 8 l
theorem KF.za {S':St}(h:KF v S p d)(k:∀r,v r->S.A r≠ .none->Q r/\S'.A r=S.A r):KF Q S' p d:=LstAt.G h (fun _ _ h=>h.A k) k
theorem JkD {c:Opn×Nat}(h:jI v e n c):∃f g i j l m o,n=[f,g,i,j,l,m,o, .d .i64 (c.2:Nat)]/\OprC v e 1 [f,g,i,j,l,m,o] c.1/\((f.B=true/\f.A=some [f])/\(g.B=true/\g.A=some [g])/\(i.B=true/\i.A=some [i])/\(j.B=true/\j.A=some [j])/\(l.B=true/\l.A=some [l])/\(m.B=true/\m.A=some [m])/\(o.B=true/\o.A=some [o])):=by
 obtain⟨z,rfl,u⟩:=h;obtain⟨⟨k,w,r,J,a,b,p⟩,t⟩:=c;obtain⟨x,y,rfl,q,s⟩:=u;exact⟨_,_,_,_,_,_,_,rfl,⟨x,y,rfl,q,s⟩,⟨rfl,rfl⟩,⟨rfl,rfl⟩,⟨q.B,q.A⟩,⟨rfl,rfl⟩,⟨rfl,rfl⟩,⟨rfl,rfl⟩,s.B⟩
def Box8 (ce:List V)(z0 z1 z2 z3 z4 z5 z6:V)(t:Int):Prop:=ce=[z0,z1,z2,z3,z4,z5,z6, .d .i64 t]/\((z0.B=true/\z0.A=some [z0])/\(z1.B=true/\z1.A=some [z1])/\(z2.B=true/\z2.A=some [z2])/\(z3.B=true/\z3.A=some [z3])/\(z4.B=true/\z4.A=some [z4])/\(z5.B=true/\z5.A=some [z5])/\(z6.B=true/\z6.A=some [z6]))
theorem JsW {kind n:Int}(hD:DT v e z i h f)(hO:OfF h f)(hl:KF r e p d)(ht:∀c∈d,c.2<f.a.length)(hn:d.length<1000):
  Dz 120 [.g i 0,p, .d .i64 kind, .d .i64 n] e fun k S'=>Gr e S'/\∃ce b,k= .p [.j ce, .h b]/\(∃z0 z1 z2 z3 z4 z5 z6 t,Box8 ce z0 z1 z2 z3 z4 z5 z6 t)/\(b=true->∃u,∃w:u<d.length,jI r S' ce d[u]/\(Jm f d[u].2).a=kind):=by
 have hw:=hD.wf;refine Jn tabM (aT Tryz.func120 rfl) rfl hw fun K T=> ?_;have ll:=LstAt.H hl;obtain⟨n0,W⟩:=nxE e;simp only[CT,Tryz.f120,XY,simprocAttr];rw[Ja];simp[XY,W];generalize ai:up 0 n0=p8;refine nm1 hw W ai ?_;intro S1 X ao ⟨t8,r8⟩;rw[Jd,Ja];simp[XY];refine Jo (fun j N S'=>∃u:Nat,j+u=d.length/\N 0= .g i 0/\N 1=p/\N 2= .d .i64 kind/\N 3= .d .i64 n/\N 8= .g p8 0/\N 10= .d .i64 (u:Nat)/\Gr S1 S') d.length (by omega) ⟨0,by omega,rfl,rfl,rfl,rfl,rfl,by rfl,Gr.F X.D⟩ ?_;rintro L hL j N S2 ⟨u,hj,f0,f1,f2,f3,f8,M,Y⟩;have aa:=Y.B r8;by_cases hi:u<d.length;rotate_left
 ·simp[XZ,f1,f8,M,ll,hi,aa];refine T _ _ (fun y J=> ?_) fun _=>⟨_,false,rfl,⟨_,_,_,_,_,_,_,_,rfl,⟨rfl,rfl⟩,⟨rfl,rfl⟩,⟨rfl,rfl⟩,⟨rfl,rfl⟩,⟨rfl,rfl⟩,⟨rfl,rfl⟩,rfl,rfl⟩,fun w=>by cases w⟩
  rw[Jj _ _ _ fun x=>J (by grind),(X.A Y).d y J]
 have O:=wiN (i:=u) (by omega);obtain⟨m,hm,Q⟩:=KU (IntKind.i64.wrap (n+u)) (n:=d.length) (by omega);have aj:KF (fun y=>r y/\y≠p8) S2 p d:=hl.za fun y a b=>⟨⟨a,fun J=>b (by grind)⟩,(X.A Y).d y b⟩
 obtain⟨q,o,J,a1,a2,a3,a4,a5,a6,a7⟩:=LstAt.A aj Q;rw[Jd,Ja];simp[XY,f1,M,ll,hi];rw[Jd];simp[XY];rw[Ja];simp[XY,f1,f3,M,ll];refine Je (qE _ _ S2 (by omega) (by omega)) ?_;rintro _ _ ⟨rfl,rfl⟩;rw[hm];obtain⟨z0,z1,z2,z3,z4,z5,z6,rfl,ak,q0,q1,q2,q3,q4,q5,q6⟩:=JkD a5;obtain⟨n2,ab⟩:=nxE S2;simp[XY,a1,a4,ab,q0.1,q1.1,q2.1,q3.1,q4.1,q5.1,q6.1];generalize ad:up 0 n2=ap;refine nmA Y.D ab ad ?_;intro S3 G3 am ⟨aq,ae⟩;have af:=Y.A G3;rw[Ja];simp[XY,f0,ae];refine Je (atD (hD.B (X.A af)) hO (ht _ (Xh Q))) ?_;rintro _ S4 ⟨G4,kx,ky,rfl,_,_⟩;have ag:=af.A G4;have ah:=G4.B ae;have al:=G4.B (G3.B aa);by_cases hk:(Jm f d[m].2).a=kind
 ·simp[XZ,f2,hk,f8,ah,al,q0.1,q1.1,q2.1,q3.1,q4.1,q5.1,q6.1];refine T _ _ (fun y J=> ?_) fun g=>⟨_,true,rfl,⟨_,_,_,_,_,_,_,_,rfl,q0,q1,q2,q3,q4,q5,q6⟩,fun _=>⟨m,Q, ?_,hk⟩⟩
  ·rw[Jj _ _ _ fun x=>J (by grind),(X.A ag).d y J]
  ·exact⟨[z0,z1,z2,z3,z4,z5,z6],rfl,OprC.A (fun y a b=>⟨a.1,by rw[Jj _ _ _ a.2,(G3.A G4).d y b]⟩) ak⟩
 ·simp[XZ,f2,hk,M,O];exact⟨d.length-(u+1),by omega,hL _ _ _ ⟨u+1,by omega,f0,f1,f2,f3,f8,rfl,ag⟩⟩
theorem nm2c {T:Table}{p q:Pt}{args:List V}{R:V->St->Prop}(o:WF e)(g:e.b=up 0 i)(x:up 0 i=p)(z:up 1 i=q)(h:∀l,Gr e l->e.A p= .none->e.A q= .none->p≠q->(∃c,l.A p= .a c n)->(∃c,l.A q= .a c j)->Kh T y k t args u l R):Kh T y k t args u ((e.B fun c=> .a c n).B fun c=> .a c j) R:=by
 subst x;subst z;have r:=Gr.G o (Jc n);have J:(e.B fun c=> .a c n).A (up 0 i)= .a e.t n:=Qi g _;have s:(e.B fun c=> .a c n).b=up 1 i:=by
  show up 1 e.b=_;rw[g];rfl
 have w:=Gr.G r.D (Jc j);have v:up 0 i≠up 1 i:=fun d=>by
  have:=J6 r.D
  grind
 exact h _ (r.A w) (nx0 o g 0) (nx0 o g 1) v ⟨_,w.B J⟩ ⟨_,Qi s _⟩
structure jv (S0 S:St) (tb:Tb) (E:EnvS) (lv:V) (l:List (Opn×Nat)):Prop where
 g:Gr S0 S
 d:∃es,SlF S0 S lv 8 es/\es.length=l.length/\∀i (h:i<es.length) (h':i<l.length),jI (fun r=>S0.A r= .none/\rowOf lv≠some r) S es[i] l[i]
 f:∀c∈l,jq tb E c
 e:l.length<=60
theorem jv.A {c S S':St}{j:Tb}{E:EnvS}{k:V}{l:List (Opn×Nat)}(h:jv c S j E k l)(g:Gr S S'):jv c S' j E k l:=by
 obtain⟨m,n,o,p⟩:=h.d;exact⟨h.g.A g,⟨m,n.G g,o,fun i a b=>(p i a b).A g.H⟩,h.f,h.e⟩
structure YE (S S':St) (lv v:V):Prop where
 d:∀p,S.A p≠ .none->rowOf lv≠some p->S'.A p=S.A p
 f:∀r,rowOf v=some r->rowOf lv=some r\/S.A r= .none
theorem YE.B {c:V}(h:YE e S p L)(k:YE S T L c):YE e T p c:=by
 have j:∀r,S.A r= .none->rowOf p=some r\/e.A r= .none:=fun r g=>by
  by_cases x:rowOf p=some r
  ·grind
  ·exact .inr (Xd fun n=>n (by rw[<-h.d r n x];exact g))
 refine⟨fun i g n=> ?_,fun r g=> ?_⟩
 ·have l:=h.d i g n;rw[k.d i (by grind) fun x=>(h.f i x).elim n g,l]
 ·rcases k.f r g with x|x
  ·exact h.f r x
  grind
theorem YE.D (g:Gr S T)(v:V):YE S T v v:=⟨fun p e _=>g.d p e,fun r e=> .inl e⟩
theorem YE.A {S S':St}{a b:V}(h:YE S S' a b){p:Pt}{t:Nat}{l:List V}(e:S.A p= .a t l)(n:rowOf a≠some p):S'.A p= .a t l/\rowOf b≠some p:=
 ⟨(h.d p (Jb e) n).trans e,fun x=>(h.f p x).elim n (Jb e)⟩
theorem JuO {E:EnvS}(cv:h.c=[])(hD:DT v e z i h f)(hO:OfF h f)(hE:EnvC r e j E)(hK:EnvK f E):∀(X:Nat),X<=10->∀{S:St} {lv:V} {l:List (Opn×Nat)} {oe:List V} {W sx:Str} {T:List Str} {n:Int} {b:Bool},jv e S f E lv l->OprC (fun o=>e.A o= .none/\rowOf lv≠some o) S 1 oe (.mk 1 W T sx n b [])->T.length+X<90000->
  Dz 118 [.g i 0, .j j, .j oe, .d .i64 (X:Nat),lv] S fun K S'=>∃l',jv e S' f E K l'/\YE S S' lv K/\OprC (fun o=>e.A o= .none/\rowOf K≠some o) S' 1 oe (.mk 1 W T sx n b []):=by
 intro X
 induction X using Nat.strongRecOn with
 |_ X ih=>
 intro hm S lv l oe W sx T n b hG ho dz;refine Jl (aT Tryz.func118 rfl) rfl ?_;have hw:=hG.g.D;have cw:=hE;obtain⟨x0,x1,x2,rfl,a0,a1,a2⟩:=Qk hE;have cx:=ho;obtain⟨pv,qv,rfl,bi,bj⟩:=ho;have d1:=bi.A;have d2:=bi.B;have d3:=bj.B.2;have d4:=bj.B.1;obtain⟨es,h1,h2,h3⟩:=hG.d;have ll:=h1.D.G;obtain⟨n0,bk⟩:=nxE S;simp only[CT,Tryz.f118,XY,simprocAttr];rw[Ja];simp only[XY,simprocAttr,bk,a0.1,a1.1,a2.1,d2,d4];generalize cy:up 0 n0=p6;generalize cz:up 1 n0=p7;refine nm2 hw bk cy cz ?_;intro S1 G1 c0 c1 d0 ⟨t6,r6⟩ ⟨t7,r7⟩;obtain⟨n1,bl⟩:=nxE S1;rw[Ja];simp only[XY,simprocAttr,r6,r7,bl,d2,d4];generalize c2:up 0 n1=pc;generalize c3:up 1 n1=pp;refine nm2c G1.D bl c2 c3 ?_;intro S2 G2 _ _ _ ⟨tc,rc⟩ ⟨tp,rp⟩;have az:=G1.A G2;have bm:=hG.g.A az;have bn:OprC (fun o=>e.A o= .none/\rowOf lv≠some o) S2 1 [.d .i64 1,ofL W,pv,ofL sx, .d .i64 n, .h b,qv] (.mk 1 W T sx n b []):=OprC.A az.H cx;refine Je (ofP1 (hD.B bm) hO (cw.A bm.H) hK bn (by omega) rp rc) ?_;rintro _ S3 ⟨G3,rfl⟩;have a3:=az.A G3;have a4:=hG.A a3;have c4:=G3.B (G2.B r6);have a5:=G3.B (G2.B r7);have c5:rowOf lv≠some p6:=fun j=>h1.A j c0;have c6:rowOf lv≠some p7:=fun j=>h1.A j c1;have bo:=OprC.A G3.H bn;have c7:∃l',jv e S3 f E lv l'/\YE S S3 lv lv/\OprC (fun o=>e.A o= .none/\rowOf lv≠some o) S3 1 [.d .i64 1,ofL W,pv,ofL sx, .d .i64 n, .h b,qv] (.mk 1 W T sx n b []):=⟨l,a4,YE.D a3 _,bo⟩
 simp only[XY,simprocAttr];by_cases c:(Qs f E W T).2=0;rotate_left
 ·rw[Jd,Ja];simp only[XZ,simprocAttr,c];omega
 have d5:es.length=l.length:=h2;by_cases d6:l.length≥60
 ·have ai:(es.length:Int)≥60:=by omega
  rw[Jd,Ja];simp only[XZ,simprocAttr,c,ll,ai];omega
 have ai:¬(es.length:Int)≥60:=by omega
 have c8:=(JaN (SgOK.A (sg:=fun _ _ _=>(0,0)) cv) 1 E f (.mk 1 W T sx n b []) trivial hO hK)
 have aj:(Qs f E W T).1<f.a.length:=c8.g c;generalize hid:(Qs f E W T).1=id at*;have bp:∃K,Qh E W=some K:=by
  cases hp:Qh E W with
  |some K=>simp
  | none=>
    have:Qs f E W T=(0,15):=by unfold Qs;rw[hp]
    grind
 obtain⟨bq,k1,k2,k3⟩:=a4.d;have d7:=k1.D.G;obtain⟨n3,br⟩:=nxE S3;have o7:=fun k=>nes (Jt G3.D br (Jb a5) k);rw[Jd,Ja];simp only[XY,simprocAttr,c,ll,ai];rw[Ja];simp only[XY,simprocAttr,a5,br,d2,d4];obtain⟨A3,a6⟩:=exE (S3.B fun t=>Row.a t [.d .i64 1,ofL W,pv,ofL sx, .d .i64 n, .h b,qv, .d .i64 (id:Nat)]);have ab:Gr S3 A3:=by rw[a6];exact Gr.G G3.D (Jc _)
 have ak:SlAt (fun o=>o=up 0 n3) A3 (.m (up 0 n3) 0 1 8 1) 8 [[.d .i64 1,ofL W,pv,ofL sx, .d .i64 n, .h b,qv, .d .i64 (id:Nat)]]:=by
  have:=QE (st:=S3) (z:=8) (e:=[.d .i64 1,ofL W,pv,ofL sx, .d .i64 n, .h b,qv, .d .i64 (id:Nat)]) rfl
  grind
 rw[<-a6];clear a6;have c9:=a4.g;refine Yc (S0:=e) (c9.A ab) (k1.G ab) ak (fun j he=>by rw[Xj.1 he];simp[J9,Kv,jS,jT,Ja2,d2,d4]) (by simp) (by simp) (by grind) ?_;intro S4 v4 g4 h4 bt da;have d8:=J6 ab.D;have ar:YE S3 S4 lv v4:=⟨fun p j n=>by rw[da p (by rw[ab.d p j];exact j) n,ab.d p j],fun o j=>by
  rw[bt]at j;injection j with j;exact .inr (ab.I (by grind))⟩
 have db:YE S S4 lv v4:=(YE.D a3 lv).B ar;have dc:∀o,S3.A o≠ .none->rowOf v4≠some o:=fun o j x=>by
  rw[bt]at x;injection x with x;exact j (ab.I (by grind))
 have bu:∀o,(e.A o= .none/\rowOf lv≠some o)->S3.A o≠ .none->(e.A o= .none/\rowOf v4≠some o)/\S4.A o=S3.A o:=fun o a b=>⟨⟨a.1,dc o b⟩,ar.d o b a.2⟩
 have bv:=OprC.A bu bo;have bw:jv e S4 f E v4 (l++[(.mk 1 W T sx n b [],id)]):=⟨g4,⟨_,h4,by simp[k2],fun M a b'=>by
  by_cases hi:M<bq.length
  ·rw[Xw hi,Xw (by omega)];exact(k3 M hi (by omega)).A bu
  ·have:M=bq.length:=by grind
   subst this;rw[XL (Xb _),XL (by omega)];simp[k2];exact⟨_,rfl,bv⟩⟩,fun x hx=>by
  rcases Xs.1 hx with hx|hx
  ·exact hG.f x hx
  ·rw[Xj.1 hx];exact⟨rfl,aj,bp,by grind,rfl⟩,by grind⟩
 obtain⟨dd,bx⟩:=ar.A c4 c5;obtain⟨de,bz⟩:=ar.A a5 c6;simp only[XY,simprocAttr];rw[Ja];simp only[XY,simprocAttr];refine Je (atD (hD.B g4) hO aj) ?_;rintro _ S5 ⟨G5,kx,ky,rfl,ux,uy⟩;have b1:=ux.A;have b2:=ux.B;have b3:=uy.A;have b4:=uy.B;obtain⟨n5,b0⟩:=nxE S5;simp only[XY,simprocAttr,b0,b2,b4];generalize b5:up 0 n5=ae;refine nmA G5.D b0 b5 ?_;intro S6 G6 b6 ⟨df,dg⟩;have af:=G5.A G6;have b7:=bw.A af;have b8:=af.B dd;have b9:=af.B de;have ca:∀o,rowOf v4=some o->S4.A o≠ .none:=fun o j=>h4.A j;have a7:rowOf v4≠some ae:=fun j=>ca _ j (G5.I b6);have cb:YE S S6 lv v4:=db.B (YE.D af v4);have cc:=OprC.A af.H bv;obtain⟨_,_,_,_,o5,_⟩:=hO.F aj;have dw:=o5.b;have dh:SlAt (fun o=>z o\/v o) S6 kx 1 (strs (Jm f id).b):=ux.I G6;have lx:=ux.G;rw[Jv]at lx;have cd:∀o,z o\/v o->e.A o≠ .none:=hD.f;generalize Jm f id=N at*;rw[Jd,Ja];simp only[XY,simprocAttr];obtain⟨L,hL⟩:=loE fun O fr S'=>∃(M:Nat) (Y:V) (l':List (Opn×Nat)),O+M=N.b.length/\fr 0= .g i 0/\fr 3= .d .i64 (X:Nat)/\fr 4=Y/\fr 6= .g p6 0/\fr 7= .g p7 0/\fr 13= .g ae 0/\fr 14= .d .i64 (M:Nat)/\jv e S' f E Y l'/\YE S S' lv Y/\S'.A p6= .a t6 [x0,x1,x2]/\rowOf Y≠some p6/\S'.A p7= .a t7 [.d .i64 1,ofL W,pv,ofL sx, .d .i64 n, .h b,qv]/\rowOf Y≠some p7/\S'.A ae= .a df [.d .i64 N.a,ofL N.d,kx,ky]/\rowOf Y≠some ae/\OprC (fun o=>e.A o= .none/\rowOf Y≠some o) S' 1 [.d .i64 1,ofL W,pv,ofL sx, .d .i64 n, .h b,qv] (.mk 1 W T sx n b []);refine JD L N.b.length (by omega) ((hL _ _ _).2 ⟨0,v4,_,by omega,rfl,rfl,rfl,rfl,rfl,rfl,by rfl,b7,cb,b8,bx,b9,bz,dg,a7,cc⟩) ?_;clear b7 cb b8 b9 cc;intro O fr S7 di;obtain⟨M,Y,l',hj,f0,f3,f4,f6,f7,ag,ah,al,dj,a8,ce,a9,cf,aa,ba,cg⟩:=(hL _ _ _).1 di;by_cases hi:M<N.b.length;rotate_left
 ·have am:¬(M:Int)<N.b.length:=by omega
  simp only[XZ,simprocAttr,f4,ag,ah,aa,lx,am]
  grind
 have am:(M:Int)<N.b.length:=by omega
 by_cases d9:X=0
 ·have ad:¬(X:Int)>0:=by omega
  simp only[XZ,simprocAttr,f3,f4,ag,ah,aa,lx,am,ad]
  grind
 have ad:(X:Int)>0:=by omega
 by_cases h7:N.a=7;rotate_left
 ·simp only[XZ,simprocAttr,f3,f4,ag,ah,aa,lx,am,ad,h7]
  grind
 have bb:=wiN (i:=M) (by omega);have ch:IntKind.i64.wrap ((X:Int)-1)=((X-1:Nat):Int):=by rw[JX (by omega) (by omega)];omega
 have cj:=cg;obtain⟨ea,eb,he,ck,cl⟩:=cj;simp at he;obtain⟨e1,e2⟩:=he;subst e1;subst e2;obtain⟨rk,ok,y1,y2⟩:=Q7 (dh.D fun o a b=>(⟨a,by rw[al.g.d o (cd o a),bw.A af|>.g.d o (cd o a)]⟩:(z o\/v o)/\S7.A o=S6.A o)) hi;have bc:S7.A rk≠ .none:=fun Q=>by rw[Q]at y2;cases y2
 generalize N.b[M]=nm at*;obtain⟨n7,cm⟩:=nxE S7;rw[Jd,Ja];simp only[XY,simprocAttr,f3,ag,ah,aa,lx,am,ad,h7];rw[Jd];simp only[XY,simprocAttr];rw[Ja];simp[XY,f7,a9,cm,d2,d4];generalize cn:up 0 n7=bd;refine nmA al.g.D cm cn ?_;intro S8 G8 co ⟨dk,au⟩;have ec:=G8.B a8;have cp:=G8.B a9;have ao:=G8.B aa;have w8:=G8.D;obtain⟨nA,av⟩:=nxE S8;have o7:=fun k=>nes (Jt w8 av (Jb cp) k);rw[Ja];simp[XY,f7,cp,av,o7];obtain⟨y0,be⟩:=exE (up 0 nA);obtain⟨S9,aw⟩:=exE (S8.B fun t=>Row.a t []);have G9:Gr S8 S9:=by rw[aw];exact Gr.G w8 (Jc _)
 obtain⟨t9,r9⟩:∃t,S9.A y0= .a t []:=⟨_,by rw[aw,be];simp[XZ,av];rfl⟩
 have dl:S8.A y0= .none:=by rw[be];exact nx0 w8 av 0
 rw[<-aw,<-be];clear aw;have dm:SlF S8 S9 (.m y0 0 0 1 0) 1 []:=⟨by simp, .inr ⟨y0,t9,dl,by grind, .inr rfl⟩⟩
 have nx:∀p,S8.A p≠ .none->rowOf (.m y0 0 0 1 0)≠some p:=fun p Q j=>by
  injection j with j
  grind
 refine Qj (S0:=S8) G9 dm (ck.I (G8.A G9)) (Ya _) (by rw[Jv];omega) (by rw[Jv];grind) fun Sa v1 ga cq dx bf=> ?_;simp at cq;have kS:∀{p:Pt},S8.A p≠ .none->Sa.A p=S8.A p:=fun{p} Q=>by rw[bf p (by rw[G9.d p Q];exact Q) (nx p Q),G9.d p Q]
 have cr:=(kS (Jb ao)).trans ao;have dy:=(kS (Jb au)).trans au;have ay:S8.A rk≠ .none:=by rw[G8.d rk bc];exact bc
 have dn:ld1 (Sa.A rk) ok=some (ofL nm, .a):=by rw[kS ay,G8.d rk bc];exact y2
 obtain⟨nB,dp⟩:=nxE Sa;simp[XY,ag,ah,cr,y1,dn,dp];obtain⟨Sb,bg⟩:=exE (Sa.B fun t=>Row.a t [ofL nm]);have gb:Gr Sa Sb:=by rw[bg];exact Gr.G ga.D (Jc _)
 have ak:SlAt (fun o=>o=up 0 nB) Sb (.m (up 0 nB) 0 1 1 1) 1 [[ofL nm]]:=by
  have:=QE (st:=Sa) (z:=1) (e:=[ofL nm]) rfl
  grind
 rw[<-bg];clear bg;refine Yc (S0:=S8) (ga.A gb) (cq.G gb) ak (fun j he=>by rw[Xj.1 he];rfl) (by simp) (by simp) (by rw[Jv];grind) ?_;intro Sc v2 gc ax ed ee;have kc:∀{p:Pt},S8.A p≠ .none->Sc.A p=S8.A p:=fun{p} Q=>gc.d p Q;have ap:=gc.B au;have s2:=ax.D.B;have s3:=ax.D.A;simp[XY,ap,s2,s3];refine⟨Ja4 (JU (v:= .m y0 0 0 1 0) (w:= .g ae 2) (q:=ae) ?_ ?_ rfl fun j=>Jb ao (by grind)) (JU (v:= .m y0 0 0 1 0) (w:= .g rk ok) (q:=rk) ?_ ?_ rfl fun j=>ay (by grind)), ?_⟩
 ·rfl
 ·rfl
 ·rfl
 ·rfl
 obtain⟨Sd,aq⟩:=exE (Sc.D bd dk fun u=> .a u [.d .i64 1,ofL W,v2,ofL sx, .d .i64 n, .h b,qv]);have gd:Gr S7 Sd:=by rw[aq];exact(G8.A gc).J co (Jb ap) (by rw[ap];rfl) (Jc _)
 obtain⟨td,cs⟩:∃t,Sd.A bd= .a t [.d .i64 1,ofL W,v2,ofL sx, .d .i64 n, .h b,qv]:=⟨_,by rw[aq];exact Jh _ _ _ _⟩
 have kd:∀o,o≠bd->Sd.A o=Sc.A o:=fun o j=>by rw[aq,Jj _ _ _ j]
 rw[<-aq];clear aq;have ct:SlF S8 Sd v2 1 (strs (T++[nm])):=by
  have j:strs (T++[nm])=strs T++[[ofL nm]]:=by simp[strs]
  rw[j];exact ax.B fun o x=>kd o fun y=>Jb au (by rw[<-y];exact(ax.H x).1)
 have bh:∀o,rowOf Y=some o->S7.A o≠ .none:=fun o j=>by
  obtain⟨_,q1,_⟩:=al.d;exact q1.A j
 have dq:OprC (fun o=>e.A o= .none/\rowOf Y≠some o) Sd 1 [.d .i64 1,ofL W,v2,ofL sx, .d .i64 n, .h b,qv] (.mk 1 W (T++[nm]) sx n b []):=⟨v2,qv,rfl,ct.D.D fun o j _=>⟨⟨(al.g.A G8).I j,fun x=>bh o x (G8.I j)⟩,rfl⟩,cl.G (fun _ _ Q=>Q.A (fun _ _ Q=>Q.elim) gd.H) gd.H⟩
 have dr:=gd.B a8;simp[XY,f0,f3,f4,f6,dr,cs,ch];refine Je (ih (X-1) (by omega) (by omega) (al.A gd) dq (by grind)) ?_;rintro K Se ⟨l2,ds,Ke,_⟩;have Kd:YE S7 Se Y K:=(YE.D gd Y).B Ke;obtain⟨dt,q6⟩:=Kd.A a8 ce;obtain⟨du,q7⟩:=Kd.A a9 cf;obtain⟨cu,dv⟩:=Kd.A aa ba;simp[XZ,ah,bb];exact⟨N.b.length-(M+1),by omega,(hL _ _ _).2 ⟨M+1,K,l2,by omega,f0,f3,rfl,f6,f7,ag,rfl,ds,dj.B Kd,dt,q6,du,q7,cu,dv,OprC.A (fun o a b=>⟨⟨a.1,fun x=>(Kd.f o x).elim a.2 b⟩,Kd.d o b a.2⟩) cg⟩⟩
theorem JtV {E:EnvS}(aw:h.c=[])(hD:DT v e z i h f)(hO:OfF h f)(hE:EnvC r e n E)(hK:EnvK f E)(w:Nat)(hm:w<=10):
  Dz 76 [.g i 0, .j n, .d .i64 (w:Nat)] e fun k S'=>Gr e S'/\∃l,KF (fun m=>e.A m= .none) S' k l/\(∀c∈l,jq f E c)/\l.length<=60:=by
 have hw:=hD.wf;refine Jn tabM (aT Tryz.func76 rfl) rfl hw fun K ax=> ?_;have ag:=hE;obtain⟨vv,ad,rfl,h1,h2,c1,c2⟩:=K8 hE;have X:=h1.G;rw[Xr]at X;have a7:=hK.e;obtain⟨n0,ah⟩:=nxE e;simp only[CT,Tryz.f76,XY,simprocAttr];rw[Ja];simp[XY,ah,c1.1,c2.1];generalize ay:up 0 n0=p4;refine nm1 hw ah ay ?_;intro S1 G1 a8 ⟨t4,r4⟩;rw[Ja];simp[XY];rw[Jd,Ja];simp[XY];have h0:jv e S1 f E .e []:=⟨G1,⟨[],SlF.I _ _ _,rfl,fun o q=>absurd q (XH _)⟩,(fun c q=>by cases q),XC _⟩
 refine Jo (fun j fr S'=>∃(o:Nat) (Y:V) (l:List (Opn×Nat)),j+o=E.a.length+1/\fr 0= .g i 0/\fr 2= .d .i64 (w:Nat)/\fr 4= .g p4 0/\fr 7=Y/\fr 8= .d .i64 ((o:Int)-1)/\jv e S' f E Y l/\S'.A p4= .a t4 [.d .i64 (E.c:Nat),vv,ad]/\rowOf Y≠some p4) (E.a.length+1) (by omega) ⟨0, .e,[],by omega,rfl,rfl,rfl,rfl,by rfl,h0,r4,fun n=>by cases n⟩ ?_;rintro L hL j fr S2 ⟨o,Y,l,hj,f0,f2,T,f7,M,W,y,ai⟩;have aj:J8 Y=some (.d .i64 (l.length:Nat), .a):=by
  obtain⟨es,q1,q2,_⟩:=W.d;have:=q1.D.G
  grind
 have done:K Y S2:=ax _ _ (fun m n=>W.g.d m n) fun _=>⟨l,by
  obtain⟨es,q1,q2,q3⟩:=W.d;exact⟨es,q1.D,q2,fun o a b=>(q3 o a b).A fun m p _=>⟨p.1,rfl⟩⟩,W.f,W.e⟩
 by_cases hi:o<E.a.length+1;rotate_left
 ·have aa:¬((o:Int)-1)<E.a.length:=by omega
  simp[XZ,T,f7,M,y,X,aa];omega
 have aa:((o:Int)-1)<E.a.length:=by omega
 by_cases a9:l.length<60;rotate_left
 ·have N:¬(l.length:Int)<60:=by omega
  simp[XZ,T,f7,M,y,X,aa,aj,N];omega
 have N:(l.length:Int)<60:=by omega
 have x:IntKind.i64.wrap ((o:Int)-1+1)=((o+1:Nat):Int)-1:=by rw[JX (by omega) (by omega)];omega
 obtain⟨n2,ak⟩:=nxE S2;rw[Jd,Ja];simp[XY,T,f7,M,y,X,aa,aj,N];rw[Jd];simp[XY];rw[Ja];simp[XY,ak];generalize az:up 0 n2=p9;refine nmA W.g.D ak az ?_;intro S3 G3 a0 ⟨t9,r9⟩;have al:=G3.B y;have a1:=W.A G3;have go:∀{S4:St} {nm:Str} {t:Nat} {am:Fr} {Q:V->St->Prop},Gr S2 S4->S4.A p9= .a t [.d .i64 1,ofL nm, .e,ofL [], .d .i64 0, .h false, .e]->(∀k S5 l2,jv e S5 f E k l2->S5.A p4= .a t4 [.d .i64 (E.c:Nat),vv,ad]->rowOf k≠some p4->Q k S5)->Kh (tabT tabD) false none 118 [.g i 0, .j [.d .i64 (E.c:Nat),vv,ad], .j [.d .i64 1,ofL nm, .e,ofL [], .d .i64 0, .h false, .e], .d .i64 (w:Nat),Y] am S4 Q:=by
  intro S4 nm t am Q G4 ae hQ;have ho:OprC (fun m=>e.A m= .none/\rowOf Y≠some m) S4 1 [.d .i64 1,ofL nm, .e,ofL [], .d .i64 0, .h false, .e] (.mk 1 nm [] [] 0 false []):=⟨.e, .e,rfl,SlAt.K _ _ _,LstAt.F⟩
  refine Je (JuO aw hD hO ag hK w hm (W.A G4) ho (by grind)) ?_;rintro k S5 ⟨l2,ao,K5,_⟩;obtain⟨O,q4⟩:=K5.A (G4.B y) ai
  grind
 by_cases a2:o=0
 ·subst a2;have ap:¬(((0:Nat):Int)-1)≥0:=by omega
  rw[Jd,Ja];simp[XY,M];simp[XY,f0,f2,T,f7,al,r9];refine go G3 r9 ?_;intro k S5 l2 ao O q4;simp[XZ,M];exact⟨E.a.length+1-(0+1),by omega,hL _ _ _ ⟨0+1,k,l2,by omega,f0,f2,T,rfl,rfl,ao,O,q4⟩⟩
 obtain⟨c,rfl⟩:∃c,o=c+1:=⟨o-1,by omega⟩
 have hc:c<E.a.length:=by omega
 have e8:(((c+1:Nat):Int)-1)=((c:Nat):Int):=by omega
 rw[e8]at M x;have ap:((c:Nat):Int)≥0:=by omega
 have a3:=a1.g;obtain⟨ra,qa,v1,v2,v3⟩:=JlC (h1.I a3) hc;rw[Jd,Ja];simp[XY,M,ap];rw[Ja];simp[XY,T,M,al,v1,v2,r9];obtain⟨S4,ab⟩:=exE (S3.D p9 t9 fun u=> .a u [.d .i64 1,ofL E.a[c].1, .e,ofL [], .d .i64 0, .h false, .e]);have af:Gr S2 S4:=by rw[ab];exact G3.J a0 (Jb r9) (by rw[r9];rfl) (Jc _)
 obtain⟨ba,ae⟩:∃t,S4.A p9= .a t [.d .i64 1,ofL E.a[c].1, .e,ofL [], .d .i64 0, .h false, .e]:=⟨_,by rw[ab];exact Jh _ _ _ _⟩
 rw[<-ab];clear ab;have aq:=af.B y;have ar:=W.g.A af;rw[Ja];simp[XY,T,aq,ae];refine Je (findD ar.D (ag.A ar.H) hK.e _) ?_;rintro _ S5 ⟨G5,rfl⟩;have au:=af.A G5;have O:=G5.B aq;have av:=G5.B ae;by_cases hf:kE E E.a[c].1=(c:Nat)
 ·have a4:(kE E E.a[c].1=((c:Nat):Int))=True:=Zn hf;simp[XY,M,a4];simp[XY,f0,f2,T,f7,O,av];refine go au av ?_;intro k S6 l2 a5 a6 q4;simp only[XZ,simprocAttr,M,x];exact⟨E.a.length+1-(c+1+1),by omega,hL _ _ _ ⟨c+1+1,k,l2,by omega,f0,f2,T,rfl,rfl,a5,a6,q4⟩⟩
 ·simp only[XZ,simprocAttr,M,hf,x];exact⟨E.a.length+1-(c+1+1),by omega,hL _ _ _ ⟨c+1+1,Y,l,by omega,f0,f2,T,f7,rfl,W.A au,O,ai⟩⟩
def GrR (a b:St):Prop:=WF b/\∀r,a.A r≠ .none->b.A r=a.A r
theorem GrR.B (h:GrR e S)(g:Gr S T):GrR e T:=⟨g.D,fun r f=>by rw[g.d r (by rw[h.2 r f];exact f),h.2 r f]⟩
theorem GrR.D {a:St}(h:GrR a S)(n:Nat)(w:WF {S with a:=n}):GrR a {S with a:=n}:=⟨w,h.2⟩
theorem GrR.A {a b:St}(h:GrR a b){r:Pt}(e:b.A r= .none):a.A r= .none:=by
 by_cases c:a.A r= .none
 ·exact c
 ·exact absurd (h.2 r c▸e) c
def Jf6 (S0:St)(P:Pt->Prop)(ru:Pt)(lv:V)(d:Nat):Prop:=∀(S:St) (kind:Int) (re:List V) (r:R9),GrR S0 S->R9C (fun _=>True) S re r->Dz 78 [.g ru 0,lv, .d .i64 kind, .j re, .d .i64 (d:Nat)] S fun v S'=>Gr S S'/\∃oe o,v= .j oe/\OprC (fun r=>P r\/S0.A r= .none) S' (d+1) oe o/\YD (d+1) o
def OpsR (S0:St)(P:Pt->Prop)(S':St)(d:Nat)(v:V):Prop:=∃(o:Opn) (r:List Opn),LstAt (OprC (fun r=>P r\/S0.A r= .none) S' d) (fun r=>P r\/S0.A r= .none) S' v 7 (o::r)/\(∀x∈o::r,fitO d x/\docO d x)/\(∀x∈r,x.k≠6)/\r.length<9
theorem Jni (h:OprC v e t n x):∃c f g i j l m,n=[c,f,g,i,j,l,m]/\((c.B=true/\c.A=some [c])/\(f.B=true/\f.A=some [f])/\(g.B=true/\g.A=some [g])/\(i.B=true/\i.A=some [i])/\(j.B=true/\j.A=some [j])/\(l.B=true/\l.A=some [l])/\(m.B=true/\m.A=some [m])):=by
 cases t with
 |zero=>exact h.elim
 | succ t=>
   obtain⟨k,s,q,w,a,b,p⟩:=x;obtain⟨y,z,rfl,r,u⟩:=h;exact⟨_,_,_,_,_,_,_,rfl,⟨rfl,rfl⟩,⟨rfl,rfl⟩,⟨r.B,r.A⟩,⟨rfl,rfl⟩,⟨rfl,rfl⟩,⟨rfl,rfl⟩,u.B⟩
theorem QC {E:EnvS}{l m o q r:V}{c:Opn×Nat}(h:jI v e [p,L,l,m,o,q,r, .d .i64 g] c)(a:jq f E c)(d:Nat):OprC v e (d+1) [p,L,l,m,o,q,r] c.1/\YD (d+1) c.1:=by
 obtain⟨J,K,x⟩:=h;have y:=x.F;have s:J=[p,L,l,m,o,q,r]:=by
  have:=congrArg (List.take 7) K;rw[ZX (by omega),<-y,XE]at this;rw[y]at this;exact this.symm
 subst s;obtain⟨⟨k,M,j,N,n,b,i⟩,O⟩:=c;obtain⟨u,Q,T,z,w⟩:=a;have u:k=1:=u;have w:i=[]:=w;have z:j.length<90000:=z;subst u w;exact⟨x.I (by omega),⟨by omega,by simp,fun c h=>by cases h⟩,fun h=>absurd h (by decide),by omega⟩
section
variable {Z U P : Pt -> Prop} {S0 : St} {ru : Pt} {tb : Tb} {s : Sch} {E : EnvS} {lv : V} {l : List (Opn × Nat)}
theorem JsX (O:DT Z S0 U ru s tb)(T:OfF s tb)(W:KF P S0 lv l)(X:∀c∈l,jq tb E c)(Y:l.length<1000)(G:GrR S0 e){n:Int}(hQ:∀x m w y z J K L M N t,Gr e w->Box8 x y z J K L M N t->(m=true->∃i,∃h:i<l.length,jI P w x l[i]/\(Jm tb l[i].2).a=g)->b (.p [.j x, .h m]) w):Kh (tabT tabD) true k 120 [.g ru 0,lv, .d .i64 g, .d .i64 n] u e b:=by
 have wl:=Jq G.1 e.t;refine Ji ((JsW (kind:=g) (n:=n) (O.A wl fun r o=>G.2 r (O.f r o)) T (W.za fun r a m=>⟨a,G.2 r m⟩) (fun c h=>(X c h).a) Y).A fun v w h=>⟨h.1,h.2⟩) ?_;rintro _ w G' ⟨x,m,rfl,⟨y,z,J,K,L,M,N,t,hb⟩,h⟩;exact hQ x m w y z J K L M N t G' hb fun q=>by
  obtain⟨i,hi,h1,h2⟩:=h q;exact⟨i,hi,h1.A kR,h2⟩
theorem Jqy (w:DT Z S0 U ru s tb)(x:OfF s tb)(y:KF P S0 lv l)(z:∀c∈l,jq tb E c)(J:l.length<1000)(G:GrR S0 e){n:Int}(X:∀q m v K L M N O T W t,Gr e v->Box8 q K L M N O T W t->(m=true->∃i,∃h:i<l.length,jI P v q l[i]/\(Jm tb l[i].2).a=g)->b (.p [.j q, .h m]) v):Kh (tabT tabD) false k 120 [.g ru 0,lv, .d .i64 g, .d .i64 n] u e b:=by
 refine Je (JsW (kind:=g) (n:=n) (w.A G.1 fun r o=>G.2 r (w.f r o)) x (y.za fun r a m=>⟨a,G.2 r m⟩) (fun c h=>(z c h).a) J) ?_
 grind
theorem kidM (w:WF e)(h:R9C (fun _=>True) e n c)(i:Nat)(l:i<1000)(m:∀a g f,Gr e f->R9C (fun _=>True) f a g->b (.j a) f):Kh (tabT tabD) true k 153 [.j n, .d .i64 (i:Nat)] u e b:=by
 refine Ji (P:=fun v f=>∃a g,v= .j a/\R9C (fun _=>True) f a g) (JuM (Jq w e.t) (h.A kR) i l) ?_;rintro _ f G ⟨a,g,rfl,o⟩;exact m a g f G (o.A kR)
theorem JaV (w:WF e)(a:Str)(d:∀c,Gr e c->b (.j (JaU a)) c):Kh (tabT tabD) true k 152 [ofL a] u e b:=by
 refine Ji (P:=fun v _=>v= .j (JaU a)) (JtU a (Jq w e.t)) ?_
 grind
theorem JcZ (w:WF e)(a n:Int)(f:0<n)(g:n<4611686018427387904)(i:∀c,Gr e c->b (.d .i64 (a%n)) c):Kh (tabT tabD) true k 119 [.d .i64 a, .d .i64 n] u e b:=by
 refine Ji (P:=fun v _=>v= .d .i64 (a%n)) ((qE a n _ f g).A fun v c h=>⟨h.2▸Gr.F (Jq w e.t),h.1⟩) ?_
 grind
theorem jM (z:Jf6 S0 P ru lv t)(G:GrR S0 e)(h:R9C (fun _=>True) e n c)(K:∀i o f l m p q s w x,Gr e f->i=[l,m,p,q,s,w,x]->((l.B=true/\l.A=some [l])/\(m.B=true/\m.A=some [m])/\(p.B=true/\p.A=some [p])/\(q.B=true/\q.A=some [q])/\(s.B=true/\s.A=some [s])/\(w.B=true/\w.A=some [w])/\(x.B=true/\x.A=some [x]))->OprC (fun c=>P c\/S0.A c= .none) f (t+1) i o->YD (t+1) o->b (.j i) f):Kh (tabT tabD) true k 78 [.g ru 0,lv, .d .i64 g, .j n, .d .i64 (t:Nat)] u e b:=by
 have J:=Jq G.1 e.t;refine Ji (P:=fun v f=>∃i o,v= .j i/\OprC (fun c=>P c\/S0.A c= .none) f (t+1) i o/\YD (t+1) o) (z _ g n c (G.D _ J) (h.A kR)) ?_;rintro _ f L ⟨i,o,rfl,y,M⟩;have y:OprC (fun c=>P c\/S0.A c= .none) {f with a:=e.t} (t+1) i o:=y;have y:OprC (fun c=>P c\/S0.A c= .none) f (t+1) i o:=OprC.A (st:={f with a:=e.t}) (st':=f) kR y;obtain⟨l,m,p,q,s,w,x,N,O⟩:=Jni y
 grind
theorem ops2 (j:e.A i= .a t (JaU a++n))(g:S0.A i= .none)(h:OprC (fun i=>P i\/S0.A i= .none) e (K+1) n x)(f:YD (K+1) x):OpsR S0 P e (K+1) (.m i 0 2 7 2):=by
 obtain⟨k,l,o⟩:=JhI (P:=fun i=>P i\/S0.A i= .none) (S:=e) a K;refine⟨.mk 6 [] [] a 0 false [],[x],⟨[JaU a,n],SlAt.J (t:=t) (by grind) (.inr g) (by simp[h.F]),rfl, ?_⟩, ?_, ?_,by simp⟩
 ·grind
 ·intro b c;rcases Xq.1 c with rfl|c
  ·grind
  ·obtain rfl:=Xj.1 c;exact⟨f.1,f.2.1⟩
 ·intro b c;obtain rfl:=Xj.1 c;exact f.2.2
theorem ops3 {f:Opn}(p:e.A i= .a t (JaU a++(n++j)))(k:S0.A i= .none)(l:OprC (fun i=>P i\/S0.A i= .none) e (K+1) n x)(g:YD (K+1) x)(o:OprC (fun i=>P i\/S0.A i= .none) e (K+1) j f)(h:YD (K+1) f):OpsR S0 P e (K+1) (.m i 0 3 7 3):=by
 obtain⟨q,s,u⟩:=JhI (P:=fun i=>P i\/S0.A i= .none) (S:=e) a K;refine⟨.mk 6 [] [] a 0 false [],[x,f],⟨[JaU a,n,j],SlAt.J (t:=t) (by grind) (.inr k) (by simp[l.F,o.F]),rfl, ?_⟩, ?_, ?_,by simp⟩
 ·grind
 ·intro b c;simp at c;rcases c with rfl|rfl|rfl
  ·grind
  ·exact⟨g.1,g.2.1⟩
  ·exact⟨h.1,h.2.1⟩
 ·intro b c;simp at c;rcases c with rfl|rfl
  ·exact g.2.2
  ·exact h.2.2
theorem nmK {K:St->Prop}(d:WF e)(f:e.b=up 0 i)(h:∀c,Gr e c->e.A (up 0 i)= .none->(∃t,c.A (up 0 i)= .a t n)->K c):K (e.B fun t=> .a t n):=
 h _ (Gr.G d (Jc _)) (nx0 d f 0) ⟨_,Qi f _⟩
theorem JhJ {l n q s u:V}(k:∀v j,(∀r,e.A r≠ .none->j.A r=e.A r)->(Gr e j->OpsR S0 P j (t+1) v)->b v j)(R:GrR S0 S)(g:Gr e S)(y:S.b=up 0 i)(C:OprC (fun r=>P r\/S0.A r= .none) S (t+1) [p,L,l,n,q,s,u] x)(W:YD (t+1) x):b (.m (up 0 i) 0 2 7 2) (S.B fun c=> .a c [.d .i64 6,ofL [], .e,ofL a, .d .i64 0, .h false, .e,p,L,l,n,q,s,u]):=by
 refine nmK (K:=b _) g.D y ?_;intro N w z ⟨J,M⟩;exact k _ _ (fun r f=>(g.A w).d r f) fun _=>ops2 (t:=J) M (R.A z) (C.A w.H) W
theorem JkE {n q s u w y z J M N O Q:V}{U:Opn}(k:∀v j,(∀r,e.A r≠ .none->j.A r=e.A r)->(Gr e j->OpsR S0 P j (t+1) v)->b v j)(R:GrR S0 S)(g:Gr e S)(X:S.b=up 0 i)(Y:Gr T S)(C:OprC (fun r=>P r\/S0.A r= .none) T (t+1) [p,L,n,q,s,u,w] x)(W:YD (t+1) x)(Z:OprC (fun r=>P r\/S0.A r= .none) S (t+1) [y,z,J,M,N,O,Q] U)(W2:YD (t+1) U):b (.m (up 0 i) 0 3 7 3) (S.B fun c=> .a c [.d .i64 6,ofL [], .e,ofL a, .d .i64 0, .h false, .e,p,L,n,q,s,u,w,y,z,J,M,N,O,Q]):=by
 refine nmK (K:=b _) g.D X ?_;intro S7 l pn ⟨t7,r7⟩;exact k _ _ (fun r f=>(g.A l).d r f) fun _=>ops3 (t:=t7) r7 (R.A pn) (C.A (Y.A l).H) W (Z.A l.H) W2
end
theorem JtW (hW:Jf6 e v i p t)(hd:t<1000)(G:GrR e S)(h:R9C (fun _=>True) S j c):
  Dz 124 [.g i 0,p, .j j, .d .i64 ((t+1:Nat):Nat)] S fun b S'=>Gr S S'/\OpsR e v S' (t+1) b:=by
 have hw:=G.1;refine Jn tabM (aT Tryz.func124 rfl) rfl hw fun K N=> ?_;have h0:=h;obtain⟨k,n,kv,es,rfl,hk,hn,h2,h3,hl,h4⟩:=h.B;have c2:=h2.A;have s2:=h2.B;have w:IntKind.i64.wrap (((t+1:Nat):Int)-1)=((t:Nat):Int):=by rw[JX (by omega) (by omega)];omega
 obtain⟨n0,O⟩:=nxE S;simp only[CT,Tryz.f124,XY,simprocAttr];rw[Ja];simp only[XY,simprocAttr,O,s2];generalize aa:up 0 n0=p6;refine nm1 hw O aa ?_;intro S1 J ag ⟨t6,L⟩;have hh:∀{u:St},Gr S1 u->R9C (fun _=>True) u [.d .i64 k, .d .i64 n,kv] c:=fun g=>h0.D (J.A g);have Q:∀{u:St},Gr S1 u->GrR e u:=fun g=>G.B (J.A g);by_cases hz:n.tmod 2=0;rotate_left
 ·rw[Jd,Ja];simp only[XY,simprocAttr,L,hz];rw[Ja];simp only[XZ,simprocAttr];refine JaV J.D _ ?_;intro u q;simp only[XZ,simprocAttr,q.B L];refine kidM q.D (hh q) 0 (by decide) ?_;intro e3 q3 S3 X h3;simp only[XZ,simprocAttr,w];have Y:=q.A X;refine jM hW (Q Y) h3 ?_;intro oe o S4 z0 z1 z2 z3 z4 z5 z6 Z f x C4 W4;subst f;have s:=Y.A Z;simp only[XZ,simprocAttr,s.B L];refine kidM s.D (hh s) 1 (by decide) ?_;intro e5 q5 S5 T h5;simp only[XZ,simprocAttr,w];have y:=s.A T;refine jM hW (Q y) h5 ?_;intro ah o2 S6 y0 y1 y2 y3 y4 y5 y6 M f ab C6 W6;subst f;obtain⟨n6,l⟩:=nxE S6;simp only[XZ,simprocAttr,l,x,ab];exact JkE N (Q (y.A M)) (J.A (y.A M)) l (T.A M) C4 W4 C6 W6
 obtain⟨m,hm,ai⟩:=KU (IntKind.i64.wrap (n.tdiv 2)) (n:=2) (by decide);have hm:IntKind.i64.wrap (n.tdiv 2)%2=(m:Nat):=hm;rw[Jd,Ja];simp only[XY,simprocAttr,L,hz];rw[Ja];simp only[XZ,simprocAttr];refine JaV J.D _ ?_;intro u q;obtain⟨n2,z⟩:=nxE u;have U:=q.B L;have o6:=fun k=>nes (Jt q.D z (Jb U) k);simp only[XZ,simprocAttr,z,o6,U];generalize ad:up 0 n2=p7;refine nm1c q.D z ad ?_;intro S3 X aj ⟨t7,r7⟩;have Y:=q.A X;refine JcZ X.D _ _ (by decide) (by decide) ?_;intro S4 Z;have s:=Y.A Z;rw[hm];have hi:∃kk:Int,ld1 (.a t7 [.d .i64 2, .d .i64 1]) m=some (.d .i64 kk, .a):=by
  have:m=0\/m=1:=by omega
  rcases this with rfl|rfl
  ·exact⟨_,rfl⟩
  ·exact⟨_,rfl⟩
 obtain⟨kk,ae⟩:=hi;have af:Js 1 (.m p7 0 2 1 2) (.d .i64 (m:Nat))=some (.g p7 m, .a):=by
  have:m=0\/m=1:=by omega
  rcases this with rfl|rfl<;>rfl
 have W:=Z.B r7;simp only[XZ,simprocAttr,af,W,ae,s.B L];refine kidM s.D (hh s) 0 (by decide) ?_;intro e5 q5 S5 T h5;have y:=s.A T;have ak:=T.B W;simp only[XZ,simprocAttr,w];refine jM hW (Q y) h5 ?_;intro oe o S6 z0 z1 z2 z3 z4 z5 z6 M f x C4 W4;subst f;obtain⟨n6,l⟩:=nxE S6;simp[XZ,l,x];exact JhJ N (Q (y.A M)) (J.A (y.A M)) l C4 W4
theorem JrY {E:EnvS}(hD:DT v e z i h f)(hO:OfF h f)(hl:KF r e p d)(hg:∀q∈d,jq f E q)(hN:d.length<1000)(hW:Jf6 e r i p t)(hd:t<1000)(G:GrR e S)(u:R9C (fun _=>True) S j c):
  Dz 123 [.g i 0,p, .j j, .d .i64 ((t+1:Nat):Nat)] S fun w S'=>Gr S S'/\OpsR e r S' (t+1) w:=by
 have hw:=G.1;refine Jn tabM (aT Tryz.func123 rfl) rfl hw fun K Y=> ?_;have h0:=u;obtain⟨k,n,kv,es,rfl,hk,hn,h2,h3,a3,h4⟩:=u.B;have c2:=h2.A;have s2:=h2.B;have N:IntKind.i64.wrap (((t+1:Nat):Int)-1)=((t:Nat):Int):=by rw[JX (by omega) (by omega)];omega
 obtain⟨n0,ae⟩:=nxE S;simp only[CT,Tryz.f123,XY,simprocAttr];rw[Ja];simp only[XY,simprocAttr,ae,s2];generalize aj:up 0 n0=p6;refine nm1 hw ae aj ?_;intro S1 G1 a4 ⟨t6,r6⟩;have hh:∀{S2:St},Gr S1 S2->R9C (fun _=>True) S2 [.d .i64 k, .d .i64 n,kv] c:=fun g=>h0.D (G1.A g);have Q:∀{S2:St},Gr S1 S2->GrR e S2:=fun g=>G.B (G1.A g);rw[Ja];simp only[XY,simprocAttr,r6];refine Jqy hD hO hl hg hN (Q (Gr.F G1.D)) ?_;intro ce b S2 w0 w1 w2 w3 w4 w5 w6 wt G2 hb hc;obtain⟨rfl,hw⟩:=hb;obtain⟨n2,af⟩:=nxE S2;simp only[XY,simprocAttr,hw,af];generalize ak:up 0 n2=p9;refine nmA G2.D af ak ?_;intro S3 G3 a5 ⟨t9,r9⟩;have T:=G2.A G3;rw[Jd,Ja];simp only[XY,simprocAttr,T.B r6];refine Je (qE n 5 S3 (by decide) (by decide)) ?_;rintro _ _ ⟨rfl,rfl⟩;have hc:n%5=0\/n%5=1\/n%5=2\/n%5=3\/n%5=4:=by omega
 have al:¬(1:Int)=0:=by decide
 have am:¬(2:Int)=0:=by decide
 have ao:¬(2:Int)=1:=by decide
 have ap:¬(3:Int)=0:=by decide
 have aq:¬(3:Int)=1:=by decide
 have ar:¬(3:Int)=2:=by decide
 have au:¬(4:Int)=0:=by decide
 have av:¬(4:Int)=1:=by decide
 have aw:¬(4:Int)=2:=by decide
 have ax:¬(4:Int)=3:=by decide
 rcases hc with u|u|u|u|u
 all_goals
  rw[u];simp only[XY,simprocAttr];rw[Ja];simp only[XY,simprocAttr,al,am,ap,au]
 ·rw[Ja];simp only[XY,simprocAttr]
  cases b with
  | false=>
    simp only[XY,simprocAttr];rw[Ja];simp only[XZ,simprocAttr];refine JaV T.D _ ?_;intro S4 W;have L:=T.A W;simp only[XZ,simprocAttr,L.B r6];refine kidM L.D (hh L) 0 (by decide) ?_;intro e5 q5 S5 G5 h5;simp only[XZ,simprocAttr,N];have O:=L.A G5;refine jM hW (Q O) h5 ?_;intro oe o S6 z0 z1 z2 z3 z4 z5 z6 G6 J M C4 W4;subst J;obtain⟨n6,y⟩:=nxE S6;simp only[XZ,simprocAttr,y,M];exact JhJ Y (Q (O.A G6)) (G1.A (O.A G6)) y C4 W4
  | true=>
    obtain⟨x,hj,C,_⟩:=hc rfl;have ag:=QC C (hg _ (Xh hj)) t;simp only[XY,simprocAttr];rw[Ja];simp only[XZ,simprocAttr];refine JaV G3.D _ ?_;intro S4 W;obtain⟨n6,y⟩:=nxE S4;simp only[XZ,simprocAttr,W.B r9,y,hw];have L:=T.A W;exact JhJ Y (Q L) (G1.A L) y (ag.1.A fun c a b=>⟨.inl a,(G3.A W).d c b⟩) ag.2
 ·rw[Ja];simp only[XY,simprocAttr];rw[Ja];simp only[XZ,simprocAttr];refine JaV T.D _ ?_;intro S4 W;have L:=T.A W;simp only[XZ,simprocAttr,L.B r6];refine kidM L.D (hh L) 0 (by decide) ?_;intro e5 q5 S5 G5 h5;simp only[XZ,simprocAttr,N];have O:=L.A G5;refine jM hW (Q O) h5 ?_;intro oe o S6 z0 z1 z2 z3 z4 z5 z6 G6 J M C4 W4;subst J;have X:=O.A G6;simp only[XZ,simprocAttr,X.B r6];refine kidM X.D (hh X) 1 (by decide) ?_;intro e7 q7 S7 G7 h7;simp only[XZ,simprocAttr,N];have g7:=X.A G7;refine jM hW (Q g7) h7 ?_;intro ah o2 S8 y0 y1 y2 y3 y4 y5 y6 G8 J aa C6 W6;subst J;obtain⟨n6,y⟩:=nxE S8;simp only[XZ,simprocAttr,y,M,aa];exact JkE Y (Q (g7.A G8)) (G1.A (g7.A G8)) y (G7.A G8) C4 W4 C6 W6
 ·rw[Ja];simp only[XY,simprocAttr,ao];rw[Ja];simp only[XY,simprocAttr];rw[Ja];simp only[XY,simprocAttr,T.B r6];refine Je (qE _ 3 _ (by decide) (by decide)) ?_;rintro _ _ ⟨rfl,rfl⟩;simp only[XY,simprocAttr];rw[Ja];simp only[XZ,simprocAttr];refine JaV T.D _ ?_;intro S4 W;have L:=T.A W;simp only[XZ,simprocAttr,L.B r6];refine kidM L.D (hh L) 0 (by decide) ?_;intro e5 q5 S5 G5 h5;simp only[XZ,simprocAttr,N];have O:=L.A G5;refine jM hW (Q O) h5 ?_;intro oe o S6 z0 z1 z2 z3 z4 z5 z6 G6 J M C4 W4;subst J;have X:=O.A G6;simp only[XZ,simprocAttr,X.B r6];refine kidM X.D (hh X) 1 (by decide) ?_;intro e7 q7 S7 G7 h7;simp only[XZ,simprocAttr,N];have g7:=X.A G7;refine jM hW (Q g7) h7 ?_;intro ah o2 S8 y0 y1 y2 y3 y4 y5 y6 G8 J aa C6 W6;subst J;obtain⟨n6,y⟩:=nxE S8;simp only[XZ,simprocAttr,y,M,aa];exact JkE Y (Q (g7.A G8)) (G1.A (g7.A G8)) y (G7.A G8) C4 W4 C6 W6
 ·rw[Ja];simp only[XY,simprocAttr,aq];rw[Ja];simp only[XY,simprocAttr,ar];rw[Ja];simp only[XY,simprocAttr];obtain⟨n3,ab⟩:=nxE S3;have ai:=T.B r6;have o6:=fun k=>nes (Jt T.D ab (Jb ai) k);rw[Ja];simp only[XZ,simprocAttr,ab,o6,ai];generalize ay:up 0 n3=p7;refine nm1c T.D ab ay ?_;intro S4 W a6 ⟨t7,r7⟩;have L:=T.A W;refine JcZ W.D _ _ (by decide) (by decide) ?_;intro S5 G5;have O:=L.A G5;obtain⟨m,hm,a7⟩:=KU (IntKind.i64.wrap (n.tdiv 5)) (n:=2) (by decide);have hm:IntKind.i64.wrap (n.tdiv 5)%2=(m:Nat):=hm;rw[hm];have hi:∃ss:Str,ld1 (.a t7 [ofL [97,110,100],ofL [111,114]]) m=some (ofL ss, .a):=by
   have:m=0\/m=1:=by omega
   rcases this with rfl|rfl
   all_goals exact⟨_,rfl⟩
  obtain⟨ss,az⟩:=hi;have a0:Js 1 (.m p7 0 2 1 2) (.d .i64 (m:Nat))=some (.g p7 m, .a):=by
   have:m=0\/m=1:=by omega
   rcases this with rfl|rfl<;>rfl
  have a1:=G5.B r7;simp only[XZ,simprocAttr,a0,a1,az];refine JaV O.D _ ?_;intro S6 G6;have X:=O.A G6;simp only[XZ,simprocAttr,X.B r6];refine kidM X.D (hh X) 0 (by decide) ?_;intro e7 q7 S7 G7 h7;simp only[XZ,simprocAttr,N];have g7:=X.A G7;refine jM hW (Q g7) h7 ?_;intro oe o S8 z0 z1 z2 z3 z4 z5 z6 G8 J M C4 W4;subst J;have g8:=g7.A G8;simp only[XZ,simprocAttr,g8.B r6];refine kidM g8.D (hh g8) 1 (by decide) ?_;intro e9 q9 S9 G9 h9;simp only[XZ,simprocAttr,N];have g9:=g8.A G9;refine jM hW (Q g9) h9 ?_;intro ah o2 a2 y0 y1 y2 y3 y4 y5 y6 ad J aa C6 W6;subst J;obtain⟨n6,y⟩:=nxE a2;simp only[XZ,simprocAttr,y,M,aa];exact JkE Y (Q (g9.A ad)) (G1.A (g9.A ad)) y (G9.A ad) C4 W4 C6 W6
 ·rw[Ja];simp only[XY,simprocAttr,av];rw[Ja];simp only[XY,simprocAttr,aw];rw[Ja];simp only[XY,simprocAttr,ax];rw[Ja];simp only[XZ,simprocAttr];refine JaV T.D _ ?_;intro S4 W;have L:=T.A W;simp only[XZ,simprocAttr,L.B r6];refine kidM L.D (hh L) 0 (by decide) ?_;intro e5 q5 S5 G5 h5;simp only[XZ,simprocAttr,N];have O:=L.A G5;refine jM hW (Q O) h5 ?_;intro oe o S6 z0 z1 z2 z3 z4 z5 z6 G6 J M C4 W4;subst J;obtain⟨n6,y⟩:=nxE S6;simp[XZ,y,M];exact JhJ Y (Q (O.A G6)) (G1.A (O.A G6)) y C4 W4
theorem JuP {E:EnvS}(hD:DT v e z i h f)(hO:OfF h f)(hl:KF r e p d)(hg:∀u∈d,jq f E u)(hN:d.length<1000)(hW:Jf6 e r i p t)(hd:t<1000)(G:GrR e S)(w:R9C (fun _=>True) S j c):
  Dz 122 [.g i 0,p, .j j, .d .i64 ((t+1:Nat):Nat)] S fun x S'=>Gr S S'/\OpsR e r S' (t+1) x:=by
 have hw:=G.1;refine Jn tabM (aT Tryz.func122 rfl) rfl hw fun K ag=> ?_;have h0:=w;obtain⟨k,n,kv,es,rfl,hk,hn,h2,h3,az,h4⟩:=w.B;have c2:=h2.A;have s2:=h2.B;have ah:IntKind.i64.wrap (((t+1:Nat):Int)-1)=((t:Nat):Int):=by rw[JX (by omega) (by omega)];omega
 obtain⟨n0,am⟩:=nxE S;simp only[CT,Tryz.f122,XY,simprocAttr];rw[Ja];simp[XY,am,s2];generalize av:up 0 n0=p6;refine nm1 hw am av ?_;intro S1 G1 a2 ⟨t6,Q⟩;have hh:∀{S2:St},Gr S1 S2->R9C (fun _=>True) S2 [.d .i64 k, .d .i64 n,kv] c:=fun g=>h0.D (G1.A g);have GG:∀{S2:St},Gr S1 S2->GrR e S2:=fun g=>G.B (G1.A g);rw[Jd,Ja];simp[XY];refine Jo (fun y fr S'=>∃J:Nat,y+J=3/\fr 0= .g i 0/\fr 1=p/\fr 3= .d .i64 ((t+1:Nat):Nat)/\fr 6= .g p6 0/\fr 9= .d .i64 (J:Nat)/\Gr S1 S') 3 (by omega) ⟨0,by omega,rfl,rfl,rfl,rfl,by rfl,Gr.F G1.D⟩ ?_;rintro L hL y fr S2 ⟨J,hj,f0,f1,f3,T,f9,N⟩;by_cases hi:J<3;rotate_left
 ·have ai:¬(J:Int)<3:=by omega
  rw[Jd,Ja];simp[XY,f9,ai];by_cases hz:n.tmod 3=1
  ·rw[Jd,Ja];simp[XY,T,N.B Q,hz];obtain⟨n3,O⟩:=nxE S2;have o6:=fun k=>nes (Jt N.D O (Jb (N.B Q)) k);rw[Ja];simp[XZ,T,O,o6,N.B Q];generalize X:up 0 n3=p7;refine nm1c N.D O X ?_;intro S3 G3 ao ⟨t7,r7⟩;have g3:=N.A G3;refine JcZ G3.D _ _ (by decide) (by decide) ?_;intro S4 G4;have g4:=g3.A G4;obtain⟨m,Y,ap⟩:=KU (IntKind.i64.wrap (n.tdiv 3)) (n:=6) (by decide);have Y:IntKind.i64.wrap (n.tdiv 3)%6=(m:Nat):=Y;rw[Y];have hi:∃ss:Str,ld1 (.a t7 [ofL [105,56],ofL [105,49,54],ofL [105,51,50],ofL [117,56],ofL [117,49,54],ofL [117,51,50]]) m=some (ofL ss, .a):=by
    have:m=0\/m=1\/m=2\/m=3\/m=4\/m=5:=by omega
    rcases this with rfl|rfl|rfl|rfl|rfl|rfl
    all_goals exact⟨_,rfl⟩
   obtain⟨ss,aj⟩:=hi;have aa:Js 1 (.m p7 0 6 1 6) (.d .i64 (m:Nat))=some (.g p7 m, .a):=by
    have:m=0\/m=1\/m=2\/m=3\/m=4\/m=5:=by omega
    rcases this with rfl|rfl|rfl|rfl|rfl|rfl<;>rfl
   have ab:=G4.B r7;simp[XZ,aa,ab,aj];refine JaV g4.D _ ?_;intro S5 G5;have g5:=g4.A G5;simp[XZ,f0,f1,T,g5.B Q];refine kidM g5.D (hh g5) 0 (by decide) ?_;intro e6 q6 S6 G6 h6;simp only[XZ,simprocAttr,ah,f3];have g6:=g5.A G6;refine jM hW (GG g6) h6 ?_;intro oe o S7 z0 z1 z2 z3 z4 z5 z6 G7 ad ak C4 W4;subst ad;obtain⟨n6,M⟩:=nxE S7;simp[XZ,M,ak];exact JhJ ag (GG (g6.A G7)) (G1.A (g6.A G7)) M C4 W4
  ·rw[Jd,Ja];simp[XY,T,N.B Q,hz];obtain⟨n3,O⟩:=nxE S2;have o6:=fun k=>nes (Jt N.D O (Jb (N.B Q)) k);rw[Ja];simp[XZ,T,O,o6,N.B Q];generalize X:up 0 n3=p7;refine nm1c N.D O X ?_;intro S3 G3 ao ⟨t7,r7⟩;have g3:=N.A G3;refine JcZ G3.D _ _ (by decide) (by decide) ?_;intro S4 G4;have g4:=g3.A G4;obtain⟨m,Y,ap⟩:=KU (IntKind.i64.wrap (n.tdiv 3)) (n:=5) (by decide);have Y:IntKind.i64.wrap (n.tdiv 3)%5=(m:Nat):=Y;rw[Y];have hi:∃ss:Str,ld1 (.a t7 [ofL [97,100,100],ofL [115,117,98],ofL [109,117,108],ofL [115,104,108],ofL [115,104,114]]) m=some (ofL ss, .a):=by
    have:m=0\/m=1\/m=2\/m=3\/m=4:=by omega
    rcases this with rfl|rfl|rfl|rfl|rfl
    all_goals exact⟨_,rfl⟩
   obtain⟨ss,aj⟩:=hi;have aa:Js 1 (.m p7 0 5 1 5) (.d .i64 (m:Nat))=some (.g p7 m, .a):=by
    have:m=0\/m=1\/m=2\/m=3\/m=4:=by omega
    rcases this with rfl|rfl|rfl|rfl|rfl<;>rfl
   have ab:=G4.B r7;simp[XZ,aa,ab,aj];refine JaV g4.D _ ?_;intro S5 G5;have g5:=g4.A G5;simp[XZ,f0,f1,T,g5.B Q];refine kidM g5.D (hh g5) 0 (by decide) ?_;intro e6 q6 S6 G6 h6;simp only[XZ,simprocAttr,ah,f3];have g6:=g5.A G6;refine jM hW (GG g6) h6 ?_;intro oe o S7 z0 z1 z2 z3 z4 z5 z6 G7 ad ak C4 W4;subst ad;have g7:=g6.A G7;simp[XZ,f0,f1,T,g7.B Q];refine kidM g7.D (hh g7) 1 (by decide) ?_;intro e8 q8 S8 G8 h8;simp only[XZ,simprocAttr,ah,f3];have g8:=g7.A G8;refine jM hW (GG g8) h8 ?_;intro a4 o2 S9 y0 y1 y2 y3 y4 y5 y6 G9 ad aw C6 W6;subst ad;obtain⟨n6,M⟩:=nxE S9;simp[XZ,M,ak,aw];exact JkE ag (GG (g8.A G9)) (G1.A (g8.A G9)) M (G8.A G9) C4 W4 C6 W6
 have ai:(J:Int)<3:=by omega
 have ae:IntKind.i64.wrap ((J:Int)+1)=((J+1:Nat):Int):=by rw[JX (by omega) (by omega)];omega
 rw[Jd,Ja];simp[XY,f9,ai];rw[Jd];simp[XY];obtain⟨n2,al⟩:=nxE S2;have aq:=N.B Q;have o6:=fun k=>nes (Jt N.D al (Jb aq) k);rw[Ja];simp[XZ,al,o6,aq,f0,f1,T,f9];generalize X:up 0 n2=p7;refine nm1c N.D al X ?_;intro S3 G3 ao ⟨t7,r7⟩;have g3:=N.A G3;refine JcZ G3.D _ _ (by decide) (by decide) ?_;intro S4 G4;have g4:=g3.A G4;obtain⟨m,Y,ap⟩:=KU (IntKind.i64.wrap (n+J)) (n:=3) (by decide);have Y:IntKind.i64.wrap (n+J)%3=(m:Nat):=Y;rw[Y];have hk:∃kk:Int,ld1 (.a t7 [.d .i64 4, .d .i64 5, .d .i64 3]) m=some (.d .i64 kk, .a):=by
  have:m=0\/m=1\/m=2:=by omega
  rcases this with rfl|rfl|rfl
  all_goals exact⟨_,rfl⟩
 obtain⟨kk,ax⟩:=hk;have aa:Js 1 (.m p7 0 3 1 3) (.d .i64 (m:Nat))=some (.g p7 m, .a):=by
  have:m=0\/m=1\/m=2:=by omega
  rcases this with rfl|rfl|rfl<;>rfl
 have ab:=G4.B r7;simp[XZ,aa,ab,ax,T,g4.B Q];refine JsX hD hO hl hg hN (GG g4) ?_;intro ce b S5 w0 w1 w2 w3 w4 w5 w6 wt G5 hb hc;obtain⟨rfl,hw⟩:=hb;have g5:=g4.A G5;obtain⟨n5,ar⟩:=nxE S5;simp[XY,hw,ar];generalize ay:up 0 n5=p9;refine nmA G5.D ar ay ?_;intro S6 G6 a5 ⟨t9,r9⟩;have g6:=g5.A G6;have af:∀{W:Fr},W 0= .g i 0->W 1=p->W 3= .d .i64 ((t+1:Nat):Nat)->W 6= .g p6 0->W 9= .d .i64 ((J+1:Nat):Nat)->∃j',j'<y/\L j' W S6:=fun a0 a1 a3 a6 a9=>⟨3-(J+1),by omega,hL _ _ _ ⟨J+1,by omega,a0,a1,a3,a6,a9,g6⟩⟩
 cases b with
 | false=>
   rw[Ja];simp[XZ,f9,ae];exact af f0 f1 f3 T rfl
 | true=>
   by_cases hz:n.tmod 3=0;rotate_left
   ·rw[Ja];simp[XZ,T,f9,ae,g6.B Q,hz];exact af f0 f1 f3 T rfl
   obtain⟨q,hq,C,_⟩:=hc rfl;have au:=QC C (hg _ (Xh hq)) t;rw[Ja];simp[XY,T,g6.B Q,hz];rw[Ja];simp[XZ];refine JaV G6.D _ ?_;intro S7 G7;have g7:=g6.A G7;obtain⟨n6,M⟩:=nxE S7;simp[XZ,G7.B r9,M,hw];exact JhJ ag (GG g7) (G1.A g7) M (au.1.A fun c a b=>⟨.inl a,(G6.A G7).d c b⟩) au.2
theorem Jqz {t1:Nat}{p:Pt}(h:OpsR e v S t L)(k:∀r,v r\/e.A r= .none->Q r)(g:S.A p= .a t1 [L])(j:Q p):∃o,OprC Q S (t+1) [.d .i64 5,ofL [], .e,ofL [], .d .i64 0, .h false, .m p 0 1 1 1] o/\YD (t+1) o:=by
 obtain⟨o,r,l,q,s,u⟩:=h;refine⟨.mk 5 [] [] [] 0 false [o::r],⟨.e,_,rfl,SlAt.K _ _ _,⟨[[L]],SlAt.J (es:=[[L]]) g j (by simp),rfl, ?_⟩⟩, ?_⟩
 ·intro i a b
  match i,a with
  |0,_=>exact⟨L,rfl,l.G (fun f x h=>h.A fun r a _=>⟨k r a,rfl⟩) fun r a _=>⟨k r a,rfl⟩⟩
 ·refine⟨⟨by simp,by simp,fun c n=> ?_⟩,fun _=>⟨by simp,fun c n=> ?_⟩,by show(5:Int)≠6;decide⟩
  ·grind
  grind
theorem OpsR.A {c S S':St}{P:Pt->Prop}{d:Nat}{v:V}(h:OpsR c P S d v)(k:∀r,P r\/c.A r= .none->S.A r≠ .none->S'.A r=S.A r):OpsR c P S' d v:=by
 obtain⟨o,r,f,g⟩:=h;exact⟨o,r,f.G (fun e x h=>h.A fun r a b=>⟨a,k r a b⟩) fun r a b=>⟨a,k r a b⟩,g⟩
theorem JsY {E:EnvS}(hO:OfF h f)(hg:∀c∈d,jq f E c)(hN:d.length<1000)(q:Nat)(hd:q<1000)(bb:∀d',q=d'+1->∀(S0:St) (P:Pt->Prop),DT v S0 z i h f->KF P S0 p d->Jf6 S0 P i p d')(S0:St)(P:Pt->Prop)(hD:DT v S0 z i h f)(bc:KF P S0 p d):Jf6 S0 P i p q:=by
 intro S X re r G y;have hl:KF (fun r=>P r/\S0.A r≠ .none) S0 p d:=bc.za fun r a b=>⟨⟨a,b⟩,rfl⟩
 have hw:=G.1;refine Jn tabM (aT Tryz.func78 rfl) rfl hw fun K ar=> ?_;have h0:=y;obtain⟨k,n,kv,es,rfl,hk,hn,h2,h3,bm,h4⟩:=y.B;have c2:=h2.A;have s2:=h2.B;obtain⟨n0,a0⟩:=nxE S;simp only[CT,Tryz.f78,XY,simprocAttr];rw[Ja];simp[XY,a0,s2];generalize bd:up 0 n0=p8;generalize a1:up 1 n0=Y;refine nm2 hw a0 bd a1 ?_;intro S1 G1 bn a2 _ ⟨t8,r8⟩ ⟨ak,ae⟩;have GG:∀{S2:St},Gr S1 S2->GrR S0 S2:=fun g=>G.B (G1.A g);rw[Ja];simp[XY,r8];refine Je (qE k 9 S1 (by decide) (by decide)) ?_;rintro _ _ ⟨rfl,rfl⟩;simp[XY];have kf:∀{S2:St} {t:Nat} {d:List V},Gr S1 S2->∀r,S.A r≠ .none->(S2.D Y t fun u=> .a u d).A r=S.A r:=fun{S2 t d} g r e=>by rw[Jj _ _ _ fun x=>e (by grind),(G1.A g).d r e]
 obtain⟨w,au,bo⟩:=KU k (n:=9) (by decide);have au:k%9=(w:Nat):=au;rw[au];have bp:=G.A a2;refine Ju (fun fr S'=>Gr S1 S'/\fr 0= .g i 0/\fr 1=p/\fr 2= .d .i64 X/\fr 4= .d .i64 (q:Nat)/\fr 8= .g p8 0/\fr 10= .g Y 0/\fr 11= .d .i64 (w:Nat)) (fun J hJ=> ?_) ?_
 ·rw[Ja];simp[XY,r8];refine Jqy hD hO hl hg hN (GG (Gr.F G1.D)) ?_;intro ce b S2 w0 w1 w2 w3 w4 w5 w6 wt G2 hb hc;obtain⟨rfl,hw⟩:=hb;obtain⟨n2,a3⟩:=nxE S2;simp[XY,hw,a3];generalize be:up 0 n2=p9;refine nmA G2.D a3 be ?_;intro S3 G3 bq ⟨t9,r9⟩;have g3:=G2.A G3;have am:=g3.B ae;have af:∀{fr:Fr},fr 0= .g i 0->fr 1=p->fr 2= .d .i64 X->fr 4= .d .i64 (q:Nat)->fr 8= .g p8 0->fr 10= .g Y 0->fr 11= .d .i64 (w:Nat)->J fr S3:=fun a b c q e L g=>hJ _ _ ⟨g3,a,b,c,q,e,L,g⟩
  cases b with
  | false=>
    rw[Ja];simp[XZ];exact af rfl rfl rfl rfl rfl rfl rfl
  | true=>
    obtain⟨j,hj,C,_⟩:=hc rfl;have a4:=QC C (hg _ (Xh hj)) q;have bl:K (.j [w0,w1,w2,w3,w4,w5,w6]) (S3.D Y ak fun u=> .a u [w0,w1,w2,w3,w4,w5,w6]):=ar _ _ (kf g3) fun g=>⟨_,_,rfl,a4.1.A fun r a b=>⟨.inl a.1,by rw[Jj _ _ _ fun e=>a.2 (by grind),G3.d r b]⟩,a4.2⟩
    by_cases br:w<4
    ·have ag:(w:Int)<4:=by omega
     rw[Ja];simp[XZ,ag,r9,am,hw];omega
    have ag:¬(w:Int)<4:=by omega
    by_cases d0:q=0;rotate_left
    ·have aa:¬(q:Int)<=0:=by omega
     rw[Ja];simp only[XZ,simprocAttr,ag,aa];exact af rfl rfl rfl rfl rfl rfl rfl
    have aa:(q:Int)<=0:=by omega
    by_cases bt:w<7
    ·have av:(w:Int)<7:=by omega
     rw[Ja];simp only[XZ,simprocAttr,ag,aa,av,r9,am,hw];omega
    ·have av:¬(w:Int)<7:=by omega
     rw[Ja];simp only[XZ,simprocAttr,ag,aa,av];exact af rfl rfl rfl rfl rfl rfl rfl
 ·rintro fr S' ⟨g2,f0,f1,f2,f4,f8,ab,a5⟩;have a6:=g2.B r8;have a7:=g2.B ae;have ao:∀{ah:Fr} {Q:V->St->Prop},(∀z0 z1 z2 z3 z4 z5 z6 N,Gr S1 N->((z0.B=true/\z0.A=some [z0])/\(z1.B=true/\z1.A=some [z1])/\(z2.B=true/\z2.A=some [z2])/\(z3.B=true/\z3.A=some [z3])/\(z4.B=true/\z4.A=some [z4])/\(z5.B=true/\z5.A=some [z5])/\(z6.B=true/\z6.A=some [z6]))->K (.j [z0,z1,z2,z3,z4,z5,z6]) (N.D Y ak fun u=> .a u [z0,z1,z2,z3,z4,z5,z6])->Q (.j [z0,z1,z2,z3,z4,z5,z6]) N)->Kh (tabT tabD) false none 121 [.d .i64 X, .d .i64 n] ah S' Q:=by
   intro ah Q hQ;refine Je (JnU (P:=fun _=>False) (d:=q) X n g2.D) ?_;rintro _ N ⟨G5,oe,o,rfl,C,W⟩;obtain⟨z0,z1,z2,z3,z4,z5,z6,rfl,hz⟩:=Jni C;have C':=fun(bf:St)=>C.A (Q:=fun r=>P r\/S0.A r= .none) (st':=bf) fun r a b=>a.elim;exact hQ z0 z1 z2 z3 z4 z5 z6 N (g2.A G5) hz (ar _ _ (kf (g2.A G5)) fun g=>⟨_,_,rfl,C' _,W⟩)
  by_cases d0:q=0
  ·rw[Jd,Ja];simp only[XY,simprocAttr,f4,d0];rw[Ja];simp only[XZ,simprocAttr,f2,f8,a6];refine ao ?_;intro z0 z1 z2 z3 z4 z5 z6 N g5 hz hK;simp[XZ,ab,g5.B ae,hz];exact hK
  have aa:¬(q:Int)<=0:=by omega
  by_cases w8:w=8
  ·have aw:(w:Int)=8:=by omega
   rw[Jd,Ja];simp only[XY,simprocAttr,f4,a5,aa,aw];rw[Ja];simp only[XZ,simprocAttr,f2,f8,a6];refine ao ?_;intro z0 z1 z2 z3 z4 z5 z6 N g5 hz hK;simp[XZ,ab,g5.B ae,hz];exact hK
  have aw:¬(w:Int)=8:=by omega
  obtain⟨q,rfl⟩:∃d',q=d'+1:=⟨q-1,by omega⟩
  rw[Jd,Ja];simp only[XY,simprocAttr,f4,a5,aa,aw];obtain⟨n4,a8⟩:=nxE S';rw[Ja];simp only[XY,simprocAttr,a8];generalize a9:up 0 n4=ad;refine nmA g2.D a8 a9 ?_;intro S4 G4 ap ⟨ai,aj⟩;have g4:=g2.A G4;have R4:=GG g4;have D4:DT v S4 z i h f:=hD.A R4.1 fun r u=>R4.2 r (hD.f r u);have l4:KF (fun r=>P r/\S0.A r≠ .none) S4 p d:=hl.za fun r a b=>⟨a,R4.2 r b⟩
  have W4:=bb q rfl S4 _ D4 l4;have ax:GrR S4 S4:=⟨g4.D,fun _ _=>rfl⟩
  have h4:R9C (fun _=>True) S4 [.d .i64 k, .d .i64 n,kv] r:=h0.D (G1.A g4);have ay:=g4.B r8;have hd:q<1000:=by omega
  obtain⟨J2,al⟩:=opE fun fr S'=>fr 10= .g Y 0/\fr 14= .g ad 0/\∃(N:St) (M:V),Gr S4 N/\OpsR S4 (fun r=>P r/\S0.A r≠ .none) N (q+1) M/\M.B=true/\M.A=some [M]/\S'=N.D ad ai fun u=> .a u [M];have cl:∀{L:Nat} {args:List V} {ah:Fr} {Q:V->St->Prop},Dz L args S4 (fun M S'=>Gr S4 S'/\OpsR S4 (fun r=>P r/\S0.A r≠ .none) S' (q+1) M)->(∀M N,Gr S4 N->OpsR S4 (fun r=>P r/\S0.A r≠ .none) N (q+1) M->M.B=true->M.A=some [M]->Q M N)->Kh (tabT tabD) false none L args ah S4 Q:=by
   intro L args ah Q h1 hQ;refine Je h1 ?_;rintro M N ⟨G5,O⟩;have bu:M.B=true/\M.A=some [M]:=by
    obtain⟨o,r,h1,_⟩:=O;exact h1.B
   grind
  refine Yf J2 ?_ ?_
  ·rw[Ja];simp[XY,f2];by_cases k2:X=2
   ·rw[Ja];simp[XZ,f0,f1,f4,f8,ay,k2];refine cl (JuP D4 hO l4 hg hN W4 hd ax h4) ?_;intro M N G5 O v1 v2;simp[XZ,G5.B aj,v1,v2];exact(al _ _).2 ⟨ab,rfl,N,M,G5,O,v1,v2,rfl⟩
   ·rw[Ja];simp[XY,k2];by_cases k1:X=1
    ·rw[Ja];simp[XZ,f0,f1,f4,f8,ay,k1];refine cl (JrY D4 hO l4 hg hN W4 hd ax h4) ?_;intro M N G5 O v1 v2;simp[XZ,G5.B aj,v1,v2];exact(al _ _).2 ⟨ab,rfl,N,M,G5,O,v1,v2,rfl⟩
    ·rw[Ja];simp[XZ,f0,f1,f4,f8,ay,k1];refine cl (JtW W4 hd ax h4) ?_;intro M N G5 O v1 v2;simp[XZ,G5.B aj,v1,v2];exact(al _ _).2 ⟨ab,rfl,N,M,G5,O,v1,v2,rfl⟩
  ·intro fr S6 bg;obtain⟨ab,bh,N,M,G5,O,v1,v2,rfl⟩:=(al _ _).1 bg;have bv:=(GG g2).A ap;have O:=O.A (S':=N.D ad ai fun u=> .a u [M]) fun r a b=>by
    refine Jj _ _ _ fun e=> ?_
    grind
   have g6:Gr S1 (N.D ad ai fun u=> .a u [M]):=by
    exact(g2.A ((G4.A G5).J ap (Jb (G5.B aj)) (by rw[G5.B aj];rfl) (Jc _)))
   obtain⟨t5,ba⟩:∃t,(N.D ad ai fun u=> .a u [M]).A ad= .a t [M]:=⟨_,Jh _ _ _ _⟩
   have R6:=GG g6;generalize (N.D ad ai fun u=> .a u [M])=S6 at*;obtain⟨n6,az⟩:=nxE S6;have aq:=g6.B ae;have bi:=fun k=>nes (Jt g6.D az (Jb aq) k);rw[Ja];simp[XZ,ab,bh,ba,aq,az,bi,v1];refine nmK (K:=fun T=>K _ (T.D Y ak fun u=> .a u _)) g6.D az ?_;intro S7 G7 bj ⟨t7,r7⟩;refine ar _ _ (kf (g6.A G7)) fun g=> ?_;have bk:up 0 n6≠Y:=fun e=>by grind
   have O8:=O.A (S':=S7.D Y ak fun u=> .a u [.d .i64 5,ofL [], .e,ofL [], .d .i64 0, .h false, .m (up 0 n6) 0 1 1 1]) fun r a b=>by
    rw[Jj _ _ _ fun e=> ?_,G7.d r b];rcases a with a|a
    ·grind
    ·rw[e,G4.B a7]at a;cases a
   obtain⟨o,q1,q2⟩:=Jqz (Q:=fun r=>P r\/S0.A r= .none) (p:=up 0 n6) (t1:=t7) O8 (fun r a=>a.elim (fun a=> .inl a.1) fun a=> .inr (R4.A a)) (by rw[Jj _ _ _ bk];exact r7) (.inr (R6.A bj))
   grind
theorem JuQ {E:EnvS}(j:OfF h f)(k:∀c∈d,jq f E c)(m:d.length<1000):∀a,a<1000->∀(e:St) (P:Pt->Prop),DT v e z i h f->KF P e p d->Jf6 e P i p a:=by
 intro a
 induction a with
 |zero=>exact fun g=>JsY j k m 0 g fun n b=>by omega
 | succ a o=>
   intro g;refine JsY j k m (a+1) g fun n b=> ?_
   grind
end Go.Proofs.YtdajkeoobbonjaaGreat
