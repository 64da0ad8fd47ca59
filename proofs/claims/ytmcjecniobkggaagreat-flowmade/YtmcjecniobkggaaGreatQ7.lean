/- The document's type of a path. The document's type of a pipeline, by its operands'. The -/
import Derived.Test.YtmcjecniobkggaaGreatQ6
set_option linter.constructorNameAsVariable false
set_option maxHeartbeats 16000000
set_option linter.unusedVariables false
set_option linter.unusedSimpArgs false
set_option linter.unusedSectionVars false
set_option maxRecDepth 100000
namespace Go.Proofs.YtmcjecniobkggaaGreat
open Eva Go.RowKit
variable {v e h:Pt->Prop}{n g:List V}{t j O:Nat}{k X:St}{z:List (Int×List Str×Nat)}{b:List Str}{d:Tb->List Nat->List Nat->Nat×Int}{i:Tb->Cls->EnvS->List Nod->AnsR}{r:Sch}{q u:Pt}{p:EnvS}{f:V}{l:Tb}{m N:Int}{c:EnvS->Tb->Opn->Ans3}{x:Cls}{y:Pipe}{T:Int×List Str×Nat}{Q:Nod}{W:List (List V)}{L:V->St->Prop}{Y:Prop}
theorem JpR (h:LstAt (NarC v k) v k f 3 z)(c:t<z.length):∃r q b,Jo 3 f (.d .i64 (t:Nat))=some (.e r q, .a)/\ld1 (k.A r) q=some (.d .i64 z[t].1, .a)/\ld1 (k.A r) (q+1)=some (b, .a)/\ld1 (k.A r) (q+2)=some (.d .i64 (z[t].2.2:Nat), .a)/\SlAt v k b 1 (strs z[t].2.1):=by
 obtain⟨r,q,e,j,_,_,m,⟨b,rfl,n⟩,_,g⟩:=h.A c;have o:=g 0 (by simp)
 grind
theorem Jsd {P':Pt->Prop}{E:EnvS}{ag sx:Str}{f:Bool}(hD:DT v k e q r l)(hO:OfF r l)(hE:EnvC h k n E)(hK:EnvK l E)(ho:OprC P' k t g (.mk m ag b sx N f y))(hl:b.length<100000):
  Dz 172 [.e q 0, .j n, .j g] k fun o S'=>Gr k S'/\o= .p [.d .i64 ((Qq l E ag b).1:Nat), .d .i64 (Qq l E ag b).2]:=by
 obtain⟨t,rfl⟩:∃d',t=d'+1:=by
  cases t with
  |zero=>exact ho.elim
  |succ t=>simp
 have hw:=hD.wf;refine Jn tabM (aT Tryz.func172 rfl) rfl hw fun K ab=> ?_;obtain⟨vv,nv,rfl,h1,h2,c1,c2⟩:=Ki hE;obtain⟨pv,qv,rfl,hp,hq⟩:=ho;have d1:=hp.A;have d2:=hp.B;have d3:=hq.G.2;have d4:=hq.G.1;have lp:=hp.G;rw[Jw]at lp;have ln:=h2.H;obtain⟨n0,az⟩:=nxE k;simp only[CT,Tryz.f172,XY,simprocAttr];rw[Ja];simp[XY,az,c1.1,c2.1,d2,d4];generalize bd:up 0 n0=p4;generalize be:up 1 n0=p5;refine nm2 hw az bd be ?_;intro S1 G1 bt bu _ ⟨t4,r4⟩ ⟨t5,r5⟩;have bf:EnvC h S1 [.d .i64 (E.c:Nat),vv,nv] E:=hE.A G1.H;rw[Ja];simp[XY,r4,r5];refine Jc (findD G1.D bf hK.e ag) ?_;rintro _ S2 ⟨G2,rfl⟩;have af:=G1.B G2;have r42:=G2.A r4;have r52:=G2.A r5;have D2:=hD.B af;have aw:=h1.H af;have bg:LstAt (NarC h S2) h S2 nv 3 E.b:=h2.B (fun _ _ u=>u.A af.H) af.H;have a0:=hp.H af;unfold Qq at ab
 cases am:KO E ag with
 | none=>
   rw[am]at ab;have hz:QK E ag= -2:=by unfold QK;rw[am]
   have bh:(-2:Int)< -1:=by omega
   rw[hz];simp[XY];rw[Je,Ja];simp[XZ,bh];exact ab _ _ (fun w n=>af.d w n) fun _=>rfl
 |some o=>
 rw[am]at ab;have hz:QK E ag=o:=by unfold QK;rw[am]
 rw[hz];simp at ab;have hv:=kX am;obtain⟨ft,fl⟩:=Jfr hK hv b;have a6:¬o< -1:=by omega
 simp[XY];rw[Je,Ja];simp[XY,a6];rw[Ja];simp[XY,r42];refine Jz (fun X S'=>X 0= .e q 0/\X 4= .e p4 0/\X 5= .e p5 0/\X 8= .d .i64 o/\X 9= .d .i64 (ki E o:Nat)/\S'=S2) (fun J hJ=> ?_) ?_
 ·rcases hv with rfl|⟨i,rfl,hi⟩
  ·have a7:¬(-1:Int)≥0:=by omega
   rw[Ja];simp[XZ];exact hJ _ _ (by simp[XZ,ZL,ki])
  ·have a7:(i:Int)≥0:=by omega
   have aj:¬((i:Nat):Int)= -1:=by omega
   obtain⟨w,z,a1,a2,a3⟩:=JhX aw hi;rw[Ja];simp[XZ,a7,r42,a1,a3];refine hJ _ _ ⟨rfl,rfl,rfl,rfl, ?_,rfl⟩;simp[XZ,ki,ZK,Xt,Xg hi]
 rintro X ao ⟨f0,f4,f5,f8,f9,rfl⟩;rw[Ja];simp[XY];refine Jz (fun X S'=>X 0= .e q 0/\X 5= .e p5 0/\X 9= .d .i64 ((Jaw E o b).1:Nat)/\X 10= .d .i64 ((Jaw E o b).2:Nat)/\Gr ao S') (fun J hJ=> ?_) ?_
 ·rw[Ja];simp[XY];obtain⟨L,hL⟩:=loE fun j X S'=>∃i:Nat,j+i=b.length+1/\X 0= .e q 0/\X 4= .e p4 0/\X 5= .e p5 0/\X 8= .d .i64 o/\X 9= .d .i64 ((E.b.foldl (narB o b i) (ki E o,0)).1:Nat)/\X 10= .d .i64 ((E.b.foldl (narB o b i) (ki E o,0)).2:Nat)/\X 11= .d .i64 (i:Nat)/\Gr ao S';refine JC L (b.length+1) (by omega) ((hL _ _ _).2 ⟨0,by omega,f0,f4,f5,f8,by simp[XZ,f9,Jfy],by simp[XZ,Jfy]<;>rfl,by rfl,Gr.F af.D⟩) ?_;clear f0 f4 f5 f8 f9;intro j X S3 ax;obtain⟨i,hj,f0,f4,f5,f8,f9,aa,ad,G3⟩:=(hL _ _ _).1 ax;have r53:=G3.A r52;by_cases hi:i<=b.length;rotate_left
  ·have bi:¬(i:Int)<=b.length:=by omega
   obtain rfl:i=b.length+1:=by omega
   rw[JqT]at f9 aa;simp only[XZ,simprocAttr,ad,f5,r53,lp,bi];exact hJ _ _ ⟨f0,f5,by simp only[XZ,simprocAttr,f9]<;>rfl,by simp only[XZ,simprocAttr,aa]<;>rfl,G3⟩
  have ah:=wiN (i:=i) (by omega);rw[Je,Ja];simp[XY,f5,ad,r53,lp,hi];rw[Je];simp[XY];rw[Ja];simp[XY];have ay:E.b.foldl (narB o b (i+1)) (ki E o,0)=E.b.foldl (narE o b i) (E.b.foldl (narB o b i) (ki E o,0)):=Jpp (XC _) _ _ rfl;generalize E.b.foldl (narB o b i) (ki E o,0)=R at*;obtain⟨M,hM⟩:=loE fun z X S'=>∃c:Nat,z+c=E.b.length/\X 0= .e q 0/\X 4= .e p4 0/\X 5= .e p5 0/\X 8= .d .i64 o/\X 9= .d .i64 (((E.b.take c).foldl (narE o b i) R).1:Nat)/\X 10= .d .i64 (((E.b.take c).foldl (narE o b i) R).2:Nat)/\X 11= .d .i64 (i:Nat)/\X 12= .d .i64 (c:Nat)/\Gr ao S';refine JC M E.b.length (by have:=hK.d;omega) ((hM _ _ _).2 ⟨0,by omega,f0,f4,f5,f8,by simp[XZ,f9]<;>rfl,by simp[XZ,aa]<;>rfl,ad,by rfl,G3⟩) ?_;clear f0 f4 f5 f8 f9 aa ad G3 r53;intro z X S3 bj;obtain⟨c,hq,f0,f4,f5,f8,f9,aa,ad,ak,G3⟩:=(hM _ _ _).1 bj;have r43:=G3.A r42;have r53:=G3.A r52;by_cases hc:c<E.b.length;rotate_left
  ·rw[Xr (by omega),<-ay]at f9 aa;simp[XZ,f4,ak,r43,ln,hc,ad,ah];exact⟨b.length+1-(i+1),by omega,(hL _ _ _).2 ⟨i+1,by omega,f0,f4,f5,f8,f9,aa,rfl,G3⟩⟩
  have ai:IntKind.i64.wrap ((c:Int)+1)=((c+1:Nat):Int):=by rw[JV (by omega) (by have:=hK.d;omega)];rfl
  have bk:LstAt (NarC h S3) h S3 nv 3 E.b:=bg.B (fun _ _ u=>u.A G3.H) G3.H;obtain⟨ra,qa,na,a1,a2,a3,a4,a5⟩:=JpR bk hc;have bl:(E.b.take (c+1)).foldl (narE o b i) R=narE o b i ((E.b.take c).foldl (narE o b i) R) E.b[c]:=by
   rw[ZN,Xg hc,HB];rfl
  have bm:=(hK.c E.b[c] (Xh hc)).2.1;generalize (E.b.take c).foldl (narE o b i) R=Q at*;generalize E.b[c]=x at*;have next:∀{ae:Fr} {S':St},Gr ao S'->ae 0= .e q 0->ae 4= .e p4 0->ae 5= .e p5 0->ae 8= .d .i64 o->ae 11= .d .i64 (i:Nat)->ae 12= .d .i64 ((c+1:Nat):Int)->ae 9= .d .i64 ((narE o b i Q x).1:Nat)->ae 10= .d .i64 ((narE o b i Q x).2:Nat)->∃q',q'<z/\M q' ae S':=fun O h0 h4 h5 h8 bn aw h9 bv=>⟨E.b.length-(c+1),by omega,(hM _ _ _).2 ⟨c+1,by omega,h0,h4,h5,h8,by grind,by grind,bn,aw,O⟩⟩
  by_cases ap:x.1=o;rotate_left
  ·have aj:narE o b i Q x=Q:=Xa fun u=>ap u.1;rw[aj]at next;simp[XZ,f4,f8,ak,r43,ln,hc,a1,a2,ap,ai];exact next G3 f0 f4 f5 f8 ad rfl f9 aa
  rw[Je,Ja];simp[XY,f4,ak,r43,ln,hc];rw[Je];simp[XY];rw[Ja];simp[XY,f4,f5,f8,ad,ak,r43,r53,a1,a2,a3,ap];refine Jj (P:=fun o _=>o= .h (decide (x.2.1=b.take i))) ((Js9 (a5.L _) ((a0.H G3).L _) hi bm).A fun o S' ⟨a,f⟩=>⟨f▸Gr.F (Js G3.D _),a⟩) ?_;rintro _ S4 G4 rfl;have a8:=G3.B G4;have r44:=G4.A r43;by_cases aq:x.2.1=b.take i;rotate_left
  ·have aj:narE o b i Q x=Q:=Xa fun u=>aq u.2.1;rw[aj]at next;rw[Xq aq];simp[XZ,ak,ai];exact next a8 f0 f4 f5 f8 ad rfl f9 aa
  have aj:narE o b i Q x=(x.2.2,i):=Xd ⟨ap,aq,by grind⟩;rw[aj]at next;have bo:ld1 (S4.A ra) (qa+2)=some (.d .i64 (x.2.2:Nat), .a):=by
   have:S3.A ra≠ .none:=fun u=>by rw[u]at a4;cases a4
   rw[G4.d ra this];exact a4
  rw[Xo aq];simp[XZ,f4,ad,ak,r44,a1,bo,ai];exact next a8 f0 f4 f5 f8 ad rfl rfl rfl
 clear f0 f4 f5 f8 f9;rintro X S3 ⟨f0,f5,f9,aa,G3⟩;generalize Jaw E o b=tl at ft fl ab f9 aa;obtain⟨t0,lg⟩:=tl;simp at ft fl ab f9 aa;have al:=af.B G3;rw[Je,Ja];simp[XY,aa];obtain⟨L,hL⟩:=loE fun j X S'=>∃(i id:Nat),j+i=b.length/\X 0= .e q 0/\X 5= .e p5 0/\X 9= .d .i64 (id:Nat)/\X 13= .d .i64 (i:Nat)/\Gr k S'/\Gr ao S'/\id<l.a.length/\Yw l t0 (b.drop lg)=Yw l id (b.drop i);refine JC L (b.length-lg) (by omega) ((hL _ _ _).2 ⟨lg,t0,by omega,f0,f5,f9,rfl,al,G3,ft,rfl⟩) ?_;clear f0 f5 f9 aa G3 al S3 X;intro j X S3 ax;obtain⟨i,id,hj,f0,f5,f9,ar,al,G3,hid,Y⟩:=(hL _ _ _).1 ax;have r53:=G3.A r52;by_cases hi:i<b.length;rotate_left
 ·rw[Xs (l:=b) (i:=i) (by omega)]at Y;simp[XZ,f5,ar,r53,lp,hi,f9];exact ab _ _ (fun w n=>al.d w n) fun _=>by rw[Y];rfl
 have ah:=wiN (i:=i) (by omega);rw[Xc hi,Yw]at Y;have a9:JbA l id b[i]=if(Jg l id).a=7 then match fstN b[i] (Jg l id).b with
   |some j=>(Jg l id).c[j]?
   |none=>none else none:=rfl
 rw[a9]at Y;clear a9;rw[Je,Ja];simp[XY,f5,ar,r53,lp,hi];rw[Je];simp[XY];rw[Ja];simp[XY,f0,f9];refine Jc (atD (hD.B al) hO hid) ?_;rintro _ S4 ⟨G4,x,T,rfl,ux,uy⟩;obtain⟨_,_,_,_,o5,o6⟩:=hO.B hid;have e1:=ux.A;have g:=ux.B;have e3:=uy.A;have e4:=uy.B;obtain⟨n4,ba⟩:=nxE S4;simp[XY,ba,g,e4];generalize bb:up 0 n4=bw;refine nmA G4.D ba bb ?_;intro S5 G5 _ ⟨t14,r14⟩;have au:=G4.B G5;have r55:=au.A r53;obtain⟨ra,oa,a1,a4⟩:=QQ (a0.H (G3.B au)) hi;rw[Ja];simp[XY,f5,ar,r55,r14,a1,a4];have bp:(Jg l id).b.length<=(Jg l id).c.length:=by
  rw[o5.a];rcases o5.c with u|u
  ·grind
  ·rw[jE,Xa (by omega),Xd u];simp
 refine Jj (kidD (Js G5.D _) ((ux.H G5).L _) ((uy.H G5).L _) bp o5.b) ?_;rintro _ S6 G6 rfl;have r146:=G6.A r14;have av:=(al.B au).B G6;have bq:=(G3.B au).B G6;generalize b[i]=nm at*;generalize Jg l id=W at*
 cases hf:fstN nm W.b with
 | none=>
   have hv:=Jnl (ks:=W.c) hf;rw[hf]at Y;simp[ite_self]at Y;by_cases h7:W.a=7
   ·simp[XZ,hv,r146,h7];exact ab _ _ (fun w n=>av.d w n) fun _=>by grind
   ·simp[XZ,hv,r146,h7];exact ab _ _ (fun w n=>av.d w n) fun _=>by grind
 | some c=>
   have hc:=Jd1 hf;have hv:=Jnm (ks:=W.c) hf;rw[hf]at Y;by_cases h7:W.a=7
   ·have bc:c<W.c.length:=by omega
    rw[Xd h7]at Y;simp[Xg bc]at Y;have br:W.c.getD c 0=W.c[c]:=by grind
    simp only[XZ,simprocAttr,hv,br,r146,h7,ar,ah];exact⟨b.length-(i+1),by omega,(hL _ _ _).2 ⟨i+1,W.c[c],by omega,f0,f5,rfl,rfl,av,bq,o6 _ (Xh bc),Y⟩⟩
   ·rw[Xa h7]at Y;simp[XZ,hv,r146,h7];exact ab _ _ (fun w n=>av.d w n) fun _=>by grind
def JpS (Z:Pt->Prop)(s:Sch)(f:EnvS->Tb->Opn->Ans3)(d:Nat):Prop:=∀(S:St) (U:Pt->Prop) (ru:Pt) (tb:Tb) (e:List V) (E:EnvS) (ov:List V) (o:Opn),DT Z S U ru s tb->OfF s tb->EnvC (fun r=>¬U r) S e E->EnvK tb E->OprC (fun r=>¬U r) S d ov o->fitO d o->docO d o->o.k≠6->
 Dz 142 [.e ru 0, .j e, .j ov] S (AnE Z U S ru s (f E tb o))
theorem JmN (x:JpS v r c t){E:EnvS}{o:Opn}(y:DT v k e q r l)(z:OfF r l)(K:EnvC (fun i=>¬e i) k n E)(M:EnvK l E)(N:OprC (fun i=>¬e i) k t g o)(O:fitO t o)(P:docO t o)(T:o.k≠6){X:Fr}
  (Y:∀S' w,RunD v e k S' w->((c E l o).2.2=0->DT v S' w q r (c E l o).1)->WF S'->L (.p [.d .i64 ((c E l o).2.1:Nat), .d .i64 (c E l o).2.2]) S'):J8 (tabT tabD) true (some []) 142 [.e q 0, .j n, .j g] X k L:=by
 have wl:=Js y.wf k.t;refine JW (W:=e) y.wf ((x {k with a:=k.t} e q l n E g o (y.D wl) z (K.A kR) M (OprC.A (st:=k) (st':={k with a:=k.t}) kR N) O P T).A fun m S' h=>⟨by obtain⟨w,A⟩:=h;exact A.b.ch,h⟩) ?_;rintro _ S' lo C ⟨w,A⟩;obtain rfl:=A.a;exact Y {S' with a:=lo} w ⟨C,fun i u=>A.b.c i u⟩ (fun n=>(A.tab n).D ⟨C.D.a,C.D.t⟩) C.D
theorem RunD.J {i:St}{x:Ans3}(d:RunD v e k X h)(g:AnE v h X q r x f i):AnE v e k q r x f i:=by
 obtain⟨j,A⟩:=g;exact⟨j,d.B A.b,A.tab,A.a⟩
theorem DT.G {Z:Pt->Prop}(h:DT Z k v q r l)(c:Ch e k X)(n:∀a,e a->¬v a/\¬Z a):DT Z X v q r l:=h.A c.D fun a u=>c.d a (h.f a u) fun w=>u.elim (n a w).1 (n a w).2
theorem pipD (bl:JpS v r c t)(hf:∀E,Jfs r E (c E) fun _=>True){sg:Tb->List Nat->List Nat->Nat×Int}(bm:r.c=[]){E:EnvS}{p:Pipe}(hD:DT v k e q r l)(hO:OfF r l)(hE:EnvC (fun m=>¬e m) k n E)(hK:EnvK l E)
  (hp:PipC (fun m=>¬e m) k t f p) (bn:fitP t p) (bo:docP t p):
  Dz 92 [.e q 0, .j n,f] k (AnE v e k q r (pipS sg (c E) l [] p)):=by
 refine Jl (aT Tryz.func92 rfl) rfl ?_;have hw:=hD.wf;have bv:=hE;obtain⟨vv,nv,rfl,h1,h2,c1,c2⟩:=Ki hE;have lp:=LstAt.H hp;obtain⟨cp,bw⟩:=bn;obtain⟨bx,bz⟩:=bo;obtain⟨n0,bp⟩:=nxE k;simp only[CT,Tryz.f92,XY,simprocAttr];rw[Ja];simp[XY,bp,c1.1,c2.1];generalize b0:up 0 n0=p4;refine nm1 hw bp b0 ?_;intro S1 G1 b8 ⟨t4,r4⟩;rw[Ja];simp[XY];rw[Je,Ja];simp[XY];refine Jy (fun j fr S'=>fr 0= .e q 0/\fr 2=f/\fr 4= .e p4 0/\∃(i:Nat) (U':Pt->Prop) (X:Tb) (P:List Nat) (x:Nat),j+i=p.length/\fr 9= .d .i64 (i:Nat)/\fr 8= .d .i64 (x:Nat)/\((i=0/\P=[])\/(0<i/\P=[x]))/\RunD v e k S' U'/\DT v S' U' q r X/\OfF r X/\l.a.length<=X.a.length/\S'.A p4= .a t4 [.d .i64 (E.c:Nat),vv,nv]/\¬U' p4/\(∀a∈P,a<X.a.length)/\pipS sg (c E) l [] p=pipS sg (c E) X P (p.drop i)) p.length (by omega) ⟨rfl,rfl,rfl,0,e,l,[],0,by omega,by rfl,by rfl, .inl ⟨rfl,rfl⟩,RunD.G G1,hD.B G1,hO,Xb _,r4,(hD.F b8).1,fun a u=>by(cases u),rfl⟩ ?_;rintro L hL j fr S2 ⟨f0,f2,f4,i,U',X,P,x,hj,f9,f8,ai,R,D2,a8,a9,s4,v4,b9,Y⟩;by_cases hi:i<p.length;rotate_left
 ·rw[Xs (by omega)]at Y;have aw:0<i:=by have:=GD.2 bx;omega
  obtain⟨_,rfl⟩:0<i/\P=[x]:=ai.resolve_left fun h=>by omega
  rw[Y];simp[XZ,f2,f9,lp,hi,f8];exact⟨U',R,fun _=>D2,rfl⟩
 have al:=wiN (i:=i) (by omega);rw[Xc hi,pipS]at Y;have kp:=R.D;have ca:PipC (fun m=>¬U' m) S2 t f p:=PipC.B kp hp;obtain⟨w,oo,en,a1,a2,a3,a4,a5,a6,a7⟩:=LstAt.A ca hi;obtain⟨g1,g2⟩:=bw _ (Xh hi);obtain⟨k1,k2,k3⟩:=bz _ (Xh hi);generalize p[i]=u at a5 Y g1 g2 k1 k2 k3;obtain⟨ov,rfl,ba⟩:=a5;have cb:ld1 (S2.A w) oo=some (ov, .a):=by simp_all
 have ax:=ba.H;have ay:=Jft (SgOK.A (sg:=sg) bm) (hf E) b9 a8 (hK.A a9) u fun _ _=>trivial;obtain⟨o,m,rfl⟩:∃o m,u=o::m:=by
  cases u with
  |nil=>grind
  |cons o m=>simp
 obtain⟨q0,o0,en,b1,b2,b3,b4,b5,b6,b7⟩:=LstAt.A ba (i:=0) (by simp);have b1:Jo 7 ov (.d .i64 0)=some (.e q0 o0, .a):=b1;simp at b5;have hk:ld1 (S2.A q0) o0=some (.d .i64 o.k, .a):=by
  have:=b7 0 (by omega);rw[GW]at this;rw[this,Jr9 b5 b6]
 have bq:EnvC (fun m=>¬U' m) S2 [.d .i64 (E.c:Nat),vv,nv] E:=EnvC.B kp bv;have bb:=hK.A a9;rw[Je,Ja];simp[XY,f2,f9,lp,hi];rw[Je];simp[XY];rw[Ja];simp[XY,f2,f9,a1,cb];have next:∀{aj:Fr} {S':St} {U2:Pt->Prop} {y:Ans3},aj 0= .e q 0->aj 2=f->aj 4= .e p4 0->aj 9= .d .i64 ((i+1:Nat):Int)->aj 8= .d .i64 (y.2.1:Nat)->y.2.2=0->cmdS sg (c E) X P (o::m)=y->RunD v e k S' U2->DT v S' U2 q r y.1->S'.A p4= .a t4 [.d .i64 (E.c:Nat),vv,nv]->¬U2 p4->∃j',j'<j/\L j' aj S':=by
  intro aj S' U2 y h0 h2 h4 h9 h8 hy hc R' D' cc cd;rw[hc]at Y ay;obtain⟨T,id,er⟩:=y;simp only at hy Y h8 D';subst hy;rw[Xa (fun z=>z rfl)]at Y;exact⟨p.length-(i+1),by omega,hL _ _ _ ⟨h0,h2,h4,i+1,U2,T,[id],id,by omega,h9,h8, .inr ⟨by omega,rfl⟩,R',D',ay.b,X0 a9 ay.f,cc,cd,fun a ha=>by rw[Xn.1 ha];exact ay.g rfl,Y⟩⟩
 have stop:∀{S':St} {U2:Pt->Prop} {y:Ans3},y.2.2≠0->cmdS sg (c E) X P (o::m)=y->RunD v e k S' U2->AnE v e k q r (pipS sg (c E) l [] p) (.p [.d .i64 0, .d .i64 y.2.2]) S':=by
  intro S' U2 y hy hc R';rw[hc]at Y;obtain⟨T,id,er⟩:=y;simp only at Y hy;rw[Xd hy]at Y;rw[Y];exact⟨U2,R',fun h=>absurd h hy,rfl⟩
 rw[Je,Ja];simp[XY,b1,hk];by_cases am:o.k=6;rotate_left
 ·have ab:cmdS sg (c E) X P (o::m)=if(c E X o).2.2=0/\P≠[]then((c E X o).1,0,18)else c E X o:=by
   rw[cmdS,Xa am]
  simp[XY,am];rw[Ja];simp[XY,f0,f4,s4,b1,b4];refine JmN bl D2 a8 bq bb b5 (g2 o (Xu ..)) (k2 o (Xu ..)) am ?_;intro S3 U3 R3 D3 w3;have bc:=(R3.D p4 (Jb s4) v4).1.trans s4;have ce:=(R3.D p4 (Jb s4) v4).2;generalize c E X o=y at*;simp[XY];by_cases he:y.2.2=0;rotate_left
  ·rw[Xa fun h=>he h.1]at ab;rw[Je,Ja];simp[XZ,he];exact stop he ab (R.B R3)
  rcases ai with⟨aw,rfl⟩|⟨aw,rfl⟩
  ·rw[Xa fun h=>h.2 rfl]at ab;have ak:¬(i:Int)>0:=by omega
   rw[Je,Ja];simp[XY,he];rw[Je,Ja];simp only[XZ,simprocAttr,f9,ak];rw[al];exact next f0 f2 f4 rfl rfl he ab (R.B R3) (D3 he) bc ce
  ·rw[Xd ⟨he,by simp⟩]at ab;have ak:(i:Int)>0:=by omega
   rw[Je,Ja];simp[XY,he];rw[Je,Ja];simp only[XZ,simprocAttr,f9,ak];exact stop (y:=(y.1,0,18)) (by simp) ab (R.B R3)
 have ab:cmdS sg (c E) X P (o::m)=match Qt (c E) X m with
   |(l,K,n)=>if n≠0 then(l,0,n)else ofK sg l o.s (K++P):=by
  rw[cmdS,Xd am];rfl
 have hs:ld1 (S2.A q0) (o0+3)=some (ofL o.s, .a):=by
  have h7:=b7 3 (by omega);rw[h7]
  cases t with
  |zero=>exact b5.elim
  | succ t=>
    obtain⟨z,cq,co,s',N,b,p'⟩:=o;obtain⟨cr,cs,rfl,_⟩:=b5;rfl
 simp[XY,am];rw[Ja];simp[XY];have cf:∀{S':St} {U2:Pt->Prop},RunD v U' S2 S' U2->S'.A q0=S2.A q0:=fun R'=>(R'.D q0 b3 b2).1;refine Jz (fun fr S'=>fr 0= .e q 0/\fr 2=f/\fr 4= .e p4 0/\fr 8= .d .i64 (x:Nat)/\fr 9= .d .i64 (i:Nat)/\fr 10=ov/\∃(U2:Pt->Prop) (T:Tb) (W:List Nat) (av:V),fr 13=av/\RunD v U' S2 S' U2/\DT v S' U2 q r T/\OfF r T/\X.a.length<=T.a.length/\KL S' av 1 (ints W)/\(∀Q,rowOf av=some Q->¬U2 Q/\S2.A Q= .none)/\(∀a∈W,a<T.a.length)/\W.length<=m.length/\Qt (c E) X m=(T,W,0)) (fun J hJ=> ?_) ?_
 ·rw[Ja];simp[XY];obtain⟨M,hM⟩:=loE fun w fr S'=>fr 0= .e q 0/\fr 2=f/\fr 4= .e p4 0/\fr 8= .d .i64 (x:Nat)/\fr 9= .d .i64 (i:Nat)/\fr 10=ov/\∃(u:Nat) (U2:Pt->Prop) (T:Tb) (W:List Nat) (av:V),w+u=m.length/\fr 14= .d .i64 ((u+1:Nat):Int)/\fr 13=av/\RunD v U' S2 S' U2/\DT v S' U2 q r T/\OfF r T/\X.a.length<=T.a.length/\KL S' av 1 (ints W)/\(∀Q,rowOf av=some Q->¬U2 Q/\S2.A Q= .none)/\(∀a∈W,a<T.a.length)/\W.length=u/\Qt (c E) X m=(match Qt (c E) T (m.drop u)with
   |(O,y,n)=>(O,W++y,n))
  refine JC M m.length (by grind) ((hM _ _ _).2 ⟨f0,f2,f4,f8,f9,rfl,0,U',X,[], .g,by omega,by rfl,rfl,RunD.H D2.wf,D2,a8,Xb _,KL.F _ _,(fun Q n=>by cases n),(fun a u=>by cases u),rfl,by rfl⟩) ?_;clear f0 f2 f4 f8 f9;intro q' fr S3 cg;obtain⟨f0,f2,f4,f8,f9,ad,u,U2,T,W,av,ct,az,af,R2,D3,ao,ag,ah,ae,ap,br,aa⟩:=(hM _ _ _).1 cg;have ax:JU ov=some (.d .i64 ((m.length+1:Nat):Int), .a):=ax;by_cases hc:u<m.length;rotate_left
  ·have bd:¬((u+1:Nat):Int)<((m.length+1:Nat):Int):=by omega
   rw[Xs (by omega),Qt]at aa;simp only[XZ,simprocAttr,ad,az,ax,bd];exact hJ _ _ ⟨f0,f2,f4,f8,f9,ad,U2,T,W,av,af,R2,D3,ao,ag,ah,ae,ap,by omega,by grind⟩
  have bd:((u+1:Nat):Int)<((m.length+1:Nat):Int):=by omega
  have be:IntKind.i64.wrap (((u+1:Nat):Int)+1)=((u+1+1:Nat):Int):=by rw[JV (by omega) (by grind)];rfl
  have bf:∀Q,¬U' Q->S2.A Q≠ .none->¬U2 Q/\S3.A Q=S2.A Q:=fun Q a b=>⟨(R2.D Q b a).2,(R2.D Q b a).1⟩
  have bt:LstAt (OprC (fun m=>¬U2 m) S3 t) (fun m=>¬U2 m) S3 ov 7 (o::m):=ba.B (fun _ _ h=>OprC.A bf h) bf;obtain⟨qc,oc,ec,e1,e2,e3,e4,e5,e6,e7⟩:=LstAt.A bt (i:=u+1) (by grind);simp at e5;have bc:=(R2.D p4 (Jb s4) v4).1.trans s4;rw[Xc hc]at aa;have aa:=Jhc aa;have aq:m[u]∈m:=Xh hc;rw[Je,Ja];simp only[XY,simprocAttr,ad,az,ax,bd];rw[Je];simp only[XY,simprocAttr];rw[Ja];simp only[XY,simprocAttr,f0,f4,ad,az,bc,e1,e4];refine JmN bl D3 ao (bq.A bf) (bb.A ag) e5 (g2 _ (Xl _ aq)) (k2 _ (Xl _ aq)) (k3 _ aq) ?_;intro S4 U4 R4 D4 w4;have a0:=hf E T m[u] trivial ao (bb.A ag);generalize c E T m[u]=y at*;simp[XY];by_cases he:y.2.2=0;rotate_left
  ·rw[Xd he]at aa;rw[aa]at ab;simp[Xd he]at ab;rw[Je,Ja];simp[XZ,he];exact stop (y:=(y.1,0,y.2.2)) he ab ((R.B R2).B R4)
  rw[Xa fun z=>z he]at aa;have D4:=D4 he;have bu:KL S4 av 1 (ints W):=ah.B fun Q n=>(R4.D Q (ah.A n) (ae Q n).1).1;have ar:∀Q,rowOf av=some Q->¬U4 Q/\S2.A Q= .none:=fun Q n=>⟨(R4.D Q (ah.A n) (ae Q n).1).2,(ae Q n).2⟩
  obtain⟨n4,au⟩:=nxE S4;rw[Je,Ja];simp[XY,he];simp only[simprocAttr,af,au];refine Jay w4 au bu rfl rfl (by rw[JS];grind) ?_;intro S5 bg C5 o5 bh;simp only[XZ,simprocAttr,az];rw[be];have bi:=R2.B R4;have cj:∀Q,S2.A Q= .none->¬v Q:=fun Q n=>(D2.F n).2;have bj:Ch (fun Q=>S2.A Q= .none) S4 S5:=C5.F fun Q n=>(ar Q n).2;have D5:DT v S5 U4 q r y.1:=D4.G C5 fun Q n=>⟨(ar Q n).1,cj Q (ar Q n).2⟩
  have ck:RunD v U' S2 S5 U4:=⟨bi.ch.A bj fun Q n=> .inr n,bi.c⟩
  have bk:ints W++[[.d .i64 (y.2.1:Nat)]]=ints (W++[y.2.1]):=by simp[ints]
  rw[bk]at o5;exact⟨m.length-(u+1),by omega,(hM _ _ _).2 ⟨f0,f2,f4,f8,f9,ad,u+1,U4,y.1,W++[y.2.1],bg,by omega,rfl,rfl,ck,D5,a0.b,X0 ag a0.f,o5,fun Q n=>⟨(D4.F (bh Q n)).1,Ch.B bi.ch (bh Q n)⟩,fun a ha=>by
   rcases Xy.1 ha with ha|ha
   ·exact X6 (ap a ha) a0.f
   ·rw[Xn.1 ha];exact a0.g he,by grind,aa⟩⟩
 clear f0 f2 f4 f8 f9;rintro fr S3 ⟨f0,f2,f4,f8,f9,ad,U2,T,W,av,af,R2,D3,ao,ag,ah,ae,ap,br,aa⟩;rw[aa]at ab;have ab:cmdS sg (c E) X P (o::m)=ofK sg T o.s (W++P):=ab;have cl:∀a∈W++P,a<T.a.length:=fun a ha=>by grind
 refine Jz (fun fr S'=>fr 0= .e q 0/\fr 2=f/\fr 4= .e p4 0/\fr 9= .d .i64 (i:Nat)/\fr 10=ov/\∃(av:V),fr 13=av/\RunD v U' S2 S' U2/\DT v S' U2 q r T/\SlAt (fun _=>True) S' av 1 (ints (W++P))) (fun J hJ=> ?_) ?_
 ·rcases ai with⟨aw,rfl⟩|⟨aw,rfl⟩
  ·have ak:¬(i:Int)>0:=by omega
   rw[Ja];simp only[XZ,simprocAttr,f9,ak];exact hJ _ _ ⟨f0,f2,f4,f9,ad,av,af,R2,D3,by rw[ZC];exact ah.D.D fun _ _ _=>⟨trivial,rfl⟩⟩
  ·have ak:(i:Int)>0:=by omega
   obtain⟨n4,au⟩:=nxE S3;rw[Ja];simp only[XY,simprocAttr,f9,ak];simp only[XY,simprocAttr,f8,af,au];refine Jay D3.wf au ah rfl rfl (by rw[JS];grind) ?_;intro S5 bg C5 o5 bh;simp[XZ];have bk:ints W++[[.d .i64 (x:Nat)]]=ints (W++[x]):=by simp[ints]
   rw[bk]at o5;have bj:Ch (fun Q=>S2.A Q= .none) S3 S5:=C5.F fun Q n=>(ae Q n).2;exact hJ _ _ ⟨f0,f2,f4,f9,ad,bg,rfl,⟨R2.ch.A bj fun Q n=> .inr n,R2.c⟩,D3.G C5 fun Q n=>⟨(ae Q n).1,(D2.F (ae Q n).2).2⟩,o5.D.D fun _ _ _=>⟨trivial,rfl⟩⟩
 clear f0 f2 f4 f8 f9 ad af ah ae R2 D3;rintro fr S4 ⟨f0,f2,f4,f9,ad,av,af,R2,D3,ae⟩;have k4:=cf R2;rw[<-k4]at hs;rw[Ja];simp[XY,f0,ad,af,b1,hs];refine Jc (ofD8 (sg:=sg) D3 ao bm ae cl) ?_;intro vo S5 hA;obtain⟨U5,A⟩:=RunD.J R2 hA;obtain rfl:=A.a;have D5:=A.tab;have R5:=R.B A.b;have cm:=(A.b.D p4 (Jb s4) v4).1.trans s4;have cn:=(A.b.D p4 (Jb s4) v4).2;generalize ofK sg T o.s (W++P)=y at*;simp[XY];by_cases he:y.2.2=0
 ·rw[Je,Ja];simp[XZ,he,f9];rw[al];exact next f0 f2 f4 rfl rfl he ab R5 (D5 he) cm cn
 ·rw[Je,Ja];simp[XZ,he]
  grind
theorem Jse {Z:Pt->Prop}{s:Sch}{sg:Tb->List Nat->List Nat->Nat×Int}(l:s.c=[]):∀d,JpS Z s (opnS sg d) d
 |0=>fun _ _ _ _ _ _ _ _ _ _ _ _ h _ _ _=>h.elim
 | d+1=>by
   intro S U ru tb e E ov o O hO hE hK ho q g P;have ih:=Jse (Z:=Z) (sg:=sg) l d;refine Jl (aT Tryz.func142 rfl) rfl ?_;have hw:=O.wf;have Q:=hE;have T:=ho;obtain⟨vv,nv,rfl,h1,h2,c1,c2⟩:=Ki hE;obtain⟨k,t,u,sx,n,b,p⟩:=o;obtain⟨f1,f2,f3⟩:=q;have k6:¬k=6:=P;have g:k=5->docP d p:=g;obtain⟨pv,qv,rfl,hp,W⟩:=ho;have d1:=hp.A;have d2:=hp.B;have d3:=W.G.2;have d4:=W.G.1;obtain⟨n0,w⟩:=nxE S;simp only[CT,Tryz.f142,XY,simprocAttr];rw[Ja];simp[XY,w,c1.1,c2.1,d2,d4];generalize X:up 0 n0=p4;generalize Y:up 1 n0=p5;refine nm2 hw w X Y ?_;intro S1 j ab ad _ ⟨t4,r4⟩ ⟨t5,r5⟩;have y:=O.B j;have z:EnvC (fun r=>¬U r) S1 [.d .i64 (E.c:Nat),vv,nv] E:=Q.A j.H;have aa:OprC (fun r=>¬U r) S1 (d+1) [.d .i64 k,ofL t,pv,ofL sx, .d .i64 n, .h b,qv] (.mk k t u sx n b p):=OprC.A j.H T;have i:∀{x:Ans3} {v:V} {m:St},AnE Z U S1 ru s x v m->v= .p [.d .i64 (x.2.1:Nat), .d .i64 x.2.2]/\AnE Z U S ru s x v m:=fun f=>by
    have hB:=AnE.B j f;obtain⟨U',A⟩:=f;exact⟨A.a,hB⟩
   rw[opnS];by_cases L:k=2
   ·rw[Xd L];simp[XZ,r5,L];refine Jc (JmM 3 y) ?_;intro vo m f;obtain⟨rfl,f⟩:=i f;simp[XZ];exact f
   rw[Xa L];by_cases M:k=3
   ·rw[Xd M];simp[XZ,r5,M];refine Jc (JmM 2 y) ?_;intro vo m f;obtain⟨rfl,f⟩:=i f;simp[XZ];exact f
   rw[Xa M];by_cases N:k=4
   ·rw[Xd N];simp[XZ,r5,N];refine Jc (JmM 1 y) ?_;intro vo m f;obtain⟨rfl,f⟩:=i f;simp[XZ];exact f
   rw[Xa N];by_cases K:k=5
   ·rw[Xd K];simp[XZ,r4,r5,K];refine Jc (pipD ih (jn (SgOK.A (sg:=sg) l) d) (sg:=sg) l y hO z hK (W.B (fun _ _ h=>h.A (fun _ _ h=>OprC.A j.H h) j.H) j.H) ⟨f2,f3⟩ (g K)) ?_;intro vo m f;obtain⟨rfl,f⟩:=i f;simp[XZ];exact f
   rw[Xa K,Xa k6];simp[XZ,r4,r5,L,M,N,K];refine Jc (Jsd y hO z hK aa f1) ?_;rintro _ m ⟨G2,rfl⟩;simp[XZ];exact AnE.A O (j.B G2) _ _
theorem Jt3 {sg:Tb->List Nat->List Nat->Nat×Int}(b:r.c=[]){m:Nat}{E:EnvS}(h:DT v k e q r l)(i:OfF r l)(o:EnvC (fun a=>¬e a) k n E)(t:EnvK l E)(u:PipC (fun a=>¬e a) k m f y)(d:fitP m y)(g:docP m y):
  Dz 92 [.e q 0, .j n,f] k (AnE v e k q r (ofS sg m E l y)):=pipD (Jse b m) (jn (SgOK.A (sg:=sg) b) m) b h i o t u d g
theorem Jt4 {E:EnvS}(hw:WF k)(hE:EnvC v k n E)(hp:PipC e k t f y)(hv:E.a.length<100000)(hf:fitP t y)(hd:docP t y):
  Dz 144 [.j n,f] k fun h S'=>Gr k S'/\JpQ k S' (Qf E y) h:=by
 refine Jn tabM (aT Tryz.func144 rfl) rfl hw fun K u=> ?_;have ap:=hE;obtain⟨vv,nv,rfl,h1,h2,c1,c2⟩:=Ki hE;obtain⟨n0,ag⟩:=nxE k;simp only[CT,Tryz.f144,XY,simprocAttr];rw[Ja];simp[XY,ag,c1.1,c2.1];generalize aq:up 0 n0=p2;refine nm1 hw ag aq ?_;intro S1 X a8 ⟨t2,ar⟩;have ah:PipC e S1 t f y:=PipC.A hp X.H;have T:=LstAt.H ah;rw[Je]
 cases y with
 |nil=>exact absurd rfl hd.1
 |cons c pr=>
 cases pr with
 | cons c' pr=>
   have hz:¬((pr.length+2:Nat):Int)=1:=by omega
   have T:JU f=some (.d .i64 ((pr.length+2:Nat):Int), .a):=T;have ho:Qf E (c::c'::pr)=none:=by
    cases c with
    |nil=>rfl
    |cons o r=>cases o;cases r<;>rfl
   rw[ho]at u;simp[XZ,T];exact u _ _ (fun r n=>X.d r n) fun _=>rfl
 |nil=>
 have T:JU f=some (.d .i64 1, .a):=T;obtain⟨r1,q1,e1,Y,a2,a3,a4,⟨cv,rfl,a5⟩,a6,U⟩:=LstAt.A ah (i:=0) (by simp);have Y:Jo 1 f (.d .i64 0)=some (.e r1 q1, .a):=Y;have U:=U 0 (by simp);simp at U a5;have Z:=LstAt.H a5
 cases c with
 |nil=>exact absurd rfl (hd.2 [] (Xn.2 rfl)).1
 |cons o cr=>
 cases cr with
 | cons o' cr=>
   have hz:¬((cr.length+2:Nat):Int)=1:=by omega
   have Z:JU cv=some (.d .i64 ((cr.length+2:Nat):Int), .a):=Z;have ho:Qf E [o::o'::cr]=none:=by cases o;rfl
   rw[ho]at u;simp[XZ,T,Y,U,Z];exact u _ _ (fun r n=>X.d r n) fun _=>rfl
 |nil=>
 have Z:JU cv=some (.d .i64 1, .a):=Z;obtain⟨r2,q2,e2,b1,b2,b3,b4,b5,b6,b7⟩:=LstAt.A a5 (i:=0) (by simp);have b1:Jo 7 cv (.d .i64 0)=some (.e r2 q2, .a):=b1;simp at b5
 cases t with
 |zero=>exact b5.elim
 |succ t=>
 obtain⟨l,w,z,sx,q,b,pp⟩:=o;obtain⟨ai,qv,rfl,aa,hq⟩:=b5;have ab:=b7 0 (by simp);have aj:=b7 1 (by simp);have ak:=b7 2 (by simp);simp at ab aj ak;by_cases hk:l=1;rotate_left
 ·have:Qf E [[.mk l w z sx q b pp]]=none:=Xa hk;rw[this]at u;simp[XZ,T,Y,U,Z,b1,ab,hk];exact u _ _ (fun r n=>X.d r n) fun _=>rfl
 have au:Qf E [[.mk l w z sx q b pp]]=(KO E w).map fun h=>(h,z):=Xd hk;rw[au]at u;subst hk;have d1:=aa.A;have d2:=aa.B;have av:EnvC v S1 [.d .i64 (E.c:Nat),vv,nv] E:=ap.A X.H;rw[Ja];simp[XY,T,Y,U,Z,b1,ab];rw[Ja];simp[XY,ar,Y,U,b1,aj];refine Jj (findD (S:={S1 with a:=S1.t}) (Js X.D _) (av.A kR) hv w) ?_;rintro _ O N rfl;have ad:=X.B N
 cases L:KO E w with
 | none=>
   rw[L]at u;have hz:QK E w= -2:=by unfold QK;rw[L]
   have ae:(-2:Int)< -1:=by omega
   rw[hz];simp[XZ,ae];exact u _ _ (fun r n=>ad.d r n) fun _=>rfl
 |some x=>
 rw[L]at u;have hz:QK E w=x:=by unfold QK;rw[L]
 have ae:¬x< -1:=by rcases kX L with rfl|⟨i,rfl,_⟩<;>omega
 rw[hz];have aw:ld1 (O.A r1) q1=some (cv, .a):=by rw[N.d r1 a3];exact U
 have al:ld1 (O.A r2) (q2+2)=some (ai, .a):=by rw[N.d r2 b3];exact ak
 have am:SlAt e O ai 1 (strs z):=aa.H N;obtain⟨n2,M⟩:=nxE O;have o1:=fun l=>nes (Jr N.D M (show O.A r1≠ .none by rw[N.d r1 a3];exact a3) l);have o2:=fun l=>nes (Jr N.D M (show O.A r2≠ .none by rw[N.d r2 b3];exact b3) l);simp[XY];rw[Je,Ja];simp[XY,ae];rw[Ja];simp[XY,Y,aw,b1,al,M,o1,o2];obtain⟨x0,af⟩:=exE (up 0 n2);obtain⟨S3,Q⟩:=exE (O.B fun s=>Row.a s []);have G3:Gr O S3:=by rw[Q];exact Gr.G N.D (Jd _)
 obtain⟨t1,a9⟩:∃s,S3.A x0= .a s []:=⟨_,by rw[Q,af];simp[XZ,M];rfl⟩
 have ax:O.A x0= .none:=by rw[af];exact nx0 N.D M 0
 rw[<-Q,<-af];clear Q;have ay:SlF k S3 (.m x0 0 0 1 0) 1 []:=⟨by simp, .inr ⟨x0,t1,ad.I ax,by grind, .inr rfl⟩⟩
 have W:=(hf.2 _ (Xu ..)).2 _ (Xu ..);have W:=W.1;refine Qw (S0:=k) (ad.B G3) ay (am.H G3) (Yp _) (by rw[Jw];omega) (by rw[Jw];grind) fun Sa v1 ga ao a0 az=> ?_;simp at ao;simp[XZ];exact u _ _ (fun r n=>ga.d r n) fun g=>⟨_,rfl,ao.D⟩
structure WkD (Z:Pt->Prop) (S:St) (U:Pt->Prop) (w ru:Pt) (s:Sch) (tb:Tb) (nv:V) (names:List Str) (cs:Cls) (a er:Int) (ok:Prop):Prop where
 wf:WF S
 L:∃(U0:Pt->Prop) (cv:V) (t:Nat),(ok->DT Z S U0 ru s tb)/\(∀r,U0 r->U r/\r≠w/\rowOf cv≠some r)/\S.A w= .a t [.e ru 0,nv,cv, .d .i64 a, .d .i64 er]/\KL S cv 2 (clsE cs)/\(∀r,rowOf cv=some r->U r/\r≠w)
 j:U w
 d:∀r,U r\/Z r->S.A r≠ .none
 y:∀r,U r->¬Z r
 i:SlAt (fun r=>¬U r) S nv 1 (strs names)
section
variable {Z U U' U'' : Pt -> Prop} {S S' S'' : St} {w ru : Pt} {s : Sch} {tb tb' : Tb} {nv : V} {names : List Str} {cs cs' : Cls} {a er a' er' : Int} {ok ok' : Prop}
theorem WkD.B (h:WkD Z S U w ru s tb nv names cs a er ok)(e:S.A q= .none):¬U q/\¬Z q:=⟨fun u=>h.d q (.inl u) e,fun u=>h.d q (.inr u) e⟩
theorem WkD.J (h:WkD Z S U w ru s tb nv names cs a er ok)(b:WF S')(k:∀r,U r\/Z r->S'.A r=S.A r)(g:SlAt (fun r=>¬U r) S' nv 1 (strs names)):WkD Z S' U w ru s tb nv names cs a er ok:=by
 obtain⟨l,m,t,n,c,p,q,f⟩:=h.L;exact⟨b,⟨l,m,t,fun o=>(n o).A b fun r u=>k r (u.imp (fun u=>(c r u).1) id),c,(k w (.inl h.j)).trans p,q.B fun r e=>k r (.inl (f r e).1),f⟩,h.j,fun r u=>by rw[k r u];exact h.d r u,h.y,g⟩
theorem WkD.F (h:WkD Z S U w ru s tb nv names cs a er ok)(g:Gr S S'):WkD Z S' U w ru s tb nv names cs a er ok:=h.J g.D (fun r u=>g.d r (h.d r u)) (h.i.H g)
theorem WkD.K (h:WkD Z S U w ru s tb nv names cs a er ok){lo:Nat}(b:WF {S with a:=lo}):WkD Z {S with a:=lo} U w ru s tb nv names cs a er ok:=h.J b (fun r u=>rfl) (h.i.L _)
theorem WkD.I (h:WkD Z S U w ru s tb nv names cs a er ok)(c:Ch v S S')(n:∀r,v r->¬U r/\¬Z r)(b:SlAt (fun r=>¬U r) S' nv 1 (strs names)):WkD Z S' U w ru s tb nv names cs a er ok:=h.J c.D (fun r u=>c.d r (h.d r u) fun x=>u.elim (n r x).1 (n r x).2) b
theorem WkD.A (h:WkD Z S U w ru s tb nv names cs a er ok)(k:ok'->ok):WkD Z S U w ru s tb nv names cs a er ok':=by
 obtain⟨b,c,t,e,f⟩:=h.L;exact⟨h.wf,⟨b,c,t,fun o=>e (k o),f⟩,h.j,h.d,h.y,h.i⟩
theorem WkD.M (h:WkD Z S U w ru s tb nv names cs a er True):∃k,DT Z S k ru s tb/\(∀r,¬U r->¬k r)/\∀{S':St} {U1:Pt->Prop} {tb':Tb} {o:Prop},RunD Z k S S' U1->(o->DT Z S' U1 ru s tb')->∃U',RunD Z U S S' U'/\WkD Z S' U' w ru s tb' nv names cs a er o:=by
 obtain⟨k,cv,t,m,l,h3,p,X⟩:=h.L;have m:=m trivial;refine⟨k,m,fun r n u=>n (l r u).1,fun{S' U1 tb' o} R T=> ?_⟩;have g:∀r,S.A r≠ .none->¬k r->S'.A r=S.A r:=R.ch.d;have q:∀r,U r\/Z r->S'.A r≠ .none:=fun r u e=>h.d r u (R.ch.B e);refine⟨fun r=>U r\/(U1 r/\S'.A r≠ .none),⟨R.ch.F fun r u=>(l r u).1,fun r u=> ?_⟩,⟨R.ch.D,⟨fun r=>U1 r/\S'.A r≠ .none,cv,t,fun x=> ?_,fun r u=>⟨.inr u, ?_, ?_⟩, ?_,p.B fun r e=>g r (p.A e) fun u=>(l r u).2.2 e,fun r e=>⟨.inl (X r e).1,(X r e).2⟩⟩, .inl h.j,fun r u=> ?_,fun r u=> ?_, ?_⟩⟩
 ·rcases u with u|u
  ·grind
  ·exact(R.c r u.1).imp (fun u=>(l r u).1) id
 ·have T:=T x;obtain⟨T',lv,tv,dv,nv,kv,sv,Q,O,tr,W,N,b1,b2,b3,Y,b5⟩:=T.i;exact⟨T.wf,⟨T',lv,tv,dv,nv,kv,sv,Q,O,tr,W,N,b1,b2,fun r t=>(b3 r t).imp (fun u=>⟨u,T.f r (.inl u)⟩) id,(fun r b=>⟨Y r b,T.f r (.inl (Y r b))⟩),fun r o=>(b5 r o).imp (fun u=>⟨u,T.f r (.inl u)⟩) id⟩,fun r u=>u.elim (fun u=>u.2) fun u=>T.f r (.inr u)⟩
 ·rcases R.c r u.1 with v|v
  ·grind
  grind
 ·rcases R.c r u.1 with v|v
  ·grind
  ·exact fun e=>p.A e v
 ·grind
 ·grind
 ·rcases u with u|u
  ·exact h.y r u
  ·rcases R.c r u.1 with v|v
   ·exact h.y r (l r v).1
   ·exact fun z=>h.d r (.inr z) v
 ·refine h.i.D fun r n e=>⟨fun u=> ?_,g r e fun u=>n (l r u).1⟩
  rcases u with u|u
  ·exact n u
  ·rcases R.c r u.1 with v|v
   ·grind
   grind
theorem WkD.H (h:WkD Z S U w ru s tb nv names cs a er ok):∃b t,S.A w= .a t [.e ru 0,nv,b, .d .i64 a, .d .i64 er]/\KL S b 2 (clsE cs)/\(∀r,rowOf b=some r->U r/\r≠w)/\(∀{S':St} {a' er':Int},Ch (fun r=>r=w) S S'->(∃t,S'.A w= .a t [.e ru 0,nv,b, .d .i64 a', .d .i64 er'])->RunD Z U S S' U/\WkD Z S' U w ru s tb nv names cs a' er' ok)/\
  ∀{S' S'':St} {m:V} {cs':Cls},Ch (fun p=>rowOf b=some p) S S'->KL S' m 2 (clsE cs')->(∀r,rowOf m=some r->S.A r= .none)->Ch (fun p=>p=w) S' S''->(∃t,S''.A w= .a t [.e ru 0,nv,m, .d .i64 a, .d .i64 er])->∃U',RunD Z U S S'' U'/\WkD Z S'' U' w ru s tb nv names cs' a er ok:=by
 obtain⟨X,b,t,Y,q,h3,T,v⟩:=h.L;refine⟨b,t,h3,T,v,fun{S' a' er'} c ⟨W,e⟩=> ?_,fun{S' S'' m cs'} c o O Q ⟨W,hr⟩=> ?_⟩
 ·have k:∀r,r≠w->S.A r≠ .none->S'.A r=S.A r:=fun r n l=>c.d r l n;exact⟨⟨c.F fun r x=>by rw[x];exact h.j,fun r u=> .inl u⟩,⟨c.D,⟨X,b,W,fun o=>(Y o).G c fun r x=>by rw[x];exact⟨fun u=>(q w u).2.1 rfl,h.y w h.j⟩,q,e,T.B fun r x=>k r (v r x).2 (T.A x),v⟩,h.j,fun r u x=>h.d r u (c.B x),h.y,h.i.D fun r n l=>⟨n,k r (fun x=>n (by rw[x];exact h.j)) l⟩⟩⟩
 ·have lw:=h.d w (.inl h.j);have g:Ch U S S'':=(c.F fun r u=>(v r u).1).A (Q.F fun r u=>by rw[u];exact h.j) fun r u=> .inl u;have N:Ch (fun r=>rowOf b=some r\/r=w) S S'':=(c.F fun r u=> .inl u).A (Q.F fun r u=> .inr u) fun r u=> .inl u;have nw:∀r,rowOf m=some r->r≠w:=fun r e f=>lw (by grind);have ko:KL S'' m 2 (clsE cs'):=o.B fun r e=>Q.d r (o.A e) (nw r e);refine⟨fun r=>U r\/rowOf m=some r,⟨g,fun r u=>u.imp id (O r)⟩,⟨Q.D,⟨X,m,W,fun o=>(Y o).G N fun r x=> ?_,fun r u=>⟨.inl (q r u).1,(q r u).2.1,fun e=>h.d r (.inl (q r u).1) (O r e)⟩,hr,ko,fun r e=>⟨.inr e,nw r e⟩⟩, .inl h.j,fun r u=> ?_,fun r u=>u.elim (h.y r) fun e z=>h.d r (.inr z) (O r e), ?_⟩⟩
  ·rcases x with x|x
   ·exact⟨fun u=>(q r u).2.2 x,h.y r (v r x).1⟩
   ·rw[x];exact⟨fun u=>(q w u).2.1 rfl,h.y w h.j⟩
  ·rcases u with(u|u)|u
   ·exact fun e=>h.d r (.inl u) (g.B e)
   ·exact ko.A u
   ·exact fun e=>h.d r (.inr u) (g.B e)
  ·refine h.i.D fun r n l=>⟨fun u=>u.elim n fun e=>l (O r e),g.d r l n⟩
end
theorem JhY (h:NodC v k t (j+1) n Q):∃c f g i,n=[.d .i64 Q.k, .d .i64 Q.a,ofL (match Q with| .mk _ _ s _ _ _ _ _ _=>s),ofL Q.A,c,f,g, .h (match Q with| .mk _ _ _ _ _ _ _ l _=>l),i]/\(c.B=true/\c.A=some [c])/\(f.B=true/\f.A=some [f])/\(g.B=true/\g.A=some [g])/\(i.B=true/\i.A=some [i]):=by
 obtain⟨b,a,s,name,o,p,q,l,cases⟩:=Q;obtain⟨r,u,w,x,rfl,y,z,K,L⟩:=h;exact⟨r,u,w,x,rfl,LstAt.G y,z.G,K.G,L.G⟩
theorem JdN {z:Pt}{names:List Str}{e:Int}{P:Pt->Prop}(K:WkD v k h u z r l f names x m N Y)(hn:NodC P k t (j+1) n Q):
  Dz 93 [.e u 0, .j n, .d .i64 e] k fun b S'=>b= .p []/\RunD v h k S' h/\WkD v S' h u z r l f names x (if N=0 then Q.a else m) (if N=0 then e else N) Y:=by
 have hw:=K.wf;refine Jl (aT Tryz.func93 rfl) rfl ?_;obtain⟨z4,z5,z6,z8,rfl,y4,y5,y6,y8⟩:=JhY hn;obtain⟨X,tw,hr,_,_,put,_⟩:=K.H;obtain⟨n0,y⟩:=nxE k;simp only[CT,Tryz.f93,XY,simprocAttr];rw[Ja];simp[XY,y,y4.1,y5.1,y6.1,y8.1];generalize M:up 0 n0=O;refine nm1 hw y M ?_;intro S1 o aa ⟨t4,r4⟩;have T:O≠u:=fun e=>Jb hr (by grind);have r1:=o.A hr;obtain⟨ab,ad,i,_,_,put,_⟩:=(K.F o).H;rw[r1]at i;injection i with _ i;injection i with _ i;injection i with _ i;injection i with i _;subst i;by_cases L:N=0;rotate_left
 ·rw[Xa L,Xa L];rw[Ja];simp[XZ,r1,L];exact⟨RunD.G o,K.F o⟩
 subst L;rw[Xd rfl,Xd rfl];rw[Ja];simp[XY,r1];simp[XZ,r1,r4];refine⟨JQ (v:= .e u 4) (w:= .e O 1) (q:=O) rfl rfl rfl (fun e=>T (by injection e with e;grind)), ?_⟩;obtain⟨R,W⟩:=put (S':=(S1.D u tw fun c=>Row.a c [V.e z 0,f,X,V.d IntKind.i64 m,V.d IntKind.i64 e]).D u S1.t fun c=>Row.a c [V.e z 0,f,X,V.d IntKind.i64 Q.a,V.d IntKind.i64 e]) (a':=Q.a) (er':=e) (((Ch.G (fun g=>g=u) o.D).J (Jb r1) (by rw[r1];rfl) (.inl rfl) (Jd _)).J (by rw[Jk];simp) (by rw[Jk];rfl) (.inl rfl) (Jd _)) ⟨_,Jk _ _ _ _⟩;exact⟨(RunD.G o).B R,W⟩
theorem JfT {nm:Str}(h:t<b.length):decide (nm∈b.take (t+1))=(decide (nm∈b.take t)||decide (b[t]=nm)):=by
 rw[ZN,Xg h]
 grind
theorem Jta {names:List Str}{id:Nat}(hW:WkD v k e q u r l f names x m 0 Y)(hn:NodC (fun b=>¬e b) k t (j+1) n Q)(al:names.length<100000)(am:x.length<100000):
  Dz 95 [.e q 0, .j n, .d .i64 (id:Nat)] k fun c S'=>c= .p []/\∃U',RunD v e k S' U'/\WkD v S' U' q u r l f names (if Q.A∈names then x++[(Q.A,id)]else x) (if Q.A∈names then m else Q.a) (if Q.A∈names then 0 else 15) Y:=by
 have hw:=hW.wf;refine Jl (aT Tryz.func95 rfl) rfl ?_;have ad:=hn;obtain⟨z4,z5,z6,z8,rfl,y4,y5,y6,y8⟩:=JhY hn;generalize ao:Q.A=nm at*;have N:=hW.i.G;rw[Jw]at N;obtain⟨n0,ae⟩:=nxE k;simp only[CT,Tryz.f95,XY,simprocAttr];rw[Ja];simp[XY,ae,y4.1,y5.1,y6.1,y8.1];generalize ag:up 0 n0=p4;refine nm1 hw ae ag ?_;intro S1 G1 ah ⟨t4,r4⟩;have W1:=hW.F G1;obtain⟨cv,tw,r1,ai,aj,put,af⟩:=W1.H;have ap:p4≠q:=fun g=>(hW.B ah).1 (by grind);rw[Ja];simp[XY];refine Jz (fun K S'=>K 0= .e q 0/\K 2= .d .i64 (id:Nat)/\K 4= .e p4 0/\K 6= .h (decide (nm∈names))/\S'=S1) (fun J hJ=> ?_) ?_
 ·rw[Ja];simp[XY];refine Jy (fun y K S'=>∃i:Nat,y+i=names.length/\K 0= .e q 0/\K 2= .d .i64 (id:Nat)/\K 4= .e p4 0/\K 6= .h (decide (nm∈names.take i))/\K 7= .d .i64 (i:Nat)/\S'=S1) names.length (by omega) ⟨0,by omega,rfl,rfl,rfl,by rfl,by rfl,rfl⟩ ?_;rintro L hL y K S2 ⟨i,hj,O,f2,f4,P,f7,rfl⟩;by_cases hi:i<names.length;rotate_left
  ·rw[Xr (by omega)]at P;simp[XZ,O,f7,r1,N,hi];exact hJ _ _ ⟨O,f2,f4,P,rfl⟩
  have M:=wiN (i:=i) (by omega);have T:=JfT (nm:=nm) hi;obtain⟨b,o,a1,a2⟩:=QQ W1.i hi
  cases hb:decide (nm∈names.take i)with
  | true=>
    rw[hb]at P T;simp[XZ,O,P,f7,r1,N,hi,M];exact⟨names.length-(i+1),by omega,hL _ _ _ ⟨i+1,by omega,O,f2,f4,by simp[XZ,T,Gi],rfl,rfl⟩⟩
  | false=>
    rw[hb,ZF]at T;rw[hb]at P;simp[XZ,O,f4,P,f7,r1,N,hi,M,a1,a2,r4];exact⟨names.length-(i+1),by omega,hL _ _ _ ⟨i+1,by omega,O,f2,f4,by simp[XZ,T],by rfl,rfl⟩⟩
 rintro K S2 ⟨O,f2,f4,P,rfl⟩;by_cases X:nm∈names;rotate_left
 ·rw[Xa X,Xa X,Xa X];rw[Je,Ja];simp[XY,P,Xq X];rw[Ja];simp[XY,O,f4,r4];refine Jc (JdN (e:=15) W1 (NodC.A G1.H ad)) ?_;rintro _ S3 ⟨rfl,R3,W3⟩;simp[XZ];exact⟨e,(RunD.G G1).B R3,W3⟩
 rw[Xd X,Xd X,Xd X];obtain⟨n3,W⟩:=nxE S2;have ow:=fun z=>nes (Jr G1.D W (Jb r1) z);have o4:=fun z=>nes (Jr G1.D W (Jb r4) z);rw[Je,Ja];simp[XY,P,Xo X];simp[XY,O,f2,f4,r1,r4,W];refine Jay G1.D W ai rfl rfl (by simp[clsE];omega) ?_;intro S4 v4 aa ab ak;have w4:S4.A q= .a tw [.e u 0,f,cv, .d .i64 m, .d .i64 0]:=(aa.d q (Jb r1) fun g=>(aj q g).2 rfl).trans r1;have k4:=ab.D.A;have k5:=ab.D.B;simp[XZ,w4,k4,k5];obtain⟨U',R,hk⟩:=af (cs':=x++[(nm,id)]) aa (by rw[clsE,ZA];exact ab) ak ((Ch.G _ aa.D).J (Jb w4) (congrArg _ w4) (.inl rfl) (Jd [.e u 0,f,v4, .d .i64 m, .d .i64 0])) ⟨_,Jk _ _ _ _⟩;exact⟨U',(RunD.G G1).B R,hk⟩
theorem JfU {p:Int×List Str×Nat->Bool}(h:t<z.length):(z.take (t+1)).any p=((z.take t).any p||p z[t]):=by
 rw[ZN,Xg h,List.any_append];simp
theorem Jt5 {names:List Str}{E:EnvS}{id:Nat}(hW:WkD v k e q u r l f names x m 0 Y)(hE:EnvC (fun o=>¬e o) k n E)(hK:EnvK l E)(hn:NodC (fun o=>¬e o) k t (j+1) g Q):
  Dz 94 [.e q 0, .j n, .j g, .d .i64 (id:Nat)] k fun z S'=>z= .p []/\RunD v e k S' e/\WkD v S' e q u r l f names x (if setS E Q.A id=0 then m else Q.a) (setS E Q.A id) Y:=by
 have hw:=hW.wf;refine Jl (aT Tryz.func94 rfl) rfl ?_;have W:=hn;have ai:=hE;obtain⟨vv,av,rfl,h1,h2,c1,c2⟩:=Ki hE;obtain⟨z4,z5,z6,z8,rfl,y4,y5,y6,y8⟩:=JhY hn;have ln:=h2.H;obtain⟨n0,ad⟩:=nxE k;simp only[CT,Tryz.f94,XY,simprocAttr];rw[Ja];simp[XY,ad,c1.1,c2.1,y4.1,y5.1,y6.1,y8.1];generalize aj:up 0 n0=p5;generalize ak:up 1 n0=p6;refine nm2 hw ad aj ak ?_;intro S1 G1 al am aw ⟨t5,r5⟩ ⟨t6,r6⟩;rw[Ja];simp[XY,r5,r6];refine Jc (findD G1.D (ai.A G1.H) hK.e Q.A) ?_;rintro _ S2 ⟨G2,rfl⟩;have P:=G1.B G2;have r52:=G2.A r5;have r62:=G2.A r6;have W2:=hW.F P;have ae:NodC (fun o=>¬e o) S2 t (j+1) _ Q:=NodC.A P.H W;simp[XY]
 cases ab:QJ E.a Q.A with
 | none=>
   have hs:setS E Q.A id=15:=by unfold setS;rw[ab]
   have hz:QK E Q.A<0:=by
    unfold QK KO
    grind
   rw[hs];rw[Je,Ja];simp[XY,hz];rw[Ja];simp[XY,r62];refine Jc (JdN (e:=15) W2 ae) ?_;rintro _ S3 ⟨rfl,R3,W3⟩;simp[XZ];exact⟨(RunD.G P).B R3,W3⟩
 | some c=>
   have ao:=Jfq ab;have ax:Q.A≠[]:=fun h=>by
    have ap:∀(K:List (Str×Nat)) {i:Nat},QJ K Q.A=some i->∃M∈K,M.1=Q.A:=by
     intro K
     induction K with
     |nil=>intro i h;cases h
     | cons y o ih=>
       intro i h;rw[QJ]at h
       grind
    obtain⟨M,hx,n⟩:=ap _ ab;exact(hK.b M hx).2 (n.trans h)
   have hz:QK E Q.A=(c:Nat):=by
    unfold QK KO
    grind
   have aq:¬((c:Nat):Int)<0:=by omega
   obtain⟨rv,qv,v1,v2,v3⟩:=JhX (h1.H P) ao;have af:¬e rv/\S2.A rv≠ .none:=by
    obtain⟨o,N,e1,e2,e3,_⟩:=(h1.H P).I (i:=c) (by grind)
    grind
   have hs:setS E Q.A id=if(E.b.any fun M=>decide (M.1=(c:Int)))=true\/E.a[c].2≠id then 17 else 0:=by
    unfold setS
    grind
   rw[hs,hz];rw[Je,Ja];simp[XY,aq];obtain⟨J,hJ⟩:=opE fun T S'=>T 0= .e q 0/\T 3= .d .i64 (id:Nat)/\T 5= .e p5 0/\T 6= .e p6 0/\T 8= .d .i64 (c:Nat)/\RunD v e S2 S' e/\WkD v S' e q u r l f names x (if(E.b.any fun M=>decide (M.1=(c:Int)))=true then Q.a else m) (if(E.b.any fun M=>decide (M.1=(c:Int)))=true then 17 else 0) Y;have u5:¬e p5:=(hW.B al).1;have u6:¬e p6:=(hW.B am).1;refine QE J ?_ ?_
   ·rw[Ja];simp[XY];refine Jy (fun O T S'=>∃i:Nat,O+i=E.b.length/\T 0= .e q 0/\T 3= .d .i64 (id:Nat)/\T 5= .e p5 0/\T 6= .e p6 0/\T 8= .d .i64 (c:Nat)/\T 9= .d .i64 (i:Nat)/\RunD v e S2 S' e/\WkD v S' e q u r l f names x (if((E.b.take i).any fun M=>decide (M.1=(c:Int)))=true then Q.a else m) (if((E.b.take i).any fun M=>decide (M.1=(c:Int)))=true then 17 else 0) Y) E.b.length (by have:=hK.d;omega) ⟨0,by omega,rfl,rfl,rfl,rfl,rfl,by rfl,RunD.H W2.wf,W2⟩ ?_;rintro L hL O T S3 ⟨i,hj,f0,f3,f5,f6,f8,f9,R3,W3⟩;have K3:=R3.D;have r53:=(K3 p5 (Jb r52) u5).1.trans r52;have r63:=(K3 p6 (Jb r62) u6).1.trans r62;by_cases hi:i<E.b.length;rotate_left
    ·rw[Xr (by omega)]at W3;simp[XZ,f5,f9,r53,ln,hi];exact(hJ _ _).2 ⟨f0,f3,f5,f6,f8,R3,W3⟩
    have X:IntKind.i64.wrap ((i:Int)+1)=((i+1:Nat):Int):=by rw[JV (by omega) (by have:=hK.d;omega)];rfl
    have kk:∀o,¬e o->k.A o≠ .none->¬e o/\S3.A o=k.A o:=fun o m b=>⟨m,by rw[(K3 o (by rw[P.d o b];exact b) m).1,P.d o b]⟩
    obtain⟨ra,qa,na,e1,e2,_,_,_⟩:=JpR (h2.B (fun _ _ h=>h.A kk) kk) hi;have ag:=JfU (p:=fun M:Int×List Str×Nat=>decide (M.1=(c:Int))) hi;rw[Je,Ja];simp[XY,f5,f9,r53,ln,hi];rw[Je];simp[XY];by_cases hx:E.b[i].1=(c:Int)
    ·rw[Xo hx,Bool.or_true]at ag;rw[Ja];simp[XY,f5,f8,f9,r53,e1,e2,hx];simp[XY,f0,f6,r63];refine Jc (JdN (e:=17) W3 (NodC.A kk W)) ?_;rintro _ S4 ⟨rfl,R4,W4⟩;simp[XZ,f9,X];refine⟨E.b.length-(i+1),by omega,hL _ _ _ ⟨i+1,by omega,f0,f3,f5,f6,f8,rfl,R3.B R4, ?_⟩⟩
     grind
    ·rw[Xq hx,GP]at ag;rw[Ja];simp[XZ,f5,f8,f9,r53,e1,e2,hx,X];exact⟨E.b.length-(i+1),by omega,hL _ _ _ ⟨i+1,by omega,f0,f3,f5,f6,f8,rfl,R3,by grind⟩⟩
   intro T S3 ar;obtain⟨f0,f3,f5,f6,f8,R3,W3⟩:=(hJ _ _).1 ar;have K3:=R3.D;have r53:=(K3 p5 (Jb r52) u5).1.trans r52;have r63:=(K3 p6 (Jb r62) u6).1.trans r62;have kk:∀o,¬e o->k.A o≠ .none->¬e o/\S3.A o=k.A o:=fun o m b=>⟨m,by rw[(K3 o (by rw[P.d o b];exact b) m).1,P.d o b]⟩
   have ah:ld1 (S3.A rv) (qv+1)=some (.d .i64 (E.a[c].2:Nat), .a):=by rw[(K3 rv af.2 af.1).1];exact v3
   have au:=(RunD.G (Z:=v) P).B R3;generalize (E.b.any fun M=>decide (M.1=(c:Int)))=b at*;by_cases hid:E.a[c].2=id
   ·have aa:((E.a[c].2:Nat):Int)=(id:Nat):=by omega
    rw[Ja];simp[XZ,f3,f5,f8,r53,v1,ah,aa]
    grind
   ·have aa:¬((E.a[c].2:Nat):Int)=(id:Nat):=by omega
    rw[Ja];simp[XY,f3,f5,f8,r53,v1,ah,aa];simp[XY,f0,f6,r63];refine Jc (JdN (e:=17) W3 (NodC.A kk W)) ?_;rintro _ S4 ⟨rfl,R4,W4⟩;simp[XZ];refine⟨au.B R4, ?_⟩
    grind
theorem Jnn {P:Pt->Prop}{es:List (List V)}{ne:List V}(h:SlAt v k f 3 (es++[ne]))(d:es.length=z.length)(j:∀i (a:i<es.length) (b:i<z.length),NarC P k es[i] z[i])(m:NarC P k ne T)(c:∀r,P r->v r):LstAt (NarC v k) v k f 3 (z++[T]):=by
 refine⟨es++[ne],h,by simp[d],fun i a b=> ?_⟩;have e:∀r,P r->k.A r≠ .none->v r/\k.A r=k.A r:=fun r p _=>⟨c r p,rfl⟩
 by_cases g:i<es.length
 ·rw[Xx g,Xx (by omega)];exact(j i g (by omega)).A e
 ·have:i=es.length:=by grind
  subst this;rw[XG (Xb _),XG (by omega)];simp[d];exact m.A e
theorem Jtb {E:EnvS}(hw:WF k)(hE:EnvC v k n E)(hN:NarC v k g T)(hl:E.b.length<100000):
  Dz 145 [.j n, .j g] k fun f S'=>Gr k S'/\∃e',f= .j e'/\EnvC (fun r=>v r\/k.A r= .none) S' e' (KB E T):=by
 refine Jn tabM (aT Tryz.func145 rfl) rfl hw fun K al=> ?_;obtain⟨vv,a2,rfl,h1,h2,c1,c2⟩:=Ki hE;obtain⟨es,n1,n2,n3⟩:=h2;have am:=hN;obtain⟨pv,rfl,hp⟩:=hN;have d1:=hp.A;have d2:=hp.B;obtain⟨n0,ab⟩:=nxE k;simp only[CT,Tryz.f145,XY,simprocAttr];rw[Ja];simp[XY,ab,c1.1,c2.1,d2];generalize ao:up 0 n0=p2;generalize ap:up 1 n0=p3;generalize aq:up 2 n0=p4;refine nm3 hw ab ao ap aq ?_;intro O G1 ⟨ar,a3,a4⟩ ⟨a5,au,a6⟩ ⟨t2,r2⟩ ⟨t3,r3⟩ ⟨t4,r4⟩;have w1:=G1.D;obtain⟨nA,M⟩:=nxE O;have o2:=fun o=>nes (Jr w1 M (Jb r2) o);rw[Ja];simp[XY,r2,M,o2];obtain⟨x0,Q⟩:=exE (up 0 nA);obtain⟨S2,N⟩:=exE (O.B fun t=>Row.a t []);have G2:Gr O S2:=by rw[N];exact Gr.G w1 (Jd _)
 obtain⟨t1,r1⟩:∃t,S2.A x0= .a t []:=⟨_,by rw[N,Q];simp[XZ,M];rfl⟩
 have av:O.A x0= .none:=by rw[Q];exact nx0 w1 M 0
 rw[<-N,<-Q];clear N;have aw:∀r,O.A r= .none->k.A r= .none:=fun r n=>G1.I n;have ax:SlF k S2 (.m x0 0 0 3 0) 3 []:=⟨by simp, .inr ⟨x0,t1,aw _ av,by grind, .inr rfl⟩⟩
 have ad:=G1.B G2;have nx:∀p,O.A p≠ .none->rowOf (.m x0 0 0 3 0)≠some p:=fun p h n=>by
  injection n with n
  grind
 refine Qw (S0:=k) ad ax (n1.H ad) (Jd4 n2 n3) (by omega) (by grind) fun Sa v1 ga ae af U=> ?_;simp at ae;have kS:∀{p:Pt} {t:Nat} {l:List V},O.A p= .a t l->Sa.A p= .a t l:=fun{p t l} h=>(U p (by rw[G2.d p (Jb h)];grind) (nx p (Jb h))).trans (G2.A h);have W:=kS r2;have ay:=kS r3;have ag:=kS r4;obtain⟨nB,ah⟩:=nxE Sa;have wa:=ga.D;have a7:=fun o=>nes (Jr wa ah (Jb W) o);simp[XY,ay,ah,d2];obtain⟨Sb,X⟩:=exE (Sa.B fun t=>Row.a t [.d .i64 T.1,pv, .d .i64 (T.2.2:Nat)]);have Y:Gr Sa Sb:=by rw[X];exact Gr.G wa (Jd _)
 have ai:SlAt (fun r=>r=up 0 nB) Sb (.m (up 0 nB) 0 1 3 1) 3 [[.d .i64 T.1,pv, .d .i64 (T.2.2:Nat)]]:=by
  have:=Ql (st:=Sa) (z:=3) (e:=[.d .i64 T.1,pv, .d .i64 (T.2.2:Nat)]) rfl
  grind
 rw[<-X];clear X;refine QG (S0:=k) (ga.B Y) (ae.G Y) ai (fun n he=>by rw[Xn.1 he];simp[KN,QB,Jbu,d2]) (by simp) (by simp) (by grind) ?_;intro Sc v2 gc Z az a0;have aj:∀p,rowOf v1=some p->p≠p2/\p≠p3/\p≠p4:=fun p n=>by
  have a8:O.A p= .none:=by
   rcases af with h|h
   ·grind
   ·rw[h]at n;injection n with n;rw[<-n];exact G2.I (J9 G2.D)
  grind
 have kc:∀{p:Pt} {t:Nat} {l:List V},Sa.A p= .a t l->rowOf v1≠some p->Sc.A p= .a t l:=fun{p t l} h s=>(a0 p (by rw[Y.d p (Jb h)];grind) s).trans (Y.A h);have aa:=kc W fun n=>(aj _ n).1 rfl;have a1:=kc ag fun n=>(aj _ n).2.2 rfl;have s2:=Z.D.B;have s3:=Z.D.A;simp[XY,aa,s2,s3];refine⟨JQ (v:= .m x0 0 0 3 0) (w:= .e p3 0) (q:=p3) rfl rfl rfl fun n=>Jb r3 (by grind), ?_⟩;obtain⟨S5,L⟩:=exE (Sc.D p2 t2 fun u=> .a u [.d .i64 (E.c:Nat),vv,v2]);have g5:Gr k S5:=by rw[L];exact gc.J ar (Jb aa) (by rw[aa];rfl) (Jd _)
 obtain⟨t5,r25⟩:∃t,S5.A p2= .a t [.d .i64 (E.c:Nat),vv,v2]:=⟨_,by rw[L];exact Jk _ _ _ _⟩
 have k5:∀r,r≠p2->S5.A r=Sc.A r:=fun r n=>by rw[L,Ji _ _ _ n]
 rw[<-L];clear L;have r45:=(k5 p4 (Ne.symm au)).trans a1;have ak:∀r,rowOf v2=some r->r≠p2/\r≠p4:=fun r n=>by
  rw[az]at n;injection n with n;have s:=J9 Y.D;rw[n]at s;exact⟨fun T=>Jb (Y.A W) (by grind),fun T=>Jb (Y.A ag) (by grind)⟩
 have h5:SlF k S5 v2 3 (es++[[.d .i64 T.1,pv, .d .i64 (T.2.2:Nat)]]):=Z.B fun r n=>k5 r (ak r n).1;rw[Ja];simp[XZ,r25,r45,c1.1,s2];have kf:∀{t:Nat} {l:List V} {r:Pt},r≠p4->(S5.D p4 t fun u=> .a u l).A r=S5.A r:=fun{t l r} n=>Ji _ _ _ n;refine al _ _ (fun r n=>by rw[kf fun T=>n (by grind),g5.d r n]) fun y=>⟨_,rfl,vv,v2,rfl,h1.D fun r a b=>⟨.inl a,by rw[y.d r b]⟩, ?_⟩
 refine Jnn (P:=fun r=>v r\/k.A r= .none) (es:=es) (ne:=[.d .i64 T.1,pv, .d .i64 (T.2.2:Nat)]) ((h5.B fun r n=>kf (ak r n).2).D.D fun r a _=>⟨.inr a,rfl⟩) n2 (fun i a b=>(n3 i a b).A fun r p q=>⟨.inl p,by rw[y.d r q]⟩) (am.A fun r p q=>⟨.inl p,by rw[y.d r q]⟩) fun r a=>a
theorem Jno (h:t<z.length):offD (z.take (t+1))=if z[t].1≠-1 then offD (z.take t)++[z[t]]else offD (z.take t):=by
 rw[ZN,Xg h];unfold offD
 grind
theorem Jd5 {E:EnvS}{id:Nat}(hw:WF X)(hE:EnvC v X n E)(hv:E.a.length<100000)(hl:E.b.length<100000)(hm:∀x∈E.b,-1<=x.1):
  Dz 146 [.j n, .d .i64 (id:Nat)] X fun f U=>Gr X U/\∃e',f= .j e'/\EnvC (fun r=>v r\/X.A r= .none) U e' (KJ E id):=by
 refine Jn tabM (aT Tryz.func146 rfl) rfl hw fun K a0=> ?_;obtain⟨vv,al,rfl,h1,h2,c1,c2⟩:=Ki hE;have ln:=h2.H;obtain⟨n0,am⟩:=nxE X;simp only[CT,Tryz.f146,XY,simprocAttr];rw[Ja];simp[XY,am,c1.1,c2.1];generalize a1:up 0 n0=p2;generalize a2:up 1 n0=W;refine nm2 hw am a1 a2 ?_;intro S1 G1 bm bn bo ⟨t2,r2⟩ ⟨t4,r4⟩;have w1:=G1.D;obtain⟨nA,Y⟩:=nxE S1;have o2:=fun k=>nes (Jr w1 Y (Jb r2) k);rw[Ja];simp[XY,r2,Y,o2];obtain⟨x0,ae⟩:=exE (up 0 nA);obtain⟨S2,Z⟩:=exE (S1.B fun t=>Row.a t []);have G2:Gr S1 S2:=by rw[Z];exact Gr.G w1 (Jd _)
 obtain⟨t1,r1⟩:∃t,S2.A x0= .a t []:=⟨_,by rw[Z,ae];simp[XZ,Y];rfl⟩
 have a3:S1.A x0= .none:=by rw[ae];exact nx0 w1 Y 0
 rw[<-Z,<-ae];clear Z;have a4:∀r,S1.A r= .none->X.A r= .none:=fun r n=>G1.I n;have a5:SlF X S2 (.m x0 0 0 2 0) 2 []:=⟨by simp, .inr ⟨x0,t1,a4 _ a3,by grind, .inr rfl⟩⟩
 have ao:=G1.B G2;have nx:∀p,S1.A p≠ .none->rowOf (.m x0 0 0 2 0)≠some p:=fun p h n=>by
  injection n with n
  grind
 refine Qw (S0:=X) ao a5 (h1.H ao) (Jcq _) (by grind) (by grind) fun Sa y ga M ap af=> ?_;simp at M;have kS:∀{p:Pt} {t:Nat} {l:List V},S1.A p= .a t l->Sa.A p= .a t l:=fun{p t l} h=>(af p (by rw[G2.d p (Jb h)];grind) (nx p (Jb h))).trans (G2.A h);have aq:=kS r2;have ar:=kS r4;have s1:=M.D.B;have a6:=M.D.A;obtain⟨nB,au⟩:=nxE Sa;simp[XY,au,s1,a6];generalize a7:up 0 nB=w;refine nmA ga.D au a7 ?_;intro S3 G3 av ⟨t5,r5⟩;have a8:=ga.B G3;have a9:X.A w= .none:=ga.I av;have ba:=M.G G3;have r23:=G3.A aq;have r43:=G3.A ar;have bb:rowOf y≠some w:=fun n=>M.A n av;have ab:∀p,rowOf y=some p->S1.A p= .none:=fun p n=>by
  rcases ap with h|h
  ·grind
  ·rw[h]at n;injection n with n;rw[<-n];exact G2.I (J9 G2.D)
 have bp:rowOf y≠some p2:=fun n=>Jb r2 (ab _ n);have bc:rowOf y≠some W:=fun n=>Jb r4 (ab _ n);have bd:p2≠w:=fun n=>Jb aq (by grind);have be:W≠w:=fun n=>Jb ar (by grind);rw[Je,Ja];simp[XY];refine Jy (fun j fr U=>∃(i:Nat) (v2:V) (N:List (List V)) (t:Nat),j+i=E.b.length/\fr 2= .e p2 0/\fr 4= .e W 0/\fr 5= .e w 0/\fr 6= .d .i64 (i:Nat)/\Gr X U/\U.A p2= .a t2 [.d .i64 (E.c:Nat),vv,al]/\U.A W= .a t4 [.d .i64 0, .g, .g]/\U.A w= .a t [.d .i64 (id:Nat),y,v2]/\SlF X U y 2 (E.a.map varE)/\SlF X U v2 3 N/\N.length=(offD (E.b.take i)).length/\N.length<=i/\(∀k (a:k<N.length) (b:k<(offD (E.b.take i)).length),NarC (fun r=>v r/\X.A r≠ .none) U N[k] (offD (E.b.take i))[k])/\(∀r,rowOf v2=some r->r≠p2/\r≠W/\r≠w/\rowOf y≠some r)) E.b.length (by omega) ⟨0, .g,[],t5,by omega,rfl,rfl,rfl,by rfl,a8,r23,r43,r5,ba,SlF.I _ _ _,rfl,XC _,fun k a=>absurd a (XO _),fun r n=>by cases n⟩ ?_;rintro L hL j fr s ⟨i,v2,N,t,hj,f2,f4,f5,f6,g,q2,q4,q5,b1,b2,b3,bq,b4,b5⟩;by_cases hi:i<E.b.length;rotate_left
 ·rw[Xr (by omega)]at b3 b4;have s2:=b2.D.B;have br:=b2.D.A;have s3:=b1.D.B;have bt:=b1.D.A;simp[XZ,f2,f4,f5,f6,q2,q4,q5,ln,hi,s2,s3];have kf:∀{t:Nat} {l:List V} {r:Pt},r≠W->(s.D W t fun u=> .a u l).A r=s.A r:=fun{t l r} n=>Ji _ _ _ n;refine a0 _ _ (fun r n=>by rw[kf fun x=>n (by grind),g.d r n]) fun G=>⟨_,rfl,y,v2,rfl,(b1.B fun r n=>kf fun x=>bc (by grind)).D.D fun r a _=>⟨.inr a,rfl⟩,N,(b2.B fun r n=>kf (b5 r n).2.1).D.D fun r a _=>⟨.inr a,rfl⟩,b3,fun k a b=> ?_⟩
  have:=b4 k a b;exact this.A fun r p q=>⟨.inl p.1,by rw[G.d r p.2,g.d r p.2]⟩
 have O:=wiN (i:=i) (by omega);have bf:LstAt (NarC (fun r=>v r/\X.A r≠ .none) s) (fun r=>v r/\X.A r≠ .none) s al 3 E.b:=h2.B (fun _ _ h=>h.A fun r a b=>⟨⟨a,b⟩,g.d r b⟩) fun r a b=>⟨⟨a,b⟩,g.d r b⟩
 obtain⟨ra,qa,ea,e1,_,e3,e4,e5,e6,e7⟩:=bf.A hi;have ag:=e7 0 (by omega);have bu:=hm _ (Xh hi);have aa:=Jno hi;have bg:=e5;obtain⟨pa,rfl,aw⟩:=e5;simp at ag;have d1:=aw.A;have d2:=aw.B;generalize E.b[i]=x at*;have o2:=fun{o:Pt} (h:s.b=up 0 o) k=>nes (Jr g.D h (Jb q2) k);have o5:=fun{o:Pt} (h:s.b=up 0 o) k=>nes (Jr g.D h (Jb q5) k);rw[Je,Ja];simp[XY,f2,f6,q2,ln,hi];rw[Je];simp[XY];by_cases hx:x.1≥0;rotate_left
 ·rw[Xa (by omega)]at aa;rw[<-aa]at b3 b4;rw[Ja];simp[XZ,f2,f6,q2,e1,ag,hx,O];exact⟨E.b.length-(i+1),by omega,hL _ _ _ ⟨i+1,v2,N,t,by omega,f2,f4,f5,rfl,g,q2,q4,q5,b1,b2,b3,by omega,b4,b5⟩⟩
 rw[Xd (by omega)]at aa;obtain⟨nC,ah⟩:=nxE s;have o2:=o2 ah;have o5:=o5 ah;rw[Ja];simp[XY,f2,f6,q2,e1,ag,hx];simp[XY,f2,f5,f6,q2,q5,e1,e4,ah,d2];obtain⟨Sb,ai⟩:=exE (s.B fun t=>Row.a t [.d .i64 x.1,pa, .d .i64 (x.2.2:Nat)]);have Q:Gr s Sb:=by rw[ai];exact Gr.G g.D (Jd _)
 have ax:SlAt (fun r=>r=up 0 nC) Sb (.m (up 0 nC) 0 1 3 1) 3 [[.d .i64 x.1,pa, .d .i64 (x.2.2:Nat)]]:=by
  have:=Ql (st:=s) (z:=3) (e:=[.d .i64 x.1,pa, .d .i64 (x.2.2:Nat)]) rfl
  grind
 rw[<-ai];clear ai;refine QG (S0:=X) (g.B Q) (b2.G Q) ax (fun n he=>by rw[Xn.1 he];simp[KN,QB,Jbu,d2]) (by simp) (by simp) (by grind) ?_;intro Sc v3 gc aj bh ay;have kc:∀{p:Pt} {t:Nat} {l:List V},s.A p= .a t l->rowOf v2≠some p->Sc.A p= .a t l:=fun{p t l} h o=>(ay p (by rw[Q.d p (Jb h)];grind) o).trans (Q.A h);have bi:=kc q2 fun n=>(b5 _ n).1 rfl;have bj:=kc q4 fun n=>(b5 _ n).2.1 rfl;have ak:=kc q5 fun n=>(b5 _ n).2.2.1 rfl;have s2:=aj.D.B;have s3:=aj.D.A;simp[XZ,f5,f6,ak,s2,s3,O];obtain⟨S5,T⟩:=exE (Sc.D w t fun u=> .a u [.d .i64 (id:Nat),y,v3]);have g5:Gr X S5:=by rw[T];exact gc.J a9 (Jb ak) (by rw[ak];rfl) (Jd _)
 obtain⟨bk,r55⟩:∃t,S5.A w= .a t [.d .i64 (id:Nat),y,v3]:=⟨_,by rw[T];exact Jk _ _ _ _⟩
 have k5:∀r,r≠w->S5.A r=Sc.A r:=fun r n=>by rw[T,Ji _ _ _ n]
 rw[<-T];clear T;have az:∀r,rowOf v3=some r->r≠p2/\r≠W/\r≠w/\rowOf y≠some r:=fun r n=>by
  rw[bh]at n;injection n with n;have o:=J9 Q.D;rw[n]at o;exact⟨fun x=>Jb (Q.A q2) (by grind),fun x=>Jb (Q.A q4) (by grind),fun x=>Jb (Q.A q5) (by grind),fun x=>(b1.G Q).A x o⟩
 have bl:∀r,s.A r≠ .none->r≠w->rowOf v2≠some r->S5.A r=s.A r:=fun r a b c=>by rw[k5 r b,ay r (by rw[Q.d r a];exact a) c,Q.d r a]
 have ad:∀r,v r/\X.A r≠ .none->s.A r≠ .none->(v r/\X.A r≠ .none)/\S5.A r=s.A r:=fun r p q=>⟨p,by rw[g5.d r p.2,g.d r p.2]⟩
 refine⟨E.b.length-(i+1),by omega,hL _ _ _ ⟨i+1,v3,N++[[.d .i64 x.1,pa, .d .i64 (x.2.2:Nat)]],bk,by omega,f2,f4,f5,rfl,g5,(k5 p2 bd).trans bi,(k5 W be).trans bj,r55,b1.B fun r n=>bl r (b1.A n) (fun x=>bb (by grind)) fun x=>(b5 r x).2.2.2 n,aj.B fun r n=>k5 r (az r n).2.2.1,by grind,by grind,fun k a b=> ?_,az⟩⟩;simp[aa]at b⊢;by_cases hk:k<N.length
 ·rw[Xx hk,Xx (by omega)];exact(b4 k hk (by omega)).A ad
 ·have:k=N.length:=by grind
  subst this;rw[XG (Xb _),XG (by omega)];simp[b3];exact bg.A ad
theorem _root_.Eva.SlAt.F (h:SlAt v k f t W)(e:rowOf f=some q):v q/\k.A q≠ .none:=by
 rcases h.2 with⟨rfl,_⟩|⟨a,o,g,i,l,d,_⟩
 ·cases e
 ·have:q=a:=by rcases i with rfl|⟨c,_,rfl⟩<;>(injection e with e;grind)
  subst this;refine⟨g,fun c=> ?_⟩;rcases d with⟨b,d⟩|d<;>(grind)
section
variable {Z U U1 : Pt -> Prop} {S S' : St} {w ru : Pt} {s : Sch} {tb : Tb} {nv : V} {names : List Str} {cs : Cls} {a er : Int} {ok : Prop}
theorem atF {id:Nat}(h:DT Z S U ru s tb)(hO:OfF s tb)(hid:id<tb.a.length):
  Dz 81 [.e ru 0, .d .i64 (id:Nat)] S fun v S'=>Gr S S'/\∃x y,v= .j [.d .i64 (Jg tb id).a,ofL (Jg tb id).d,x,y]/\SlAt (fun r=>U r\/Z r) S' x 1 (strs (Jg tb id).b)/\SlAt (fun r=>U r\/Z r) S' y 1 (ints (Jg tb id).c)/\DT (fun r=>Z r\/(rowOf x=some r\/rowOf y=some r)) S' (fun r=>U r/\¬(rowOf x=some r\/rowOf y=some r)) ru s tb:=by
 have hw:=h.wf;refine Jn tabM (aT Tryz.func81 rfl) rfl hw fun K X=> ?_;obtain⟨o1,o2,o3,o4,o5,o6⟩:=hO.B hid;obtain⟨T,lv,tv,dv,nv,kv,sv,Y,O,tr,aa,N,b1,b2,b3,b4,b5⟩:=h.i;obtain⟨t,hc⟩:=N.a.d;obtain⟨es,l1,l2,l3⟩:=N.a.l;obtain⟨n0,m⟩:=nxE S;simp only[CT,Tryz.f81,XY,simprocAttr];rw[Ja];simp[XY,m];generalize ab:up 0 n0=P;refine nm1 hw m ab ?_;intro Q W af ⟨t4,r4⟩;obtain⟨ag,ad⟩:=(h.B W).H hO.l;rw[Ja];simp[XY];refine Jc (JpE ad o1) ?_;rintro _ _ ⟨rfl,rfl⟩;have ae:=W.A hc;generalize (Ku tb (tb.a.length+1) id).1=o at o2 o3;obtain⟨r,q,a1,_,_,a4,_⟩:=(l1.G W).D.I (i:=o) (by omega);obtain⟨n,p,he,w,z⟩:=l3 o (by omega) o2;have hN:tb.a[o]=Jg tb id:=by grind
 rw[hN]at he w z;generalize Jg tb id=M at*;rw[he]at a4;have c1:=w.A;have c2:=w.B;have c3:=z.A;have c4:=z.B;simp[XY];rw[Ja];simp[XZ,ae,a1,a4,r4,c2,c4];have g3:∀r,r≠P->(Q.D P t4 fun u=>Row.a u [.d .i64 M.a,ofL M.d,n,p]).A r=Q.A r:=fun r e=>Ji _ _ _ e;have k:∀r,S.A r≠ .none->(Q.D P t4 fun u=>Row.a u [.d .i64 M.a,ofL M.d,n,p]).A r=S.A r:=fun r e=>by rw[g3 r fun x=>e (by grind),W.d r e]
 have L:∀r,O r->S.A r≠ .none->(U r\/Z r)/\(Q.D P t4 fun u=>Row.a u [.d .i64 M.a,ofL M.d,n,p]).A r=S.A r:=fun r o e=>⟨b5 r o,k r e⟩
 have gO:∀r,(rowOf n=some r\/rowOf p=some r)->O r:=fun r e=>e.elim (fun e=>(w.F e).1) fun e=>(z.F e).1;refine X _ _ k fun g=>⟨n,p,rfl,w.D L,z.D L, ?_⟩
 have D:=h.B g;obtain⟨ah,m1,_⟩:=N.a.l;obtain⟨ai,m2,_⟩:=N.a.t;refine⟨D.wf,⟨T,lv,tv,dv,nv,kv,sv,Y,O,tr,aa,JhT N D.wf (fun r t e=>⟨t,k r e⟩) fun r e=>⟨(JbJ N r e).1,k r (JbJ N r e).2⟩,b1,b2.B (fun _ _ x=>x.A fun r t e=>⟨t,k r e⟩) fun r t e=>⟨t,k r e⟩,fun r t=> ?_,fun r e=>⟨b4 r e,fun G=> ?_⟩,fun r o=> ?_⟩,fun r u=> ?_⟩
 ·grind
 ·have o:=gO r G;obtain⟨_,_,k1,k2,k3⟩:=N.a.o r o;rcases e with e|e|e|e
  ·grind
  ·grind
  ·grind
  ·exact N.c r e (.inr (.inr (.inr o)))
 ·grind
 ·rcases u with u|u|u
  ·exact D.f r (.inl u.1)
  ·exact D.f r (.inr u)
  ·exact D.f r (b5 r (gO r u))
theorem atW {id:Nat}(p:WkD Z S U w ru s tb nv names cs a er True)(hO:OfF s tb)(hid:id<tb.a.length):
  Dz 81 [.e ru 0, .d .i64 (id:Nat)] S fun v S'=>Gr S S'/\∃x y,v= .j [.d .i64 (Jg tb id).a,ofL (Jg tb id).d,x,y]/\(∀r,(rowOf x=some r\/rowOf y=some r)->U r\/Z r)/\SlAt (fun r=>¬(U r/\¬(rowOf x=some r\/rowOf y=some r))) S' x 1 (strs (Jg tb id).b)/\SlAt (fun r=>¬(U r/\¬(rowOf x=some r\/rowOf y=some r))) S' y 1 (ints (Jg tb id).c)/\WkD (fun r=>Z r\/(rowOf x=some r\/rowOf y=some r)) S' (fun r=>U r/\¬(rowOf x=some r\/rowOf y=some r)) w ru s tb nv names cs a er True:=by
 obtain⟨T,cv,t,h1,M,h3,X,N⟩:=p.L;have D:=h1 trivial;refine(atF D hO hid).A ?_;rintro _ S' ⟨G,x,y,rfl,Y,k2,k3⟩;have O:∀r,(rowOf x=some r\/rowOf y=some r)->T r\/Z r:=fun r e=>e.elim (fun e=>(Y.F e).1) fun e=>(k2.F e).1;have K:∀r,(rowOf x=some r\/rowOf y=some r)->U r\/Z r:=fun r e=>(O r e).imp (fun u=>(M r u).1) fun z=>z;have f:∀{v:V} {Q:List (List V)} {P:Pt->Prop},SlAt P S' v 1 Q->(∀r,rowOf v=some r->rowOf x=some r\/rowOf y=some r)->SlAt (fun r=>¬(U r/\¬(rowOf x=some r\/rowOf y=some r))) S' v 1 Q:=fun{v Q P} h k=>by
  refine⟨h.1, ?_⟩;rcases h.2 with e|⟨q,o,hp,hv,l,hl,m⟩
  ·grind
  ·exact .inr ⟨q,o,fun c=>c.2 (k q (by rcases hv with rfl|⟨c,_,rfl⟩<;>rfl)),hv,l,hl,m⟩
 have W:=p.F G;refine⟨G,x,y,rfl,K,f Y fun r e=> .inl e,f k2 fun r e=> .inr e,⟨W.wf,⟨fun r=>T r/\¬(rowOf x=some r\/rowOf y=some r),cv,t,fun _=>k3,fun r u=>⟨⟨(M r u.1).1,u.2⟩,(M r u.1).2⟩,G.A h3,X.B fun r e=>G.d r (X.A e),fun r e=>⟨⟨(N r e).1,fun g=> ?_⟩,(N r e).2⟩⟩,⟨p.j,fun g=> ?_⟩,fun r u=> ?_,fun r u=> ?_,W.i.D fun r n _=>⟨fun u=>n u.1,rfl⟩⟩⟩
 ·rcases O r g with u|u
  ·grind
  ·exact p.y r (N r e).1 u
 ·rcases O w g with u|u
  ·grind
  ·exact p.y w p.j u
 ·rcases u with u|u|u
  ·exact W.d r (.inl u.1)
  ·exact W.d r (.inr u)
  ·exact W.d r (K r u)
 ·exact fun z=>z.elim (p.y r u.1) u.2
theorem WkD.P {G:Pt->Prop}(x:∀r,G r->U r\/Z r)(b:SlAt (fun r=>¬U r) S nv 1 (strs names))(R:RunD (fun r=>Z r\/G r) (fun r=>U r/\¬G r) S S' U1)(h:WkD (fun r=>Z r\/G r) S' U1 w ru s tb nv names cs a er ok):∃p,RunD Z U S S' p/\WkD Z S' p w ru s tb nv names cs a er ok:=by
 obtain⟨g,Q,t,W,h2,X,Y,k⟩:=h.L;refine⟨fun r=>U1 r\/(G r/\¬Z r),⟨R.ch.F fun r u=>u.1,fun r u=> ?_⟩,⟨h.wf,⟨fun r=>g r\/(G r/\¬Z r),Q,t,fun o=> ?_,fun r u=> ?_,X,Y,fun r e=>⟨.inl (k r e).1,(k r e).2⟩⟩, .inl h.j,fun r u=> ?_,fun r u=> ?_, ?_⟩⟩
 ·rcases u with u|u
  ·exact(R.c r u).imp (fun u=>u.1) id
  grind
 ·have D:=W o;obtain⟨T,lv,tv,dv,nv,kv,sv,l,O,tr,n,N,b1,b2,b3,b4,b5⟩:=D.i;have mv:∀r,g r\/Z r\/G r->(g r\/(G r/\¬Z r))\/Z r:=fun r u=>by grind
  exact⟨D.wf,⟨T,lv,tv,dv,nv,kv,sv,l,O,tr,n,N,b1,b2,fun r t=>mv r (b3 r t),fun r e=> .inl (b4 r e),fun r o=>mv r (b5 r o)⟩,fun r u=>by
   rcases u with(u|u)|u
   ·exact D.f r (.inl u)
   ·exact D.f r (.inr (.inr u.1))
   ·exact D.f r (.inr (.inl u))⟩
 ·rcases u with u|u
  ·grind
  ·exact⟨.inr u,fun e=>h.y w h.j (.inr (by grind)),fun e=>h.y r (k r e).1 (.inr u.1)⟩
 ·rcases u with(u|u)|u
  ·exact h.d r (.inl u)
  ·exact h.d r (.inr (.inr u.1))
  ·exact h.d r (.inr (.inl u))
 ·rcases u with u|u
  ·exact fun z=>h.y r u (.inl z)
  grind
 ·refine⟨h.i.1, ?_⟩;rcases h.i.2 with e|⟨q,o,hp,v,m⟩
  ·grind
  ·have hq:rowOf nv=some q:=by rcases v with rfl|⟨c,_,rfl⟩<;>rfl
   refine .inr ⟨q,o,fun u=> ?_,v,m⟩;rcases u with u|u
   ·grind
   ·exact(b.F hq).1 ((x q u.1).resolve_right u.2)
end
def AnsY (Z U:Pt->Prop)(S:St)(w ru:Pt)(s:Sch)(nv:V)(names:List Str)(a:Int)(x:AnsR)(v:V)(S':St):Prop:=v= .p []/\∃U',RunD Z U S S' U'/\WkD Z S' U' w ru s x.1 nv names x.2.1 (if x.2.2.1=0 then a else x.2.2.2) x.2.2.1 (x.2.2.1=0)
def RowD (s:Sch)(names:List Str)(m d:Nat)(row:Tb->Cls->EnvS->List Nod->AnsR):Prop:=∀(Z:Pt->Prop) (S:St) (U:Pt->Prop) (w ru:Pt) (tb:Tb) (nv:V) (cs:Cls) (a:Int) (e:List V) (E:EnvS) (lv:V) (l:List Nod),WkD Z S U w ru s tb nv names cs a 0 True->OfF s tb->EnvC (fun r=>¬U r) S e E->EnvR tb E (sizL d l)->NodsC (fun r=>¬U r) S m d lv l->fitL (fitP m) d l->docL m d l->cs.length+sizL d l<100000->
 Dz 21 [.e w 0, .j e,lv] S (AnsY Z U S w ru s nv names a (row tb cs E l))
theorem JpT {names:List Str}(H:RowD r names t j i){a:Int}{E:EnvS}{M:V}{b:List Nod}(N:WkD v k e q u r l f names x a 0 True)(O:OfF r l)(P:EnvC (fun g=>¬e g) k n E)(T:EnvR l E (sizL j b))(X:NodsC (fun g=>¬e g) k t j M b)(Y:fitL (fitP t) j b)(hd:docL t j b)(hc:x.length+sizL j b<100000){fr:Fr}
  (hQ:∀S' z,RunD v e k S' z->WkD v S' z q u r (i l x E b).1 f names (i l x E b).2.1 (if(i l x E b).2.2.1=0 then a else(i l x E b).2.2.2) (i l x E b).2.2.1 ((i l x E b).2.2.1=0)->L (.p []) S'):J8 (tabT tabD) true (some []) 21 [.e q 0, .j n,M] fr k L:=by
 have wl:=Js N.wf k.t;refine JW (W:=e) N.wf ((H v {k with a:=k.t} e q u l f x a n E M b (N.K wl) O (P.A kR) T (NodsC.A X kR) Y hd hc).A fun o S' h=>⟨by obtain⟨_,z,R,_⟩:=h;exact R.ch,h⟩) ?_;rintro _ S' lo C ⟨rfl,z,R,W⟩;exact hQ {S' with a:=lo} z ⟨C,fun g y=>R.c g y⟩ (W.K ⟨C.D.a,C.D.t⟩)
theorem RunD.F {S':St}(R:RunD v e k S' h):∀r,¬e r->k.A r≠ .none->¬h r/\S'.A r=k.A r:=fun r a b=>⟨(R.D r b a).2,(R.D r b a).1⟩
theorem Jrf {names:List Str}(H:RowD r names j O i)(F:RowF r (fitP j) O i)(A:RowA j O i){ru:Pt}{o K:V}{E:EnvS}{at_:Int}{sx nm:Str}{bf bz:List Nod}{he:Bool}{cases:List (Str×List Nod)}{nd:Nd}{b:Nat}(hW:WkD v k e u ru r l f names x m 0 True)(hO:OfF r l)
  (hE:EnvC (fun T=>¬e T) k n E) (hK:EnvR l E b) (hn:NodC (fun T=>¬e T) k j (O+1) g (.mk N at_ sx nm y bf bz he cases)) (hx:SlAt (fun T=>¬e T) k o 1 (strs nd.b)) (hy:SlAt (fun T=>¬e T) k K 1 (ints nd.c)) (cu:nd.c.length=nd.b.length) (b0:nd.b.length<=8) (b1:∀W∈nd.c,W<l.a.length) (hb:(cases.map fun c=>sizL O c.2).sum<=b) (cw:cases.length<100000) (hf:∀c∈cases,fitL (fitP j) O c.2) (hd:∀c∈cases,docL j O c.2) (hc:x.length+(cases.map fun c=>sizL O c.2).sum<100000):
  Dz 147 [.e u 0, .j n, .j g, .j [.d .i64 nd.a,ofL nd.d,o,K]] k (AnsY v e k u ru r f names m (fixA at_ (KY i E nd he l x cases))):=by
 have hw:=hW.wf;refine Jl (aT Tryz.func147 rfl) rfl ?_;have b2:=hE;have bg:=hn;obtain⟨x0,x1,x2,rfl,a0,a1,a2⟩:=Kq hE;obtain⟨pv,bv,ev,xv,rfl,y1,y2,y3,y4⟩:=hn;have c4:=LstAt.G y1;have c5:=y2.G;have c6:=y3.G;have c7:=y4.G;have d1:=hx.A;have d2:=hx.B;have d3:=hy.A;have d4:=hy.B;have ln:=hx.G;rw[Jw]at ln;have lc:=y4.H;obtain⟨n0,bh⟩:=nxE k;simp only[CT,Tryz.f147,XY,simprocAttr];rw[Ja];simp[XY,bh,a0.1,a1.1,a2.1,c4.1,c5.1,c6.1,c7.1,d2,d4];generalize b3:up 0 n0=p5;generalize b4:up 1 n0=p6;generalize b5:up 2 n0=p7;refine nm3 hw bh b3 b4 b5 ?_;intro S1 G1 ⟨b6,b7,b8⟩ _ ⟨t5,r5⟩ ⟨t6,r6⟩ ⟨t7,r7⟩;have W1:=hW.F G1;have u5:=(hW.B b6).1;have u6:=(hW.B b7).1;have u7:=(hW.B b8).1;have R1:RunD v e k S1 e:=RunD.G G1;have b9:=b2.A R1.F;have ca:=NodC.A R1.F bg;have cb:=hx.D R1.F;have cd:=hy.D R1.F;have ce:LstAt (CasC (NodC (fun T=>¬e T) S1 j O) (fun T=>¬e T) S1) (fun T=>¬e T) S1 xv 2 cases:=LstAt.B y4 (fun _ _ h=>CasC.A h (fun _ _ h=>NodC.A R1.F h) R1.F) R1.F;have cx:∀z:AnsR,(fixA at_ z).1=z.1/\(fixA at_ z).2.1=z.2.1/\(fixA at_ z).2.2.1=z.2.2.1:=fun z=>⟨rfl,rfl,rfl⟩
 have aq:∀{S2:St} {U2:Pt->Prop} {ab:Tb} {ad:Cls} {fr:Fr} {Q:V->St->Prop},RunD v e S1 S2 U2->WkD v S2 U2 u ru r ab f names ad m 0 True->KY i E nd he l x cases=(ab,ad,19,-1)->(∀S3,AnsY v e k u ru r f names m (fixA at_ (KY i E nd he l x cases)) (.p []) S3->Q (.p []) S3)->J8 (tabT tabD) false none 93 [.e u 0, .j [.d .i64 N, .d .i64 at_,ofL sx,ofL nm,pv,bv,ev, .h he,xv], .d .i64 19] fr S2 Q:=by
  intro S2 U2 ab ad fr Q R2 W2 af hQ;refine Jc (JdN (e:=19) W2 (NodC.A R2.F ca)) ?_;rintro _ S3 ⟨rfl,R3,W3⟩;refine hQ S3 ⟨rfl,U2,(R1.B R2).B R3, ?_⟩;rw[af];simp at W3;exact W3.A fun _=>trivial
 refine Jz (fun fr S'=>fr 0= .e u 0/\fr 6= .e p6 0/\fr 7= .e p7 0/\∃(U':Pt->Prop) (ah:Tb) (ai:Cls),RunD v e S1 S' U'/\((∃aa:List Nat,WkD v S' U' u ru r ah f names ai m 0 True/\aa.length=cases.length/\Q7 i E nd l x [] cases=((ah,ai,0,-1),aa))\/∃(e2 a2:Int) (aa:List Nat),e2≠0/\0<=a2/\WkD v S' U' u ru r ah f names ai a2 e2 False/\Q7 i E nd l x [] cases=((ah,ai,e2,a2),aa))) (fun J hJ=> ?_) ?_;rotate_left
 ·rintro fr S2 ⟨f0,f6,f7,U2,ab,ad,R2,af⟩;have r62:=(R2.D p6 (Jb r6) u6).1.trans r6;have r72:=(R2.D p7 (Jb r7) u7).1.trans r7;rcases af with⟨aa,W2,cf,af⟩|⟨e2,a2,aa,ar,ax,W2,af⟩
  ·obtain⟨a6,t2,w2,_⟩:=W2.H;by_cases cy:cases.length<nd.b.length
   ·have au:(cases.length:Int)<nd.b.length:=by omega
    cases he with
    | true=>
      have aj:KY i E nd true l x cases=(ab,ad,0,-1):=by
       unfold KY;grind
      rw[Ja];simp[XZ,f0,f6,w2,r62];rw[aj];exact⟨rfl,U2,R1.B R2,W2.A fun _=>trivial⟩
    | false=>
      have aj:KY i E nd false l x cases=(ab,ad,19,-1):=by
       unfold KY;grind
      rw[Ja];simp[XY,f0,f6,f7,w2,r62,r72,lc,ln,au];refine aq R2 W2 aj ?_;intro S3 hA;simp[XZ];exact hA
   ·have au:¬(cases.length:Int)<nd.b.length:=by omega
    have aj:KY i E nd he l x cases=(ab,ad,0,-1):=by
     unfold KY;grind
    cases he with
    | true=>
      rw[Ja];simp[XZ,f0,f6,w2,r62];rw[aj];exact⟨rfl,U2,R1.B R2,W2.A fun _=>trivial⟩
    | false=>
      rw[Ja];simp[XZ,f0,f6,f7,w2,r62,r72,lc,ln,au];rw[aj];exact⟨rfl,U2,R1.B R2,W2.A fun _=>trivial⟩
  ·obtain⟨a6,t2,w2,_⟩:=W2.H;have aj:KY i E nd he l x cases=(ab,ad,e2,a2):=by
    unfold KY;grind
   rw[Ja];simp[XZ,f0,w2,ar];rw[aj];refine⟨rfl,U2,R1.B R2, ?_⟩;rw[JjK ax]
   grind
 rw[Ja];simp[XY];refine Jy (fun q fr S'=>fr 0= .e u 0/\fr 5= .e p5 0/\fr 6= .e p6 0/\fr 7= .e p7 0/\∃(W:Nat) (U':Pt->Prop) (ah:Tb) (ai:Cls),q+W=cases.length/\fr 8= .d .i64 (W:Nat)/\RunD v e S1 S' U'/\((∃aa:List Nat,WkD v S' U' u ru r ah f names ai m 0 True/\OfF r ah/\l.a.length<=ah.a.length/\ai.length+((cases.drop W).map fun c=>sizL O c.2).sum<=x.length+(cases.map fun c=>sizL O c.2).sum/\aa.length=W/\(∀c∈aa,∃q,∃h:q<cases.length,q<W/\fstN cases[q].1 nd.b=some c)/\(∀q (h:q<cases.length),q<W->∃c∈aa,fstN cases[q].1 nd.b=some c)/\Q7 i E nd l x [] cases=Q7 i E nd ah ai aa (cases.drop W))\/∃(e2 a2:Int) (aa:List Nat),e2≠0/\0<=a2/\WkD v S' U' u ru r ah f names ai a2 e2 False/\Q7 i E nd l x [] cases=((ah,ai,e2,a2),aa))) cases.length (by omega) ⟨rfl,rfl,rfl,rfl,0,e,l,x,by omega,by rfl,RunD.H W1.wf, .inl ⟨[],W1,hO,Xb _,by simp,rfl,fun c h=>(by cases h),fun q _ h=>absurd h (XO _),rfl⟩⟩ ?_;rintro L hL q fr S2 ⟨f0,f5,f6,f7,W,U2,ab,ad,hq,f8,R2,bi⟩;have r52:=(R2.D p5 (Jb r5) u5).1.trans r5;have r62:=(R2.D p6 (Jb r6) u6).1.trans r6;have r72:=(R2.D p7 (Jb r7) u7).1.trans r7;rcases bi with⟨aa,W2,bj,bk,a3,cf,cg,cz,ae⟩|⟨e2,a2,aa,ar,ax,W2,af⟩
 rotate_left
 ·obtain⟨a6,t2,w2,_⟩:=W2.H;by_cases hi:(W:Int)<cases.length
  ·simp[XZ,f0,f6,f8,r62,lc,hi,w2,ar];exact hJ _ _ ⟨f0,f6,f7,U2,ab,ad,R2, .inr ⟨e2,a2,aa,ar,ax,W2,af⟩⟩
  ·simp[XZ,f6,f8,r62,lc,hi];exact hJ _ _ ⟨f0,f6,f7,U2,ab,ad,R2, .inr ⟨e2,a2,aa,ar,ax,W2,af⟩⟩
 obtain⟨a6,t2,w2,_⟩:=W2.H;by_cases hi:W<cases.length;rotate_left
 ·rw[Xs (by omega),Q7]at ae;simp[XZ,f6,f8,r62,lc,hi];exact hJ _ _ ⟨f0,f6,f7,U2,ab,ad,R2, .inl ⟨aa,W2,by omega,ae⟩⟩
 have a8:=wiN (i:=W) (by omega);have bl:LstAt (CasC (NodC (fun T=>¬U2 T) S2 j O) (fun T=>¬U2 T) S2) (fun T=>¬U2 T) S2 xv 2 cases:=LstAt.B ce (fun _ _ h=>CasC.A h (fun _ _ h=>NodC.A R2.F h) R2.F) R2.F;obtain⟨r1,q1,e1,ch,c0,c1,cj,⟨cv,rfl,bm⟩,c2,c3⟩:=bl.A hi;have cc:=LstAt.G bm;rw[Je,Ja];simp[XY,f0,f6,f8,r62,lc,hi,w2];rw[Je];simp[XY];obtain⟨n2,bn⟩:=nxE S2;rw[Ja];simp[XY,f6,f8,r62,ch,cj,bn,cc.1];generalize ck:up 0 n2=p9;refine nmA W2.wf bn ck ?_;intro S3 G3 c8 ⟨t9,r9⟩;have R3:=R2.I G3;have W3:=W2.F G3;have r53:=G3.A r52;have r63:=G3.A r62;have r73:=G3.A r72;rw[Ja];simp[XY,f7,r73,r9];refine Jc (kidD (nm:=cases[W].1) W3.wf ((cb.D R3.F).D kR) ((cd.D R3.F).D kR) (by omega) b0) ?_;rintro _ S4 ⟨G4,rfl⟩;have R4:=R3.I G4;have W4:=W3.F G4;have r94:=G4.A r9;have r54:=G4.A r53;have r64:=G4.A r63;have r74:=G4.A r73;have bo:cases.drop W=cases[W]::cases.drop (W+1):=Xc hi;rw[bo]at ae a3;have bp:=hf cases[W] (Xh hi);have bq:=hd cases[W] (Xh hi);have c9:sizL O cases[W].2<=(cases.map fun c=>sizL O c.2).sum:=JkR (fun c:Str×List Nod=>sizL O c.2) (Xh hi);have a4:∀{t:Str} {bd:List Nod},cases[W]=(t,bd)->Q7 i E nd ab ad aa (cases[W]::cases.drop (W+1))=match fstN t nd.b with
  |none=>((ab,ad,19,-1),aa)
  | some i'=>if i'∈aa then((ab,ad,19,-1),aa)else match i ab ad (KJ E (nd.c.getD i' 0)) bd with
    |(l,x,n,m)=>if n≠0 then((l,x,n,m),aa)else Q7 i E nd l x (i'::aa) (cases.drop (W+1)):=fun{t bd} h=>by
  rw[h,Q7];rfl
 rw[a4 (t:=cases[W].1) (bd:=cases[W].2) rfl]at ae;clear a4 bo;obtain⟨al,ag,br,av⟩:∃(al:Bool) (ag:Nat),(al=true<->(fstN cases[W].1 nd.b).isSome)/\kidV cases[W].1 nd.b nd.c= .p [.d .i64 (ag:Nat), .h al]:=by
  unfold kidV
  cases h:fstN cases[W].1 nd.b with
  |none=>exact⟨false,0,by simp,rfl⟩
  |some X=>grind
 have a9:∀X,fstN cases[W].1 nd.b=some X->ag=nd.c.getD X 0:=fun X h=>by
  unfold kidV at av
  grind
 rw[av];generalize da:cases[W]=ci at*;obtain⟨ak,bd⟩:=ci;simp[XY];refine Jz (fun fr S'=>S'=S4/\fr 0= .e u 0/\fr 5= .e p5 0/\fr 6= .e p6 0/\fr 7= .e p7 0/\fr 8= .d .i64 (W:Nat)/\fr 9= .e p9 0/\fr 10= .d .i64 (ag:Nat)/\∃b:Bool,fr 11= .h b/\(b=true<->al=true/\∀q (h:q<cases.length),q<W->cases[q].1≠ak)) (fun J2 cl=> ?_) ?_
 ·rw[Ja];simp[XY];obtain⟨M,hM⟩:=loE fun q' fr S'=>S'=S4/\fr 0= .e u 0/\fr 5= .e p5 0/\fr 6= .e p6 0/\fr 7= .e p7 0/\fr 8= .d .i64 (W:Nat)/\fr 9= .e p9 0/\fr 10= .d .i64 (ag:Nat)/\∃(jj:Nat) (b:Bool),q'+jj=W/\fr 12= .d .i64 (jj:Nat)/\fr 11= .h b/\(b=true<->al=true/\∀q (h:q<cases.length),q<jj->cases[q].1≠ak);refine JC M W (by omega) ((hM _ _ _).2 ⟨rfl,f0,f5,f6,f7,f8,rfl,rfl,0,al,by omega,by rfl,rfl,⟨fun h=>⟨h,fun q _ c=>absurd c (XO _)⟩,fun h=>h.1⟩⟩) ?_;clear f0 f5 f6 f7 f8;intro q' fr S5 cm;obtain⟨rfl,f0,f5,f6,f7,f8,f9,ap,jj,b,db,ay,am,az⟩:=(hM _ _ _).1 cm;by_cases hj:jj<W;rotate_left
  ·obtain rfl:jj=W:=by omega
   simp[XZ,f8,ay];exact cl _ _ ⟨rfl,f0,f5,f6,f7,f8,f9,ap,b,am,az⟩
  have ao:=wiN (i:=jj) (by omega);have bt:jj<cases.length:=by omega
  have cn:LstAt (CasC (NodC (fun T=>¬U2 T) S5 j O) (fun T=>¬U2 T) S5) (fun T=>¬U2 T) S5 xv 2 cases:=LstAt.B bl (fun _ _ h=>CasC.A h (fun _ _ h=>NodC.A (G3.B G4).H h) (G3.B G4).H) (G3.B G4).H;obtain⟨rj,qj,ej,g1,g2,g3,g4,⟨dc,rfl,g5⟩,g6,g7⟩:=cn.A bt;have ba:=g7 0 (by simp);simp at ba
  cases b with
  | false=>
    simp[XZ,f8,am,ay,hj,ao];refine⟨W-(jj+1),by omega,(hM _ _ _).2 ⟨rfl,f0,f5,f6,f7,f8,f9,ap,jj+1,false,by omega,rfl,rfl,⟨fun h=>(by cases h),fun h=>az.2 ⟨h.1,fun q hq c=>h.2 q hq (by omega)⟩⟩⟩⟩
  | true=>
    obtain⟨k1,k2⟩:=az.1 rfl;by_cases ht:cases[jj].1=ak
    ·have co:(cases[jj].1=ak)=True:=XL ht;simp[XZ,f6,f8,f9,am,ay,hj,r64,r94,g1,ba,co,ao];exact⟨W-(jj+1),by omega,(hM _ _ _).2 ⟨rfl,f0,f5,f6,f7,f8,f9,ap,jj+1,false,by omega,rfl,rfl,⟨fun h=>(by cases h),fun h=>absurd ht (h.2 jj bt (by omega))⟩⟩⟩
    ·simp[XZ,f6,f8,f9,am,ay,hj,r64,r94,g1,ba,ht,ao];exact⟨W-(jj+1),by omega,(hM _ _ _).2 ⟨rfl,f0,f5,f6,f7,f8,f9,ap,jj+1,true,by omega,rfl,rfl,⟨fun _=>⟨k1,fun q hq c=>by
      grind⟩,fun _=>rfl⟩⟩⟩
 clear f0 f5 f6 f7 f8;rintro fr S5 ⟨rfl,f0,f5,f6,f7,f8,f9,ap,b,am,az⟩;have dd:(fstN ak nd.b=none\/∃i',fstN ak nd.b=some i'/\i'∈aa)<->b=false:=by
  cases aw:fstN ak nd.b with
  | none=>
    grind
  | some i'=>
    have de:al=true:=br.2 (by grind);constructor
    ·rintro(h|⟨X,h,hm⟩)
     ·cases h
     ·injection h with h;subst h;obtain⟨q,hq,cp,n⟩:=cg i' hm
      cases b with
      |false=>rfl
      | true=>
        have h1:=JfA aw;have h2:=JfA n
        grind
    grind
 cases b with
 | false=>
   have af:Q7 i E nd l x [] cases=((ab,ad,19,-1),aa):=by grind
   have aj:KY i E nd he l x cases=(ab,ad,19,-1):=by
    unfold KY;grind
   rw[Je,Ja];simp[XY,am];rw[Ja];simp[XY,f0,f6,r64];refine aq R4 W4 aj ?_;intro S6 hA;simp[XZ];exact hA
 |true=>
 obtain⟨i',aw,cq⟩:∃i',fstN ak nd.b=some i'/\i'∉aa:=by grind
 rw[aw]at ae;simp only[Xa cq]at ae;have df:=Jd1 aw;have a5:ag=nd.c.getD i' 0:=a9 i' aw;have bu:ag<l.a.length:=by
  rw[a5,Xt,Xg (by omega)];exact b1 _ (Xh _)
 rw[<-a5]at ae;simp only[XV,Gu]at a3;have cr:=b9.A R4.F;rw[Je,Ja];simp[XY,am];simp[XY,f5,ap,r54];refine Jj (P:=fun Y S'=>∃e',Y= .j e'/\EnvC (fun T=>¬U2 T\/S5.A T= .none) S' e' (KJ E ag)) (Jd5 (Js G4.D _) (cr.A kR) hK.k.e hK.k.d fun o h=>(hK.k.c o h).1) ?_;rintro _ S6 G6 ⟨e',rfl,bb⟩;have bb:EnvC (fun T=>¬U2 T) S6 e' (KJ E ag):=bb.A fun T m b=>⟨by
  rcases m with m|m
  ·exact m
  ·exact(W4.B m).1,rfl⟩
 have r96:=G6.A r94;have W6:=W4.F G6;have R6:=R4.I G6;have ct:NodsC (fun T=>¬U2 T) S6 j O cv bd:=NodsC.A (show NodsC (fun T=>¬U2 T) S2 j O cv bd from bm) fun T m b=>⟨m,by
  rw[G6.d T (by rw[(G3.B G4).d T b];exact b),(G3.B G4).d T b]⟩
 have bw:EnvR ab (KJ E ag) (sizL O bd):=(hK.A bk (by grind)).B (X6 bu bk)
 simp[XY,f0,f9,r96];refine JpT H W6 bj bb bw ct bp bq (by omega) ?_;intro S7 U7 R7 W7;have bx:=R6.B R7;have ff:=F ab ad (KJ E ag) bd bj bw bp;have fa:=A ab ad (KJ E ag) bd bq;generalize i ab ad (KJ E ag) bd=z at*;obtain⟨bc,be,e7,a7⟩:=z;simp only at ae W7 fa;have dg:be.length<=ad.length+sizL O bd:=ff.d;have l7:ab.a.length<=bc.a.length:=ff.f;simp[XZ,f8,a8];by_cases c7:e7=0;rotate_left
 ·rw[Xd c7]at ae;rw[Xa c7]at W7;exact⟨cases.length-(W+1),by omega,hL _ _ _ ⟨f0,f5,f6,f7,W+1,U7,bc,be,by omega,rfl,bx, .inr ⟨e7,a7,aa,c7,fa c7,W7.A fun h=>h.elim,ae⟩⟩⟩
 subst c7;rw[Xa (fun N=>N rfl)]at ae;rw[Xd rfl]at W7;refine⟨cases.length-(W+1),by omega,hL _ _ _ ⟨f0,f5,f6,f7,W+1,U7,bc,be,by omega,rfl,bx, .inl ⟨i'::aa,W7.A fun _=>rfl,ff.c,by omega,by omega,by grind,fun c hc=> ?_,fun q hq cp=> ?_,ae⟩⟩⟩
 ·grind
 grind
theorem JmO {E:EnvS}(l:WF k)(m:EnvC v k n E)(o:JU f=some (.d .i64 0, .a)):Dz 21 [.e q 0, .j n,f] k fun b s=>Gr k s/\b= .p []:=by
 refine Jn tabM (aT Tryz.func21 rfl) rfl l fun K g=> ?_;obtain⟨M,N,O,rfl,t,u,x⟩:=Kq m;obtain⟨y,c⟩:=nxE k;have h:¬(0:Int)<0:=by omega
 simp only[CT,Tryz.f21,XY,simprocAttr];rw[Ja];simp[XY,c,t.1,u.1,x.1];generalize i:up 0 y=Q;refine nm1 l c i ?_;intro T z L ⟨t4,r4⟩;rw[Ja];simp[XY];refine j9 (by omega) ?_;simp[XZ,o,h];exact g _ _ (fun r n=>z.d r n) fun _=>rfl
theorem AnsY.A {S S':St}{names:List Str}{x:AnsR}{b:V}(h:AnsY v e S q u r f names m x b S')(k:x.2.2.1≠0->0<=x.2.2.2):AnsY v e S q u r f names m (fixA N x) b S':=by
 obtain⟨d,g,R,W⟩:=h;refine⟨d,g,R, ?_⟩;by_cases c:x.2.2.1=0
 ·have i:(fixA N x).2.2.1=0:=c;rw[Xd i] ;rw[Xd c]at W;exact W
 ·rw[JjK (k c)];exact W
theorem JpU {names:List Str}(H:RowD r names (j+1) O i)(F:RowF r (fitP (j+1)) O i)(A:RowA (j+1) O i)(dm:∀l cs E,i l cs E []=(l,cs,0,-1)){cs:Cls}{a:Int}{E:EnvS}{id:Nat}(hW:WkD v k e q u r l f names cs a 0 True)(hO:OfF r l)(hid:id<l.a.length)
  (hE:EnvC (fun K=>¬e K) k n E) (hK:EnvR l E (sizN (O+1) Q)) (hn:NodC (fun K=>¬e K) k (j+1) (O+1) g Q) (hf:fitN (fitP (j+1)) (O+1) Q) (hd:docN (j+1) (O+1) Q) (hc:cs.length+sizN (O+1) Q<100000) (hk:Q.k=5\/Q.k=6\/Q.k=7\/Q.k=8):
  Dz 96 [.e q 0, .j n, .j g, .d .i64 (id:Nat)] k (AnsY v e k q u r f names a (fixA Q.a (oneS i names l cs E id Q))):=by
 have hw:=hW.wf;refine Jl (aT Tryz.func96 rfl) rfl ?_;obtain⟨L,at_,sx,nm,pp,ab,ad,he,cases⟩:=Q;have hk:L=5\/L=6\/L=7\/L=8:=hk;have b0:=hE;have b5:=hn;obtain⟨x0,x1,x2,rfl,a0,a1,a2⟩:=Kq hE;obtain⟨pv,bv,ev,xv,rfl,y1,y2,y3,y4⟩:=hn;have c4:=LstAt.G y1;have c5:=y2.G;have c6:=y3.G;have c7:=y4.G;obtain⟨n0,b6⟩:=nxE k;simp only[CT,Tryz.f96,XY,simprocAttr];rw[Ja];simp[XY,b6,a0.1,a1.1,a2.1,c4.1,c5.1,c6.1,c7.1];generalize cr:up 0 n0=p5;generalize ct:up 1 n0=p6;refine nm2 hw b6 cr ct ?_;intro S1 G1 cu cv dp ⟨t5,r5⟩ ⟨t6,r6⟩;have W1:=hW.F G1;obtain⟨dq,t1,w1,_⟩:=W1.H;rw[Ja];simp[XY,w1];refine Jc (atW W1 hO hid) ?_;rintro _ S2 ⟨G2,kx,ky,rfl,hg,ay,az,W2⟩;obtain⟨_,_,_,_,o5,o6⟩:=hO.B hid;obtain⟨GG,cw⟩:∃GG:Pt->Prop,GG=fun K=>rowOf kx=some K\/rowOf ky=some K:=⟨_,rfl⟩
 have hg:∀K,GG K->e K\/v K:=fun K M=>hg K (by grind);have ay:SlAt (fun K=>¬(e K/\¬GG K)) S2 kx 1 (strs (Jg l id).b):=by grind
 have az:SlAt (fun K=>¬(e K/\¬GG K)) S2 ky 1 (ints (Jg l id).c):=by grind
 have W2:WkD (fun K=>v K\/GG K) S2 (fun K=>e K/\¬GG K) q u r l f names cs a 0 True:=by grind
 clear cw;have b1:=ay.A;have b2:=ay.B;have b3:=az.A;have b4:=az.B;obtain⟨n2,b7⟩:=nxE S2;simp[XY,b7,b2,b4];generalize cx:up 0 n2=p8;refine nmA G2.D b7 cx ?_;intro S3 G3 cy ⟨t8,r8⟩;have au:=G2.B G3;have r53:=au.A r5;obtain⟨n3,av⟩:=nxE S3;have dr:=fun L=>nes (Jr G3.D av (Jb r53) L);rw[Ja];simp[XY,r53,av,a0.1,a1.1,a2.1];generalize cz:up 0 n3=p9;refine nmA G3.D av cz ?_;intro S4 G4 b8 ⟨t9,r9⟩;have c0:=(G1.B au).B G4;have ds:=G3.B G4;have bo:=G1.B au;have r63:=au.A r6;have r54:=G4.A r53;have r64:=G4.A (au.A r6);have r84:=G4.A r8;obtain⟨U1,bd⟩:∃U1:Pt->Prop,U1=fun K=>e K/\¬GG K:=⟨_,rfl⟩
 obtain⟨Z1,bp⟩:∃Z1:Pt->Prop,Z1=fun K=>v K\/GG K:=⟨_,rfl⟩
 have a3:∀K,U1 K->e K:=fun K N=>by grind
 have W3:WkD Z1 S3 U1 q u r l f names cs a 0 True:=by rw[bd,bp];exact W2.F G3
 have W4:=W3.F G4;have c1:SlAt (fun K=>¬U1 K) S3 kx 1 (strs (Jg l id).b):=by rw[bd];exact ay.H G3
 have b9:SlAt (fun K=>¬U1 K) S3 ky 1 (ints (Jg l id).c):=by rw[bd];exact az.H G3
 have be:∀{x:AnsR} {T:V} {S':St},AnsY Z1 U1 S3 q u r f names a x T S'->AnsY v e k q u r f names a x T S':=fun{x T S'} h=>by
  obtain⟨n,U',R,W⟩:=h;rw[bd,bp]at R;rw[bp]at W;obtain⟨c2,R',W'⟩:=WkD.P hg (hW.F bo).i R W;exact⟨n,c2,(RunD.G bo).B R',W'⟩
 clear W2 ay az W1;have u5:¬U1 p5:=fun N=>(hW.B cu).1 (a3 _ N);have u6:¬U1 p6:=fun N=>(hW.B cv).1 (a3 _ N);have u8:¬U1 p8:=fun N=>(hW.B ((G1.B G2).I cy)).1 (a3 _ N);have f9:k.A p9= .none:=(G1.B au).I b8;have u9:¬U1 p9/\¬Z1 p9:=by
  have h:=hW.B f9
  grind
 have kU:∀K,¬e K->k.A K≠ .none->(¬U1 K/\K≠p9)/\S4.A K=k.A K:=fun K Q b=>⟨⟨fun N=>Q (a3 K N),fun x=>b (by grind)⟩,c0.d K b⟩
 have bf:∀K,¬e K->k.A K≠ .none->¬U1 K/\S3.A K=k.A K:=fun K Q b=>⟨fun N=>Q (a3 K N),bo.d K b⟩
 have ca:=b0.A bf;have bg:EnvC (fun K=>¬U1 K/\K≠p9) S4 [x0,x1,x2] E:=b0.A kU;have av:NodC (fun K=>¬U1 K) S3 (j+1) (O+1) [.d .i64 L, .d .i64 at_,ofL sx,ofL nm,pv,bv,ev, .h he,xv] (.mk L at_ sx nm pp ab ad he cases):=NodC.A bf b5;have cb:NodsC (fun K=>¬U1 K) S3 (j+1) O bv ab:=NodsC.A (show NodsC (fun K=>¬e K) k (j+1) O bv ab from y2) bf;have cc:NodsC (fun K=>¬U1 K) S3 (j+1) O ev ad:=NodsC.A (show NodsC (fun K=>¬e K) k (j+1) O ev ad from y3) bf;have c3:PipC (fun K=>¬U1 K/\K≠p9) S4 (j+1) pv pp:=PipC.A y1 kU;have c8:sizN (O+1) (.mk L at_ sx nm pp ab ad he cases)=1+sizL O ab+sizL O ad+(cases.map fun c=>sizL O c.2).sum:=rfl;rw[c8]at hK hc;obtain⟨f1,_,f3,f4,f5⟩:=hf;have f3:fitL (fitP (j+1)) O ab:=f3;have f4:fitL (fitP (j+1)) O ad:=f4;obtain⟨g1,g2,g3,g4,g5,g6,g7,g8⟩:=hd;have c9:docP (j+1) pp:=g4 fun h=>by grind
 have kl:=o5.a;have cd:(Jg l id).a=4\/(Jg l id).a=5\/(Jg l id).a=6->(Jg l id).c.length=1:=fun h=>by rw[kl,jE,Xd h]
 have kid0:(Jg l id).c.length=1->(Jg l id).c.getD 0 0<l.a.length/\∀{S':St},Gr S3 S'->∃X o,Jo 1 ky (.d .i64 0)=some (.e X o, .a)/\ld1 (S'.A X) o=some (.d .i64 ((Jg l id).c.getD 0 0:Nat), .a):=fun h=>⟨by
  rw[Xt,Xg (by omega)];exact o6 _ (Xh _),fun{S'} M=>JhW (b9.H M) (by omega)⟩
 have ao:∀{S5:St} {U5:Pt->Prop} {bh:Tb} {bi:Cls} {er:Int} {fr:Fr} {Y:V->St->Prop},RunD Z1 U1 S3 S5 U5->WkD Z1 S5 U5 q u r bh f names bi a 0 True->oneS i names l cs E id (.mk L at_ sx nm pp ab ad he cases)=(bh,bi,er,-1)->er≠0->(∀S6,AnsY v e k q u r f names a (fixA at_ (oneS i names l cs E id (.mk L at_ sx nm pp ab ad he cases))) (.p []) S6->Y (.p []) S6)->J8 (tabT tabD) false none 93 [.e q 0, .j [.d .i64 L, .d .i64 at_,ofL sx,ofL nm,pv,bv,ev, .h he,xv], .d .i64 er] fr S5 Y:=by
  intro S5 U5 bh bi er fr Y R5 W5 af da hQ;refine Jc (JdN (e:=er) W5 (NodC.A R5.F av)) ?_;rintro _ S6 ⟨rfl,R6,W6⟩;refine hQ S6 (be ⟨rfl,U5,R5.B R6, ?_⟩);rw[af];show WkD Z1 S6 U5 q u r bh f names bi (if er=0 then a else if(-1:Int)<0 then at_ else-1) er (er=0);rw[Xa da,Xd (by omega)];simp at W6;exact W6.A fun _=>trivial
 refine Jz (fun fr S'=>fr 0= .e q 0/\fr 5= .e p5 0/\fr 6= .e p6 0/\fr 9= .e p9 0/\∃(U':Pt->Prop) (aj:Tb) (ap:Cls) (e1:List V) (E1:EnvS) (t:Nat),S'.A p5= .a t5 [x0,x1,x2]/\S'.A p6= .a t6 [.d .i64 L, .d .i64 at_,ofL sx,ofL nm,pv,bv,ev, .h he,xv]/\S'.A p9= .a t e1/\RunD Z1 U1 S3 S' U'/\EnvC (fun K=>¬U' K) S' e1 E1/\EnvC (fun K=>¬U' K) S' [x0,x1,x2] E/\NodsC (fun K=>¬U' K) S' (j+1) O bv ab/\NodsC (fun K=>¬U' K) S' (j+1) O ev ad/\((WkD Z1 S' U' q u r aj f names ap a 0 True/\OfF r aj/\l.a.length<=aj.a.length/\EnvR aj E1 (sizL O ab)/\ap.length+(sizL O ab+sizL O ad)<100000/\oneS i names l cs E id (.mk L at_ sx nm pp ab ad he cases)=Qi i aj ap E1 ab E ad)\/(ab=[]/\∃e2 a2:Int,e2≠0/\WkD Z1 S' U' q u r aj f names ap a2 e2 False/\fixA at_ (oneS i names l cs E id (.mk L at_ sx nm pp ab ad he cases))=(aj,ap,e2,a2)))) (fun J hJ=> ?_) ?_;rotate_left
 ·rintro fr S5 ⟨q0,q5,q6,q9,U5,ah,ak,e1,E1,t,r55,r65,r95,R5,a4,aw,ce,db,af⟩;have cf:=a4;obtain⟨z0,z1,z2,rfl,v0,v1,v2⟩:=Kq cf;have v5:¬U5 p5:=(R5.D p5 (Jb r53) u5).2;have v6:¬U5 p6:=(R5.D p6 (Jb r63) u6).2;rcases af with⟨W5,O5,l5,K5,dt,af⟩|⟨du,e2,a2,dc,W5,af⟩
  ·have dd:l.a.length<=ah.a.length:=l5;rw[Ja];simp[XY,q0,q6,q9,r65,r95];refine Jc (H Z1 S5 U5 q u ah f ak a _ E1 bv ab W5 O5 a4 K5 ce f3 g6 (by omega)) ?_;rintro _ S6 ⟨rfl,U6,R6,W6⟩;have ff:=F ah ak E1 ab O5 K5 f3;have fa:=A ah ak E1 ab g6;rw[af];have a7:Qi i ah ak E1 ab E ad=match i ah ak E1 ab with
     |(l,cs,n,a)=>if n≠0 then(l,cs,n,a)else i l cs E ad:=rfl
   rw[a7];clear a7;generalize i ah ak E1 ab=z at*;obtain⟨bj,bq,e6,a6⟩:=z;have de:ah.a.length<=bj.a.length:=ff.f;have dn:bq.length<=ak.length+sizL O ab:=ff.d;have cg:OfF r bj:=ff.c;simp at W6 fa;have r56:=(R6.D p5 (Jb r55) v5).1.trans r55;have r66:=(R6.D p6 (Jb r65) v6).1.trans r65;obtain⟨df,dg,w6,_⟩:=W6.H;have ch:=R5.B R6;by_cases c:e6=0;rotate_left
   ·simp[XY];rw[Ja];simp[XZ,q0,w6,c];exact be (AnsY.A ⟨rfl,U6,ch,by omega⟩ fa)
   subst c;simp at W6 w6;simp;simp[XY];rw[Ja];simp[XY,q0,w6];simp[XY,q5,q6,r56,r66];refine Jc (H Z1 S6 U6 q u bj f bq a _ E ev ad (W6.A fun _=>trivial) cg (aw.A R6.F) (hK.A (X0 dd de) (by omega)) (NodsC.A db R6.F) f4 g7 (by omega)) ?_;rintro _ S7 ⟨rfl,U7,R7,W7⟩;simp[XZ];exact be (AnsY.A ⟨rfl,U7,ch.B R7,W7⟩ (A bj bq E ad g7))
  ·have lb:JU bv=some (.d .i64 0, .a):=by
    have:=LstAt.H ce
    grind
   rw[Ja];simp[XY,q0,q6,q9,r65,r95];refine Jc (JmO W5.wf a4 lb) ?_;rintro _ S6 ⟨G6,rfl⟩;have W6:=W5.F G6;obtain⟨df,dg,w6,_⟩:=W6.H;simp[XY];rw[Ja];simp[XZ,q0,w6,dc];show AnsY v e k q u r f names a (fixA at_ _) _ _;rw[af];exact be ⟨rfl,U5,R5.I G6,by grind⟩
 have bm:∀K,S3.A K≠ .none->K≠p9:=fun K b x=>b (by grind);have ai:∀{S5:St} {e1:List V} {E1:EnvS} {fr:Fr},Gr S3 S5->EnvC (fun K=>¬U1 K/\K≠p9) S5 e1 E1->EnvR l E1 (sizL O ab)->oneS i names l cs E id (.mk L at_ sx nm pp ab ad he cases)=Qi i l cs E1 ab E ad->fr 0= .e q 0->fr 5= .e p5 0->fr 6= .e p6 0->fr 9= .e p9 0->∀{S6:St} {t:Nat},Ch (fun K=>K=p9) S5 S6->S6.A p9= .a t e1->J fr S6:=by
  intro S5 e1 E1 fr G5 a4 dh af h0 h5 h6 h9 S6 t C6 r96;have W5:=W3.F G5;have k6:∀K,(¬U1 K/\K≠p9)->S5.A K≠ .none->¬U1 K/\S6.A K=S5.A K:=fun K a b=>⟨a.1,C6.d K b a.2⟩
  have ax:∀K,¬U1 K->S3.A K≠ .none->¬U1 K/\S6.A K=S3.A K:=fun K a b=>⟨a,by rw[C6.d K (by rw[G5.d K b];exact b) (bm K b),G5.d K b]⟩
  have di:SlAt (fun K=>¬U1 K) S6 f 1 (strs names):=W3.i.D ax;exact hJ _ _ ⟨h0,h5,h6,h9,U1,l,cs,e1,E1,t,(ax p5 u5 (Jb r53)).2.trans r53,(ax p6 u6 (Jb r63)).2.trans r63,r96,⟨(Ch.H U1 G5).A C6 fun K n=> .inr (by grind),fun K N=> .inl N⟩,a4.A k6,ca.A ax,NodsC.A cb ax,NodsC.A cc ax, .inl ⟨W5.I C6 (fun K n=>by grind) di,hO,Xb _,dh,by omega,af⟩⟩
 have z2:¬L=2:=by omega
 have z4:¬L=4:=by omega
 have a8:∀{fr:Fr} {Y:V->St->Prop},(∀T S5,Gr S4 S5->JpQ S4 S5 (Qf E pp) T->Y T S5)->J8 (tabT tabD) false none 144 [.j [x0,x1,x2],pv] fr S4 Y:=fun hQ=>Jc (Jt4 G4.D bg c3 hK.k.e f1 c9) fun T S5 h=>hQ T S5 h.1 h.2;have a9:∀{S5 S6:St} {e':List V} {E1:EnvS},Gr S3 S5->S5.A p9≠ .none->EnvC (fun K=>(¬U1 K/\K≠p9)\/S5.A K= .none) S6 e' E1->EnvC (fun K=>¬U1 K/\K≠p9) S6 e' E1:=fun{S5 S6 e' E1} G5 l9 h=>h.A fun K a b=>⟨by
  rcases a with a|a
  ·exact a
  ·exact⟨((W3.F G5).B a).1,fun n=>l9 (by grind)⟩,rfl⟩
 have aw:∀{S5:St},Gr S3 S5->EnvC (fun K=>¬U1 K/\K≠p9) S5 [x0,x1,x2] E:=fun{S5} G5=>ca.A fun K a b=>⟨⟨a,bm K b⟩,G5.d K b⟩
 have br:∀{S5:St} {ba:Nat} {fr:Fr} {Y:V->St->Prop},Gr S3 S5->S5.A p9≠ .none->(∀z0 z1 z2 S6,Gr S5 S6->EnvC (fun K=>¬U1 K/\K≠p9) S6 [z0,z1,z2] (KJ E ba)->(z0.B=true/\z0.A=some [z0])->(z1.B=true/\z1.A=some [z1])->(z2.B=true/\z2.A=some [z2])->Y (.j [z0,z1,z2]) S6)->J8 (tabT tabD) true (some []) 146 [.j [x0,x1,x2], .d .i64 (ba:Nat)] fr S5 Y:=by
  intro S5 ba fr Y G5 l9 hQ;refine Jj (P:=fun T S'=>∃e',T= .j e'/\EnvC (fun K=>(¬U1 K/\K≠p9)\/S5.A K= .none) S' e' (KJ E ba)) (Jd5 (Js G5.D _) ((aw G5).A kR) hK.k.e hK.k.d fun x h=>(hK.k.c x h).1) ?_;rintro _ S6 G6 ⟨e',rfl,ae⟩;have ae:EnvC (fun K=>(¬U1 K/\K≠p9)\/S5.A K= .none) S6 e' (KJ E ba):=ae.A kR;have h:=a9 G5 l9 ae;have h':=h;obtain⟨z0,z1,z2,rfl,v0,v1,v2⟩:=Kq h'
  grind
 have am:∀{S5:St} {t:Nat} {aa l':List V},WF S5->S5.A p9= .a t aa->Ch (fun K=>K=p9) S5 (S5.D p9 t fun N=> .a N l')/\(S5.D p9 t fun N=> .a N l').A p9= .a S5.t l':=fun{S5 t aa l'} q h=>⟨(Ch.G _ q).J (Jb h) (by rw[h];rfl) (.inl rfl) (Jd _),Jk _ _ _ _⟩
 rcases hk with rfl|rfl|rfl|rfl
 ·have ho:oneS i names l cs E id (.mk 5 at_ sx nm pp ab ad he cases)=(if(Jg l id).a=6 then match Qf E pp with
    |some (T,al)=>Qi i l cs (KB E (T,al,(Jg l id).c.getD 0 0)) ab E ad
    |none=>Qi i l cs E ab E ad
   else if(Jg l id).a=1 then Qi i l cs E ab E ad
   else(l,cs,17,-1)):=rfl
  rw[Ja];simp[XY,r64];rw[Ja];simp[XY];by_cases bt:(Jg l id).a=6\/(Jg l id).a=1;rotate_left
  ·have h6:¬(Jg l id).a=6:=fun c=>bt (.inl c);have h1:¬(Jg l id).a=1:=fun c=>bt (.inr c);rw[Xa h6,Xa h1]at ho;rw[Je,Ja];simp[XY,r84,h6,h1];rw[Ja];simp[XY,r64];refine ao (RunD.G G4) W4 ho (by decide) ?_;intro S6 hA;simp[XZ];exact hA
  rcases bt with h6|h1
  ·rw[Xd h6]at ho;have h1:¬(Jg l id).a=1:=by omega
   rw[Je,Ja];simp[XY,r84,h6];rw[Ja];simp[XY,r54,r64];refine a8 ?_;intro T S5 G5 ov;have r85:=G5.A r84;have r55:=G5.A r54;have r95:=G5.A r9;have ag:=G4.B G5
   cases aq:Qf E pp with
   | none=>
     rw[aq]at ov ho;have ov:T= .p [.d .i64 0, .g, .h false]:=ov;subst ov;simp[XY];rw[Ja];simp[XZ,r85,h6];exact ai ag (aw ag) (hK.A (Xb _) (by omega)) ho (by rfl) (by rfl) (by rfl) (by rfl) (Ch.G _ G5.D) r95
   | some yy=>
     obtain⟨yv,al⟩:=yy;rw[aq]at ov ho;obtain⟨wv,rfl,wp⟩:=ov;have dj:=wp.A;have dv:=wp.B;obtain⟨ar,bu⟩:=kid0 (cd (.inr (.inr h6)));obtain⟨X,o,e1,e4⟩:=bu ag;simp[XY];rw[Ja];simp[XY,r85,h6];simp[XY,r55,r85,e1,e4,dj];have cj:NarC (fun K=>S4.A K= .none) S5 [.d .i64 yv,wv, .d .i64 ((Jg l id).c.getD 0 0:Nat)] (yv,al,(Jg l id).c.getD 0 0):=⟨wv,rfl,wp⟩
     have dk:NarC (fun K=>¬U1 K/\K≠p9) {S5 with a:=S5.t} [.d .i64 yv,wv, .d .i64 ((Jg l id).c.getD 0 0:Nat)] (yv,al,(Jg l id).c.getD 0 0):=cj.A fun K a b=>⟨⟨(W4.B a).1,fun n=>Jb r9 (by grind)⟩,rfl⟩
     refine Jj (P:=fun T S'=>∃e',T= .j e'/\EnvC (fun K=>(¬U1 K/\K≠p9)\/S5.A K= .none) S' e' (KB E (yv,al,(Jg l id).c.getD 0 0))) (Jtb (Js G5.D _) ((aw ag).A kR) dk hK.k.d) ?_;rintro _ S6 G6 ⟨e',rfl,ae⟩;have ae:EnvC (fun K=>(¬U1 K/\K≠p9)\/S5.A K= .none) S6 e' (KB E (yv,al,(Jg l id).c.getD 0 0)):=ae.A kR;have ae:=a9 ag (Jb r95) ae;have bb:=ae;obtain⟨u0,u1,u2,rfl,v0,v1,v2⟩:=Kq bb;have r96:=G6.A r95;simp[XZ,r96,v0.1,v1.1,v2.1];exact ai (ag.B G6) ae ((hK.A (Xb _) (b':=sizL O ab+1) (by omega)).D ⟨JjI aq,js _ _ _ _ f1 aq,ar⟩) ho (by rfl) (by rfl) (by rfl) (by rfl) (am G6.D r96).1 (am G6.D r96).2
  ·have h6:¬(Jg l id).a=6:=by omega
   rw[Xa h6,Xd h1]at ho;rw[Je,Ja];simp[XY,r84,h1];rw[Ja];simp[XY,r54,r64];refine a8 ?_;intro T S5 G5 ov;have r85:=G5.A r84;have r95:=G5.A r9;have ag:=G4.B G5;have hv:∃z1 z2 z3,T= .p [z1,z2,z3]:=by
    cases aq:Qf E pp with
    |none=>rw[aq]at ov;exact⟨_,_,_,ov⟩
    |some yy=>rw[aq]at ov;obtain⟨wv,n,_⟩:=ov;grind
   obtain⟨z1,dw,z3,rfl⟩:=hv;simp[XY];rw[Ja];simp[XZ,r85,h6];exact ai ag (aw ag) (hK.A (Xb _) (by omega)) ho (by rfl) (by rfl) (by rfl) (by rfl) (Ch.G _ G5.D) r95
 ·have ho:oneS i names l cs E id (.mk 6 at_ sx nm pp ab ad he cases)=Qi i l cs (KJ E (if(Jg l id).a=6 then(Jg l id).c.getD 0 0 else id)) ab E ad:=rfl;rw[Ja];simp[XY,r64];rw[Ja];simp[XY];rw[Ja];simp[XY];rw[Ja];simp[XY,r54];refine Jc (Jd5 (id:=id) G4.D bg hK.k.e hK.k.d fun x h=>(hK.k.c x h).1) ?_;rintro _ S5 ⟨G5,e',rfl,ae⟩;have ag:=G4.B G5;have ae:=a9 G4 (Jb r9) ae;have bb:=ae;obtain⟨u0,u1,u2,rfl,v0,v1,v2⟩:=Kq bb;have r95:=G5.A r9;have r85:=G5.A r84;have r55:=G5.A r54;simp[XY,r95,v0.1,v1.1,v2.1];have ck:=am (l':=[u0,u1,u2]) G5.D r95;have bk:Gr S3 (S5.D p9 t9 fun N=> .a N [u0,u1,u2]):=ag.J b8 (Jb r95) (by rw[r95];rfl) (Jd _);generalize (S5.D p9 t9 fun N=>Row.a N [u0,u1,u2])=S6 at ck bk⊢;obtain⟨C6,r96⟩:=ck;have dl:p8≠p9:=fun n=>Jb r8 (by grind);have cl:p5≠p9:=fun n=>Jb r53 (by grind);have r86:=(C6.d p8 (Jb r85) dl).trans r85;have r56:=(C6.d p5 (Jb r55) cl).trans r55;by_cases h6:(Jg l id).a=6
  ·rw[Xd h6]at ho;obtain⟨ar,bu⟩:=kid0 (cd (.inr (.inr h6)));obtain⟨X,o,e1,e4⟩:=bu bk;rw[Ja];simp[XY,r86,h6];simp[XY,r56,r86,e1,e4];refine br bk (Jb r96) ?_;intro q0 q1 q2 S7 G7 bc w0 w1 w2;have r97:=G7.A r96;simp[XZ,r97,w0.1,w1.1,w2.1];exact ai (bk.B G7) bc ((hK.A (Xb _) (by omega)).B ar) ho (by rfl) (by rfl) (by rfl) (by rfl) (am G7.D r97).1 (am G7.D r97).2
  ·rw[Xa h6]at ho;rw[Ja];simp[XZ,r86,h6];exact ai ag ae ((hK.A (Xb _) (by omega)).B hid) ho (by rfl) (by rfl) (by rfl) (by rfl) C6 r96
 ·have ho:oneS i names l cs E id (.mk 7 at_ sx nm pp ab ad he cases)=if(Jg l id).a=4\/(Jg l id).a=5 then Qi i l cs (KJ E ((Jg l id).c.getD 0 0)) ab E ad else(l,cs,17,-1):=rfl;rw[Ja];simp[XY,r64];rw[Ja];simp[XY];rw[Ja];simp[XY];rw[Ja];simp[XY];have bw:((Jg l id).a=4/\((Jg l id).a=4\/(Jg l id).a=5))\/(¬(Jg l id).a=4/\(Jg l id).a=5)\/(¬(Jg l id).a=4/\¬(Jg l id).a=5):=by omega
  have go:((Jg l id).a=4\/(Jg l id).a=5)->(Jg l id).c.getD 0 0<l.a.length/\(∃X o,Jo 1 ky (.d .i64 0)=some (.e X o, .a)/\ld1 (S4.A X) o=some (.d .i64 ((Jg l id).c.getD 0 0:Nat), .a))/\oneS i names l cs E id (.mk 7 at_ sx nm pp ab ad he cases)=Qi i l cs (KJ E ((Jg l id).c.getD 0 0)) ab E ad:=fun h=>by grind
  rcases bw with⟨h4,hh⟩|⟨h4,h5⟩|⟨h4,h5⟩
  ·obtain⟨ar,⟨X,o,e1,e4⟩,ho⟩:=go hh;rw[Je,Ja];simp[XY,r84,h4];simp[XY,r54,r84,e1,e4];refine br G4 (Jb r9) ?_;intro q0 q1 q2 S7 G7 bc w0 w1 w2;have r97:=G7.A r9;simp[XZ,r97,w0.1,w1.1,w2.1];exact ai (G4.B G7) bc ((hK.A (Xb _) (by omega)).B ar) ho (by rfl) (by rfl) (by rfl) (by rfl) (am G7.D r97).1 (am G7.D r97).2
  ·obtain⟨ar,⟨X,o,e1,e4⟩,ho⟩:=go (.inr h5);rw[Je,Ja];simp[XY,r84,h5];simp[XY,r54,r84,e1,e4];refine br G4 (Jb r9) ?_;intro q0 q1 q2 S7 G7 bc w0 w1 w2;have r97:=G7.A r9;simp[XZ,r97,w0.1,w1.1,w2.1];exact ai (G4.B G7) bc ((hK.A (Xb _) (by omega)).B ar) ho (by rfl) (by rfl) (by rfl) (by rfl) (am G7.D r97).1 (am G7.D r97).2
  ·rw[Xa (fun h=>h.elim h4 h5)]at ho;rw[Je,Ja];simp[XY,r84,h4,h5];rw[Ja];simp[XY,r64];refine ao (RunD.G G4) W4 ho (by decide) ?_;intro S6 hA;simp[XZ];exact hA
 ·have cm:ab=[]:=g5 rfl;have ho:oneS i names l cs E id (.mk 8 at_ sx nm pp ab ad he cases)=if(Jg l id).a=8 then(if(KY i E (Jg l id) he l cs cases).2.2.1≠0 then KY i E (Jg l id) he l cs cases else i (KY i E (Jg l id) he l cs cases).1 (KY i E (Jg l id) he l cs cases).2.1 E ad)else(l,cs,17,-1):=by
   have q5:¬(8:Int)=5:=by decide
   have q6:¬(8:Int)=6:=by decide
   have q7:¬(8:Int)=7:=by decide
   unfold oneS KY
   grind
  rw[Ja];simp[XY,r64];rw[Ja];simp[XY];rw[Ja];simp[XY];rw[Ja];simp[XY];rw[Ja];simp[XY];by_cases h8:(Jg l id).a=8;rotate_left
  ·rw[Xa h8]at ho;rw[Je,Ja];simp[XY,r84,h8];rw[Ja];simp[XY,r64];refine ao (RunD.G G4) W4 ho (by decide) ?_;intro S6 hA;simp[XZ];exact hA
  rw[Xd h8]at ho;rw[Je,Ja];simp[XY,r84,h8];simp[XY,r54,r64,r84];have cn:(Jg l id).c.length=(Jg l id).b.length:=by rw[kl,jE,h8];rfl
  have co:∀c∈cases,fitL (fitP (j+1)) O c.2:=f5.2;have cp:(cases.map fun c=>sizL O c.2).sum<=1+sizL O ab+sizL O ad+(cases.map fun c=>sizL O c.2).sum:=by omega
  have bx:∀K,¬U1 K->S3.A K≠ .none->¬U1 K/\S4.A K=S3.A K:=G4.H;have bl:=JcY F (E:=E) (nd:=Jg l id) cases (tb:=l) (cs:=cs) (was:=[]) hO o6 cn hK cp co;refine Jc (Jrf H F A W4 hO (bg.A fun K a b=>⟨a.1,rfl⟩) hK (NodC.A bx av) (c1.D bx) (b9.D bx) cn o5.b o6 cp f5.1 co g8 (by omega)) ?_;rintro _ S5 ⟨rfl,U5,R5,W5⟩;have cq:OfF r (KY i E (Jg l id) he l cs cases).1/\l.a.length<=(KY i E (Jg l id) he l cs cases).1.a.length/\(KY i E (Jg l id) he l cs cases).2.1.length<=cs.length+(cases.map fun c=>sizL O c.2).sum:=by
   unfold KY;generalize Q7 i E (Jg l id) l cs [] cases=z at bl;obtain⟨⟨aj,ap,n,a⟩,dx⟩:=z;simp;have h1:OfF r aj:=bl.c;have h2:l.a.length<=aj.a.length:=bl.f;have h3:ap.length<=cs.length+(cases.map fun c=>sizL O c.2).sum:=bl.d
   grind
  obtain⟨h1,h2,h3⟩:=cq;generalize KY i E (Jg l id) he l cs cases=y at*;obtain⟨ah,ak,e5,a5⟩:=y;have W5:WkD Z1 S5 U5 q u r ah f names ak (if e5=0 then a else if a5<0 then at_ else a5) e5 (e5=0):=W5;simp only at ho h1 h2 h3;have cl:p5≠p9:=fun n=>Jb r53 (by grind);have dy:p6≠p9:=fun n=>Jb r63 (by grind);have bz:RunD Z1 U1 S3 S5 U5:=(RunD.G G4).B R5;have r55:=(R5.D p5 (Jb r54) u5).1.trans r54;have r65:=(R5.D p6 (Jb r64) u6).1.trans r64;have r95:=(R5.D p9 (Jb r9) u9.1).1.trans r9;have bn:EnvC (fun K=>¬U5 K) S5 [x0,x1,x2] E:=(bg.A fun K a b=>⟨a.1,rfl⟩:EnvC (fun K=>¬U1 K) S4 [x0,x1,x2] E).A R5.F;simp[XZ];refine hJ _ _ ⟨rfl,rfl,rfl,rfl,U5,ah,ak,_,E,t9,r55,r65,r95,bz,bn,bn,NodsC.A cb bz.F,NodsC.A cc bz.F, ?_⟩;by_cases c:e5=0
  ·subst c;simp only[GA,XH,X2]at ho;simp only[ZT]at W5;refine .inl ⟨W5.A fun _=>trivial,h1,h2,hK.A h2 (by omega),by omega, ?_⟩;rw[ho,cm];unfold Qi
   grind
  ·rw[Xa c]at W5;rw[Xd c]at ho;refine .inr ⟨cm,e5,_,c,W5.A fun h=>h.elim, ?_⟩;rw[ho];rfl
end Go.Proofs.YtmcjecniobkggaaGreat
