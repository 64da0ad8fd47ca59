/- The document's walk: a node. The document's walk over rows; its Body. The document's Bo -/
import Derived.Test.YtmcjecniobkggaaGreatQ7
set_option linter.constructorNameAsVariable false
set_option maxHeartbeats 32000000
set_option linter.unusedVariables false
set_option linter.unusedSimpArgs false
set_option linter.unusedSectionVars false
set_option maxRecDepth 100000
namespace Go.Proofs.YtmcjecniobkggaaGreat
open Eva Go.RowKit
variable {v:Tb->List Nat->List Nat->Nat×Int}{e d f:Pt->Prop}{n S M:St}{t c:List V}{k u:Nat}{z:V->St->Prop}{b:Option (List Nat)}{i:List Str}{r W:Pt}{q:Tb->Cls->EnvS->List Nod->AnsR}{p:Sch}{h:List (Opn×Nat)}{g:EnvS}{m:Tb}{j T:V}{a:Int}{w:Fr}{x:R9}{y:Str}{Q:Opn}{K:Pipe}{L:Bool}
def AnsN (Z U P:Pt->Prop)(S:St)(w ru:Pt)(s:Sch)(nv:V)(names:List Str)(a:Int)(x:AnsR×EnvS)(v:V)(S':St):Prop:=∃(U':Pt->Prop) (z0 z1 z2:V),RunD Z U S S' U'/\v= .j [z0,z1,z2]/\((z0.B=true/\z0.A=some [z0])/\(z1.B=true/\z1.A=some [z1])/\(z2.B=true/\z2.A=some [z2]))/\WkD Z S' U' w ru s x.1.1 nv names x.1.2.1 (if x.1.2.2.1=0 then a else x.1.2.2.2) x.1.2.2.1 (x.1.2.2.1=0)/\(x.1.2.2.1=0->EnvC (fun r=>¬U' r/\(P r\/S.A r= .none)) S' [z0,z1,z2] x.2)
theorem Jtc {sg:Tb->List Nat->List Nat->Nat×Int}(q:p.c=[]){names:List Str}{y:Cls}{E:EnvS}(x:WkD e n d r W p m j names y a 0 True)(P:OfF p m)(X:EnvC (fun f=>¬d f) n t E)(Y:EnvK m E)(hp:PipC (fun f=>¬d f) n k T K)(g:fitP k K)(i:docP k K)
  (hQ:∀S' L,RunD e d n S' L->WkD e S' L r W p (ofS sg k E m K).1 j names y a 0 ((ofS sg k E m K).2.2=0)->z (.p [.d .i64 ((ofS sg k E m K).2.1:Nat), .d .i64 (ofS sg k E m K).2.2]) S'):J8 (tabT tabD) true (some []) 92 [.e W 0, .j t,T] w n z:=by
 obtain⟨U0,D,N,l⟩:=x.M;have wl:=Js x.wf n.t;refine JW (W:=U0) x.wf ((Jt3 (sg:=sg) (m:=k) q (D.D wl) P (X.A fun f a b=>⟨N f a,rfl⟩) Y (PipC.A hp fun f a b=>⟨N f a,rfl⟩) g i).A fun v S' h=>⟨by obtain⟨O,A⟩:=h;exact A.b.ch,h⟩) ?_;rintro v S' lo C ⟨O,A⟩;obtain rfl:=A.a;obtain⟨U1,R1,W1⟩:=l (S':={S' with a:=lo}) (U1:=O) (tb':=(ofS sg k E m K).1) (o:=(ofS sg k E m K).2.2=0) ⟨C,fun f u=>A.b.c f u⟩ fun t=>(A.tab t).D ⟨C.D.a,C.D.t⟩;exact hQ _ U1 R1 W1
theorem Jtd {names:List Str}{sg:Tb->List Nat->List Nat->Nat×Int}{ad:Tb->Cls->EnvS->List Nod->AnsR}(bc:p.c=[])(br:names.length<100000)(H:RowD p names (k+1) u ad)(F:RowF p (fitP (k+1)) u ad)(A:RowA (k+1) u ad)(bd:∀m cs E,ad m cs E []=(m,cs,0,-1)){cs:Cls}{en:List V}{E:EnvS}{n:Nod}(hW:WkD e S d r W p m j names cs a 0 True)(hO:OfF p m)
  (hE:EnvC (fun o=>¬d o/\f o) S c E) (hK:EnvR m E (sizN (u+1) n)) (hn:NodC (fun o=>¬d o) S (k+1) (u+1) en n) (hf:fitN (fitP (k+1)) (u+1) n) (hd:docN (k+1) (u+1) n) (hc:cs.length+sizN (u+1) n<100000):
  Dz 42 [.e r 0, .j c, .j en] S (AnsN e d f S r W p j names a (kj sg (oneS ad names) (k+1) m cs E n)):=by
 have hw:=hW.wf;refine Jl (aT Tryz.func42 rfl) rfl ?_;obtain⟨K,at_,sx,nm,pp,aa,af,he,cases⟩:=n;have be:=hE;have bf:=hn;obtain⟨vv,al,rfl,h1,h2,c1,c2⟩:=Ki hE;obtain⟨pv,bv,ev,xv,rfl,y1,y2,y3,y4⟩:=hn;have c4:=LstAt.G y1;have c5:=y2.G;have c6:=y3.G;have c7:=y4.G;have lp:=LstAt.H y1;have bt:=hd;have bu:=hf;obtain⟨g1,g2,g3,g4,g5,g6,g7,g8⟩:=hd;obtain⟨n0,bg⟩:=nxE S;simp only[CT,Tryz.f42,XY,simprocAttr];rw[Ja];simp[XY,bg,c1.1,c2.1,c4.1,c5.1,c6.1,c7.1];generalize bw:up 0 n0=p4;generalize bx:up 1 n0=p5;generalize bz:up 2 n0=p6;refine nm3 hw bg bw bx bz ?_;intro S1 G1 ⟨aq,b0,ai⟩ ⟨cl,b1,cm⟩ ⟨t4,r4⟩ ⟨t5,r5⟩ ⟨t6,r6⟩;have W1:=hW.F G1;have R1:RunD e d S S1 d:=RunD.G G1;have b2:=h2;have u4:=(hW.B aq).1;have u5:=(hW.B b0).1;have u6:=(hW.B ai).1;have bh:=(be.A fun o a b=>⟨a.1,rfl⟩:EnvC (fun o=>¬d o) S _ E).A R1.F;have bi:=NodC.A R1.F bf;have b3:=PipC.A y1 R1.F;have ah:typS sg (k+1) E m (.mk K at_ sx nm pp aa af he cases)=if K≠1/\(K≠9\/pp≠[])then ofS sg (k+1) E m pp else(m,0,0):=rfl;have hT:=Jcr (SgOK.A (sg:=sg) bc) (m:=k+1) hO hK.k (.mk K at_ sx nm pp aa af he cases);unfold kj;generalize hx:typS sg (k+1) E m (.mk K at_ sx nm pp aa af he cases)=x at*;obtain⟨X,id,er⟩:=x;simp only;obtain⟨x',ag⟩:∃x',x'=if pp=[]then E.c else id:=⟨_,rfl⟩
 obtain⟨J,hJ⟩:=opE fun fr S'=>fr 0= .e r 0/\fr 4= .e p4 0/\fr 5= .e p5 0/\fr 6= .e p6 0/\fr 7= .d .i64 (x':Nat)/\er=0/\∃U',RunD e d S1 S' U'/\WkD e S' U' r W p X j names cs a 0 True;have az:∀{S3:St} {U3:Pt->Prop} {x:AnsR×EnvS} {z0 z1 z2:V} {t:Nat} {l:List V},RunD e d S S3 U3->¬U3 p6->S3.A p6= .a t l->((z0.B=true/\z0.A=some [z0])/\(z1.B=true/\z1.A=some [z1])/\(z2.B=true/\z2.A=some [z2]))->WkD e S3 U3 r W p x.1.1 j names x.1.2.1 (if x.1.2.2.1=0 then a else x.1.2.2.2) x.1.2.2.1 (x.1.2.2.1=0)->(x.1.2.2.1=0->EnvC (fun o=>(¬U3 o/\o≠p6)/\(f o\/S.A o= .none)) S3 [z0,z1,z2] x.2)->AnsN e d f S r W p j names a x (.j [z0,z1,z2]) (S3.D p6 t fun L=> .a L [z0,z1,z2]):=by
  intro S3 U3 x z0 z1 z2 t l ar v6 r63 hz W3 a0;have C6:Ch (fun o=>o=p6) S3 (S3.D p6 t fun L=> .a L [z0,z1,z2]):=(Ch.G _ W3.wf).J (Jb r63) (by rw[r63];rfl) (.inl rfl) (Jd _);exact⟨U3,z0,z1,z2,⟨ar.ch.A C6 fun o c=> .inr (by rw[c];exact ai),ar.c⟩,rfl,hz,W3.I C6 (fun o c=>by rw[c];exact⟨v6,(hW.B ai).2⟩) (hW.i.D fun o a b=>by
   have h:=ar.F o a b;exact⟨h.1,by rw[C6.d o (by rw[h.2];exact b) fun c=>b (by rw[c];exact ai),h.2]⟩),fun h=>(a0 h).A fun o a b=>⟨⟨a.1.1,a.2⟩,C6.d o b a.1.2⟩⟩
 rw[Ja];simp only[XY,simprocAttr,r4];refine QE J ?_ ?_
 ·by_cases ab:pp=[]
  ·have bj:=g2 ab;have b4:JU pv=some (.d .i64 0, .a):=by rw[ab]at lp;exact lp
   have a5:¬(0:Int)>0:=by omega
   rw[Xa (by rintro⟨h1,h2⟩;rcases bj with h|h;exact h1 h;exact h2.elim (fun h3=>h3 h) fun h3=>h3 ab)]at ah;injection ah with e1 e2;injection e2 with e2 e3;subst e1 e2 e3;rw[Ja];simp only[XZ,simprocAttr,r5,b4,a5];exact(hJ _ _).2 ⟨rfl,rfl,rfl,rfl,by simp only[XZ,simprocAttr,ag,Xd ab],rfl,d,RunD.H W1.wf,W1⟩
  ·have b5:K≠1:=fun h=>ab (g3 h);have a5:(pp.length:Int)>0:=by
    have:=GD.2 ab;omega
   rw[Xd ⟨b5, .inr ab⟩]at ah;obtain⟨cn,t1,w1,_⟩:=W1.H;rw[Ja];simp only[XY,simprocAttr,r5,lp,a5];rw[Ja];simp only[XY,simprocAttr,r4,r5,w1];refine Jtc (sg:=sg) bc W1 hO bh hK.k b3 hf.1 (g4 ab) ?_;intro S2 U2 R2 W2;rw[<-ah]at W2⊢;have r42:=(R2.D p4 (Jb r4) u4).1.trans r4;have r52:=(R2.D p5 (Jb r5) u5).1.trans r5;have r62:=(R2.D p6 (Jb r6) u6).1.trans r6;have v6:=(R2.D p6 (Jb r6) u6).2;simp only[XY,simprocAttr];by_cases O:er=0
   ·subst O;rw[Je,Ja];simp only[XZ,simprocAttr];exact(hJ _ _).2 ⟨rfl,rfl,rfl,rfl,by simp only[XZ,simprocAttr,ag,Xa ab],rfl,U2,R2,W2.A fun _=>rfl⟩
   ·rw[Je,Ja];simp only[XY,simprocAttr,O];rw[Ja];simp only[XY,simprocAttr,r52];refine Jc (JdN (e:=er) W2 (NodC.A R2.F bi)) ?_;rintro _ S3 ⟨rfl,R3,W3⟩;have v4:=(R2.D p4 (Jb r4) u4).2;have r43:=(R3.D p4 (Jb r42) v4).1.trans r42;have r63:=(R3.D p6 (Jb r62) v6).1.trans r62;have ar:=(R1.B R2).B R3;simp only[XY,simprocAttr];rw[Ja];simp only[XZ,simprocAttr,r43,r63,c1.1,c2.1];refine az (x:=((X,cs,er,at_),E)) ((R1.B R2).B R3) (R3.D p6 (Jb r62) v6).2 r63 ⟨⟨rfl,rfl⟩,c1,c2⟩ ?_ fun h=>absurd h O;simp only[ZT]at W3;simp only[Xa O];exact W3.A fun h=>h
 intro fr S2 au;obtain⟨f0,f4,f5,f6,f7,rfl,U2,R2,W2⟩:=(hJ _ _).1 au;clear au hJ J;have o1:OfF p X:=hT.b;have b6:m.a.length<=X.a.length:=hT.f;have hid:id<X.a.length:=hT.g rfl;simp only[XH,X2];have r42:=(R2.D p4 (Jb r4) u4).1.trans r4;have r52:=(R2.D p5 (Jb r5) u5).1.trans r5;have r62:=(R2.D p6 (Jb r6) u6).1.trans r6;have v4:=(R2.D p4 (Jb r4) u4).2;have v5:=(R2.D p5 (Jb r5) u5).2;have v6:=(R2.D p6 (Jb r6) u6).2;have bk:=bh.A R2.F;have av:=NodC.A R2.F bi;have bl:=hK.A b6 (Xb _);obtain⟨Y,hY⟩:=exE (match oneS ad names X cs E id (.mk K at_ sx nm pp aa af he cases)with
   |(m,cs,c,a)=>if c≠0 then((m,cs,c,if a<0 then at_ else a),E)else((m,cs,0,-1),if K=3 then varS E nm id else E))
 obtain⟨J,hJ⟩:=opE fun fr S'=>fr 4= .e p4 0/\fr 6= .e p6 0/\∃(U3:Pt->Prop) (z0 z1 z2:V) (t:Nat),S'.A p4= .a t [z0,z1,z2]/\S'.A p6= .a t6 [.d .i64 0, .g, .g]/\RunD e d S S' U3/\¬U3 p6/\((z0.B=true/\z0.A=some [z0])/\(z1.B=true/\z1.A=some [z1])/\(z2.B=true/\z2.A=some [z2]))/\WkD e S' U3 r W p Y.1.1 j names Y.1.2.1 (if Y.1.2.2.1=0 then a else Y.1.2.2.2) Y.1.2.2.1 (Y.1.2.2.1=0)/\(Y.1.2.2.1=0->EnvC (fun o=>(¬U3 o/\o≠p6)/\(f o\/S.A o= .none)) S' [z0,z1,z2] Y.2);refine QE J ?_ ?_;rotate_left
 ·intro fr S3 au;obtain⟨f4,f6,U3,z0,z1,z2,t,r43,r63,R3,b7,⟨q0,q1,q2⟩,W3,a0⟩:=(hJ _ _).1 au;have hA:=az (x:=Y) R3 b7 r63 ⟨q0,q1,q2⟩ W3 a0;rw[hY]at hA;rw[Ja];simp only[XZ,simprocAttr,f4,f6,r43,r63,q0.1,q1.1,q2.1];exact hA
 have ae:∀{fr:Fr} {S3:St} {U3:Pt->Prop} {y:AnsR},fr 4= .e p4 0->fr 6= .e p6 0->K≠3->RunD e U2 S2 S3 U3->fixA at_ (oneS ad names X cs E id (.mk K at_ sx nm pp aa af he cases))=y->WkD e S3 U3 r W p y.1 j names y.2.1 (if y.2.2.1=0 then a else y.2.2.2) y.2.2.1 (y.2.2.1=0)->J fr S3:=by
  intro fr S3 U3 y h4 h6 b8 R3 hy W3;have r43:=(R3.D p4 (Jb r42) v4).1.trans r42;have r63:=(R3.D p6 (Jb r62) v6).1.trans r62;have b9:Y.1.1=y.1/\Y.1.2.1=y.2.1/\Y.1.2.2.1=y.2.2.1/\(y.2.2.1≠0->Y.1.2.2.2=y.2.2.2)/\Y.2=E:=by
   rw[hY,<-hy];unfold fixA;generalize oneS ad names X cs E id (.mk K at_ sx nm pp aa af he cases)=z;obtain⟨a1,a2,a3,a4⟩:=z;simp;by_cases O:a3=0
   ·subst O;simp[b8]
   ·simp[O]
  obtain⟨k1,k2,k3,ca,k5⟩:=b9;refine(hJ _ _).2 ⟨h4,h6,U3,_,_,_,t4,r43,r63,(R1.B R2).B R3,(R3.D p6 (Jb r62) v6).2,⟨⟨rfl,rfl⟩,c1,c2⟩, ?_,fun _=> ?_⟩
  ·rw[k1,k2,k3];by_cases O:y.2.2.1=0
   ·simp[Xd O]at W3⊢;exact W3
   ·simp[Xa O]at W3⊢;rw[ca O];exact W3
  ·rw[k5];have:=(R1.B R2).B R3;exact be.A fun o a b=>⟨⟨⟨(this.F o a.1 b).1,fun c=>b (by rw[c];exact ai)⟩, .inl a.2⟩,(this.F o a.1 b).2⟩
 rw[Ja];simp[XY,f5,r52];rw[Ja];simp[XY];by_cases k3:K=3
 ·subst k3;have ab:¬pp=[]:=fun h=>by rcases g2 h with h|h<;>omega
  rw[Xa ab]at ag;rw[ag]at f7;have bm:Y=((X,cs,0,-1),varS E nm id):=by
   rw[hY];unfold oneS;simp
  have am:=R1.B R2;have cb:SlAt (fun o=>¬U2 o) S2 vv 2 (E.a.map varE):=h1.D fun o a b=>am.F o a.1 b;have co:=hK.v;have w2:=W2.wf;obtain⟨nA,ao⟩:=nxE S2;have cc:=fun K=>nes (Jr w2 ao (Jb r42) K);have cp:=fun K=>nes (Jr w2 ao (Jb r52) K);simp[XY,f4,r42,ao,cc];obtain⟨x0,a6⟩:=exE (up 0 nA);obtain⟨S3,aw⟩:=exE (S2.B fun t=>Row.a t []);have G3:Gr S2 S3:=by rw[aw];exact Gr.G w2 (Jd _)
  obtain⟨t1,q1⟩:∃t,S3.A x0= .a t []:=⟨_,by rw[aw,a6];simp[XZ,ao];rfl⟩
  have a7:S2.A x0= .none:=by rw[a6];exact nx0 w2 ao 0
  rw[<-aw,<-a6];clear aw;have cd:SlF S2 S3 (.m x0 0 0 2 0) 2 []:=⟨by simp, .inr ⟨x0,t1,a7,by rw[q1];rfl, .inr rfl⟩⟩
  have nx:∀T,S2.A T≠ .none->rowOf (.m x0 0 0 2 0)≠some T:=fun T h c=>by
   injection c with c;exact h (by rw[<-c];exact a7)
  refine Qw (S0:=S2) G3 cd (cb.H G3) (Jcq _) (by rw[XU];omega) (by rw[XU];simp;omega) fun Sa v1 ga a8 ck a9=> ?_;simp at a8;have kS:∀{T:Pt} {t:Nat} {l:List V},S2.A T= .a t l->Sa.A T= .a t l:=fun{T t l} h=>(a9 T (by rw[G3.d T (Jb h)];exact Jb h) (nx T (Jb h))).trans (G3.A h);have cq:=kS r42;have ce:=kS r52;have cr:=kS r62;have cf:∀T,rowOf v1=some T->S2.A T= .none:=fun T c=>(a8.H c).1;obtain⟨nB,bn⟩:=nxE Sa;have wa:=ga.D;simp[XY,f5,f7,ce,bn];obtain⟨Sb,ax⟩:=exE (Sa.B fun t=>Row.a t [ofL nm, .d .i64 (id:Nat)]);have gb:Gr Sa Sb:=by rw[ax];exact Gr.G wa (Jd _)
  have bo:SlAt (fun o=>o=up 0 nB) Sb (.m (up 0 nB) 0 1 2 1) 2 [[ofL nm, .d .i64 (id:Nat)]]:=by
   have:=Ql (st:=Sa) (z:=2) (e:=[ofL nm, .d .i64 (id:Nat)]) rfl
   rwa [bn,<-ax]at this
  rw[<-ax];clear ax;refine QG (S0:=S2) (ga.B gb) (a8.G gb) bo (fun c he=>by rw[Xn.1 he];rfl) (by simp) (by simp) (by simp;omega) ?_;intro Sc v2 gc ap ct cg;have kc:∀{T:Pt} {t:Nat} {l:List V},S2.A T= .a t l->Sc.A T= .a t l:=fun{T t l} h=>(cg T (by rw[gb.d T (Jb (kS h))];exact Jb (kS h)) fun c=>Jb h (cf T c)).trans (gb.A (kS h));have ba:=kc r42;have bp:=kc r62;have s2:=ap.D.B;have s3:=ap.D.A;simp[XZ,f4,ba,s2,s3];refine⟨JQ (v:= .m x0 0 0 2 0) (w:= .e p5 3) (q:=p5) ?_ ?_ rfl fun c=>Jb r52 (by injection c with c;rw[<-c];exact a7), ?_⟩
  ·simp[XZ]
  ·simp[XZ]
  obtain⟨S5,ay⟩:=exE (Sc.D p4 t4 fun L=> .a L [.d .i64 (E.c:Nat),v2,al]);have C5:Ch (fun o=>o=p4) Sc S5:=by rw[ay];exact(Ch.G _ gc.D).J (Jb ba) (by rw[ba];rfl) (.inl rfl) (Jd _)
  obtain⟨cj,r45⟩:∃t,S5.A p4= .a t [.d .i64 (E.c:Nat),v2,al]:=⟨_,by rw[ay];exact Jk _ _ _ _⟩
  rw[<-ay];clear ay;have bb:Ch (fun o=>o=p4) S2 S5:=(Ch.H _ gc).A C5 fun o c=> .inl c;have aj:∀o,¬d o->S.A o≠ .none->(¬U2 o/\o≠p6)/\S5.A o=S.A o:=fun o a b=>by
   have h:=am.F o a b;exact⟨⟨h.1,fun c=>b (by rw[c];exact ai)⟩,by rw[bb.d o (by rw[h.2];exact b) fun c=>b (by rw[c];exact aq),h.2]⟩
  have W5:WkD e S5 U2 r W p X j names cs a 0 True:=W2.I bb (fun o c=>by rw[c];exact⟨v4,(hW.B aq).2⟩) (hW.i.D fun o a b=>⟨(aj o a b).1.1,(aj o a b).2⟩);have R5:RunD e d S S5 U2:=⟨am.ch.A bb fun o c=> .inr (by rw[c];exact aq),am.c⟩
  refine(hJ _ _).2 ⟨f4,f6,U2,_,_,_,cj,r45,(C5.d p6 (Jb bp) (Ne.symm b1)).trans bp,R5,v6,⟨⟨rfl,rfl⟩,⟨s2,s3⟩,c2⟩, ?_,fun _=> ?_⟩
  ·rw[bm];exact W5.A fun _=>trivial
  ·rw[bm];have h2:SlF S2 S5 v2 2 (E.a.map varE++[[ofL nm, .d .i64 (id:Nat)]]):=ap.B fun o c=>C5.d o (ap.A c) fun x=>Jb r42 (by rw[<-x];exact(ap.H c).1);refine⟨v2,al,rfl, ?_,(show LstAt (NarC (fun o=>¬d o/\f o) S) (fun o=>¬d o/\f o) S al 3 E.b from b2).B (fun _ _ h=>h.A fun o a b=>⟨⟨(aj o a.1 b).1, .inl a.2⟩,(aj o a.1 b).2⟩) fun o a b=>⟨⟨(aj o a.1 b).1, .inl a.2⟩,(aj o a.1 b).2⟩⟩;have e2:(varS E nm id).a.map varE=E.a.map varE++[[ofL nm, .d .i64 (id:Nat)]]:=by simp[varS,varE]
   rw[e2];exact h2.D.D fun o c _=>⟨⟨⟨(W2.B c).1,fun x=>Jb r62 (by rw[<-x];exact c)⟩, .inr (am.ch.B c)⟩,rfl⟩
 by_cases k4:K=4
 ·subst k4;have ab:¬pp=[]:=fun h=>by rcases g2 h with h|h<;>omega
  rw[Xa ab]at ag;rw[ag]at f7;simp[XY];rw[Ja];simp[XY];simp[XY,f0,f4,f5,f7,r42,r52];refine Jc (Jt5 (id:=id) W2 bk (bl.k) av) ?_;rintro _ S3 ⟨rfl,R3,W3⟩;simp[XZ];refine ae (y:=(X,cs,setS E nm id,at_)) f4 f6 k3 R3 ?_ (W3.A fun _=>trivial);unfold oneS fixA;simp
 by_cases k9:K=9
 ·subst k9;simp[XY];rw[Ja];simp[XY];rw[Ja];simp[XY];simp[XY,f0,f5,f7,r52];refine Jc (Jta (id:=x') W2 av br (by omega)) ?_;rintro _ S3 ⟨rfl,U3,R3,W3⟩;simp[XZ];have W3:WkD e S3 U3 r W p X j names (if nm∈names then cs++[(nm,x')]else cs) (if nm∈names then a else at_) (if nm∈names then 0 else 15) True:=W3;refine ae (y:=(X,if nm∈names then cs++[(nm,x')]else cs,if nm∈names then 0 else 15,at_)) f4 f6 k3 R3 ?_ ?_
  ·unfold oneS fixA;rw[ag];by_cases hm:nm∈names<;>simp[hm]
  ·by_cases hm:nm∈names
   ·simp[Xd hm]at W3⊢;exact W3.A fun _=>trivial
   ·simp[Xa hm]at W3⊢;exact W3.A fun _=>trivial
 by_cases k2:K=2
 ·subst k2;have ab:¬pp=[]:=fun h=>by rcases g2 h with h|h<;>omega
  rw[Xa ab]at ag;rw[ag]at f7;obtain⟨U0,D,_,_⟩:=W2.M;obtain⟨cu,t2,w2,_⟩:=W2.H;simp[XY];rw[Ja];simp[XY];rw[Ja];simp[XY];rw[Ja];simp[XY];rw[Ja];simp[XY,f0,f7,w2];refine Jc (atD D o1 hid) ?_;rintro _ S3 ⟨G3,kx,ky,rfl,_,_⟩;have W3:=W2.F G3;have r53:=G3.A r52;simp[XY];have ho:fixA at_ (oneS ad names X cs E id (.mk 2 at_ sx nm pp aa af he cases))=(X,cs,if 1<=(Jg X id).a/\(Jg X id).a<=3 then 0 else 17,at_):=by
   unfold oneS fixA;simp
  have bq:¬(1<=(Jg X id).a/\(Jg X id).a<=3)->∀{fr:Fr} {Q:V->St->Prop},(∀S4 U4,RunD e U2 S2 S4 U4->WkD e S4 U4 r W p X j names cs at_ 17 True->Q (.p []) S4)->J8 (tabT tabD) false none 93 [.e r 0, .j [.d .i64 2, .d .i64 at_,ofL sx,ofL nm,pv,bv,ev, .h he,xv], .d .i64 17] fr S3 Q:=by
   intro hb fr Q hQ;refine Jc (JdN (e:=17) W3 (NodC.A G3.H av)) ?_;rintro _ S4 ⟨rfl,R4,W4⟩;simp at W4;exact hQ S4 U2 ((RunD.G G3).B R4) W4
  generalize Jg X id=N at*;have e1:(1<=N.a/\N.a<=3)\/N.a<1\/(¬N.a<1/\N.a>3):=by omega
  rcases e1 with e1|e1|⟨e1,e2⟩
  ·have n1:¬N.a<1:=by omega
   have n2:¬N.a>3:=by omega
   rw[Xd e1]at ho;rw[Ja];simp[XZ,n1,n2];exact ae f4 f6 k3 (RunD.G G3) ho (W3.A fun _=>trivial)
  ·have hb:¬(1<=N.a/\N.a<=3):=by omega
   rw[Xa hb]at ho;rw[Ja];simp[XY,e1];simp[XY,f0,f5,r53];refine bq hb ?_;intro S4 U4 R4 W4;simp[XZ];exact ae f4 f6 k3 R4 ho (W4.A fun _=>trivial)
  ·have hb:¬(1<=N.a/\N.a<=3):=by omega
   rw[Xa hb]at ho;rw[Ja];simp[XY,e1,e2];simp[XY,f0,f5,r53];refine bq hb ?_;intro S4 U4 R4 W4;simp[XZ];exact ae f4 f6 k3 R4 ho (W4.A fun _=>trivial)
 by_cases ak:K=5\/K=6\/K=7\/K=8
 ·have ab:¬pp=[]:=fun h=>by rcases g2 h with h|h<;>omega
  rw[Xa ab]at ag;rw[ag]at f7;have go:∀{fr:Fr} {Q:V->St->Prop},(∀S4 U4,RunD e U2 S2 S4 U4->WkD e S4 U4 r W p (fixA at_ (oneS ad names X cs E id (.mk K at_ sx nm pp aa af he cases))).1 j names (fixA at_ (oneS ad names X cs E id (.mk K at_ sx nm pp aa af he cases))).2.1 (if(fixA at_ (oneS ad names X cs E id (.mk K at_ sx nm pp aa af he cases))).2.2.1=0 then a else(fixA at_ (oneS ad names X cs E id (.mk K at_ sx nm pp aa af he cases))).2.2.2) (fixA at_ (oneS ad names X cs E id (.mk K at_ sx nm pp aa af he cases))).2.2.1 ((fixA at_ (oneS ad names X cs E id (.mk K at_ sx nm pp aa af he cases))).2.2.1=0)->Q (.p []) S4)->J8 (tabT tabD) false none 96 [.e r 0, .j [.d .i64 (E.c:Nat),vv,al], .j [.d .i64 K, .d .i64 at_,ofL sx,ofL nm,pv,bv,ev, .h he,xv], .d .i64 (id:Nat)] fr S2 Q:=by
   intro fr Q hQ;refine Jc (JpU H F A bd W2 o1 hid bk bl av bu bt hc ak) ?_;rintro _ S4 ⟨rfl,U4,R4,W4⟩;exact hQ S4 U4 R4 W4
  rcases ak with rfl|rfl|rfl|rfl
  all_goals
   simp[XY];rw[Ja];simp[XY];rw[Ja];simp[XY];rw[Ja];simp[XY];simp[XZ,f0,f4,f5,f7,r42,r52];refine go ?_;intro S4 U4 R4 W4;simp[XZ];exact ae f4 f6 k3 R4 rfl W4
 have h5:¬K=5:=fun h=>ak (.inl h);have h6:¬K=6:=fun h=>ak (.inr (.inl h));have h7:¬K=7:=fun h=>ak (.inr (.inr (.inl h)));have h8:¬K=8:=fun h=>ak (.inr (.inr (.inr h)));simp[XZ,k3,k4,k9,k2,h5,h6,h7,h8];refine ae (y:=(X,cs,0,at_)) f4 f6 k3 (RunD.H W2.wf) ?_ (W2.A fun _=>trivial);unfold oneS fixA;simp[k2,k4,h5,h6,h7,h8,k9]
theorem Jnp {names:List Str}{sg:Tb->List Nat->List Nat->Nat×Int}(r:p.c=[])(F:RowF p (fitP (k+1)) u q){cs:Cls}{E:EnvS}{n:Nod}{b:Nat}(L:OfF p m)(t:EnvR m E (sizN (u+1) n+b))(K:fitN (fitP (k+1)) (u+1) n):OfF p (kj sg (oneS q names) (k+1) m cs E n).1.1/\m.a.length<=(kj sg (oneS q names) (k+1) m cs E n).1.1.a.length/\(kj sg (oneS q names) (k+1) m cs E n).1.2.1.length<=cs.length+sizN (u+1) n/\((kj sg (oneS q names) (k+1) m cs E n).1.2.2.1=0->EnvR (kj sg (oneS q names) (k+1) m cs E n).1.1 (kj sg (oneS q names) (k+1) m cs E n).2 b):=by
 have l:=Jcr (SgOK.A (sg:=sg) r) (m:=k+1) L t.k n;unfold kj;generalize typS sg (k+1) E m n=x at l;obtain⟨i,id,e⟩:=x;have M:OfF p i:=l.b;have v:m.a.length<=i.a.length:=l.f;simp only;by_cases c:e=0;rotate_left
 ·grind
 subst c;have hid:id<i.a.length:=l.g rfl;have o:=Jfv F (names:=names) (cs:=cs) js M hid (t.A v (Gs _ _)) K;simp only[GA,XH,X2];generalize oneS q names i cs E id n=y at o;obtain⟨j,w,N,S⟩:=y;have O:OfF p j:=o.c;have z:i.a.length<=j.a.length:=o.f;have P:w.length<=cs.length+sizN (u+1) n:=o.d;simp only;by_cases Q:N=0
 ·rw[Xa fun h=>h Q];exact⟨O,X0 v z,P,fun _=>Jfw (t.A (X0 v z) (Xb _)) K (X6 hid z)⟩
 grind
theorem JpV {names:List Str}(ad:p.c=[])(ay:names.length<100000)(H:RowD p names (k+1) u q)(F:RowF p (fitP (k+1)) u q)(A:RowA (k+1) u q)(ae:∀Y cs E,q Y cs E []=(Y,cs,0,-1)):RowD p names (k+1) (u+1) (Q8 v (oneS q names) (k+1)):=by
 intro Z S U w ru Y nv cs a e E lv l hW hO hE hK hl hf hd hc;have hw:=hW.wf;refine Jl (aT Tryz.func21 rfl) rfl ?_;have az:=hE;obtain⟨x0,x1,x2,rfl,a0,a1,a2⟩:=Kq hE;have ll:=LstAt.H hl;have ly:LstAt (NodC (fun r=>¬U r) S (k+1) (u+1)) (fun r=>¬U r) S lv 9 l:=hl;obtain⟨bi,a3⟩:=hf;obtain⟨n0,af⟩:=nxE S;simp only[CT,Tryz.f21,XY,simprocAttr];rw[Ja];simp[XY,af,a0.1,a1.1,a2.1];generalize a4:up 0 n0=M;refine nm1 hw af a4 ?_;intro S1 G1 a5 ⟨t4,r4⟩;have a7:=hW.B a5;rw[Ja];simp[XY];refine Jy (fun j fr S'=>fr 0= .e w 0/\fr 2=lv/\fr 4= .e M 0/\∃(i:Nat) (U':Pt->Prop) (N:Tb) (O:Cls) (e':List V) (t:Nat),j+i=l.length/\fr 6= .d .i64 (i:Nat)/\RunD Z U S S' U'/\S'.A M= .a t e'/\¬U' M/\((∃E':EnvS,WkD Z S' U' w ru p N nv names O a 0 True/\OfF p N/\EnvC (fun r=>¬U' r/\r≠M) S' e' E'/\EnvR N E' (sizL (u+1) (l.drop i))/\O.length+sizL (u+1) (l.drop i)<100000/\Q8 v (oneS q names) (k+1) Y cs E l=Q8 v (oneS q names) (k+1) N O E' (l.drop i))\/∃er aa:Int,er≠0/\WkD Z S' U' w ru p N nv names O aa er False/\Q8 v (oneS q names) (k+1) Y cs E l=(N,O,er,aa))) l.length (by omega) ⟨rfl,rfl,rfl,0,U,Y,cs,_,t4,by omega,by rfl,RunD.G G1,r4,a7.1, .inl ⟨E,hW.F G1,hO,az.A fun r a b=>⟨⟨a,fun x=>b (by grind)⟩,G1.d r b⟩,by grind,by grind,by rfl⟩⟩ ?_;rintro L hL f fr P ⟨f0,f2,f4,i,U5,a8,ag,e5,t,hq,f6,R5,r45,v4,ah⟩;rcases ah with⟨E5,W5,O5,ai,K5,aj,z⟩|⟨er,aa,a9,W5,z⟩
 rotate_left
 ·obtain⟨ba,t5,w5,_⟩:=W5.H;have ak:AnsY Z U S w ru p nv names a (Q8 v (oneS q names) (k+1) Y cs E l) (.p []) P:=by
   rw[z];refine⟨rfl,U5,R5, ?_⟩
   grind
  by_cases Q:(i:Int)<l.length
  ·simp[XZ,f0,f2,f6,ll,Q,w5,a9];exact ak
  ·simp[XZ,f2,f6,ll,Q];exact ak
 obtain⟨ba,t5,w5,_⟩:=W5.H;by_cases Q:i<l.length;rotate_left
 ·rw[Xs (by omega),Q8]at z;simp[XZ,f2,f6,ll,Q];rw[z];exact⟨rfl,U5,R5,W5.A fun _=>trivial⟩
 have ab:=wiN (i:=i) (by omega);have al:∀r,¬U r->S.A r≠ .none->(¬U5 r/\r≠M)/\P.A r=S.A r:=fun r a b=>⟨⟨(R5.F r a b).1,fun e=>b (by grind)⟩,(R5.F r a b).2⟩
 have bb:LstAt (NodC (fun r=>¬U5 r/\r≠M) P (k+1) (u+1)) (fun r=>¬U5 r/\r≠M) P lv 9 l:=LstAt.B ly (fun _ _ h=>NodC.A al h) al;obtain⟨r1,q1,en,bc,bj,bk,bd,hn,bl,bm⟩:=bb.A Q;rw[Xc Q]at z K5 aj;have fn:=a3 l[i] (Xh Q);have dn:=hd l[i] (Xh Q);generalize l[i]=n at*;have be:sizL (u+1) (n::l.drop (i+1))=sizN (u+1) n+sizL (u+1) (l.drop (i+1)):=rfl;rw[be]at K5 aj;rw[Jne]at z;have am:=ai;obtain⟨z0,z1,z2,rfl,s0,s1,s2⟩:=Kq am;rw[Je,Ja];simp[XY,f0,f2,f6,ll,Q,w5];rw[Je];simp[XY];simp[XY,f0,f2,f4,f6,r45,bc,bd];have wl:=Js W5.wf P.t;have bf:=Jnp (sg:=v) (names:=names) (cs:=ag) ad F O5 K5 fn;refine JW (W:=U5) W5.wf ((Jtd (sg:=v) (S:={P with a:=P.t}) ad ay H F A ae (W5.K wl) O5 (ai.A kR) (K5.A (Xb _) (Gs _ _)) (NodC.A (st:=P) (st':={P with a:=P.t}) (fun r a b=>⟨a.1,rfl⟩) hn) fn dn (by omega)).A fun g S' h=>⟨by obtain⟨U',_,_,_,R,_⟩:=h;exact R.ch,h⟩) ?_;rintro g S6 lo C6 ⟨U6,y0,y1,y2,R6,rfl,⟨q0,bg,q2⟩,W6,ao⟩;obtain⟨k1,k2,k3,k4⟩:=bf;generalize kj v (oneS q names) (k+1) a8 ag E5 n=x at*;obtain⟨⟨ap,aq,e6,a6⟩,E6⟩:=x;simp only at W6 ao k1 k2 k3 k4 z;have ar:RunD Z U5 P {S6 with a:=lo} U6:=⟨C6,fun r o=>R6.c r o⟩
 have au:=W6.K (lo:=lo) ⟨C6.D.a,C6.D.t⟩;have X:=ar.D M (Jb r45) v4;have r46:({S6 with a:=lo}:St).A M= .a t [z0,z1,z2]:=X.1.trans r45;have av:¬U6 M:=X.2;have aw:e6=0->EnvC (fun r=>¬U6 r/\r≠M) {S6 with a:=lo} [y0,y1,y2] E6:=fun h=>(ao h).A fun r a b=>⟨⟨a.1,a.2.elim (fun a=>a) fun a e=>Jb r45 (by rw[<-e];exact a)⟩,rfl⟩
 generalize ({S6 with a:=lo}:St)=S7 at*;simp[XZ,f4,f6,r46,ab,q0.1,bg.1,q2.1];obtain⟨S8,T⟩:=exE (S7.D M t fun o=> .a o [y0,y1,y2]);have C8:Ch (fun r=>r=M) S7 S8:=by rw[T];exact(Ch.G _ au.wf).J (Jb r46) (by rw[r46];rfl) (.inl rfl) (Jd _)
 obtain⟨t8,r48⟩:∃t,S8.A M= .a t [y0,y1,y2]:=⟨_,by rw[T];exact Jk _ _ _ _⟩
 rw[<-T];clear T;have ax:=R5.B ar;have R8:RunD Z U S S8 U6:=⟨ax.ch.A C8 fun r e=> .inr (by grind),ax.c⟩
 have bh:SlAt (fun r=>¬U6 r) S8 nv 1 (strs names):=hW.i.D R8.F;have W8:=au.I C8 (fun r e=>by grind) bh;by_cases c:e6=0;rotate_left
 ·rw[Xd c]at z;rw[Xa c]at W8;exact⟨l.length-(i+1),by omega,hL _ _ _ ⟨f0,f2,f4,i+1,U6,ap,aq,_,t8,by omega,rfl,R8,r48,av, .inr ⟨e6,a6,c,W8.A fun h=>h.elim,z⟩⟩⟩
 subst c;rw[Xa fun y=>y rfl]at z;rw[Xd rfl]at W8;refine⟨l.length-(i+1),by omega,hL _ _ _ ⟨f0,f2,f4,i+1,U6,ap,aq,_,t8,by omega,rfl,R8,r48,av, .inl ⟨E6,W8.A fun _=>rfl,k1, ?_,k4 rfl,by omega,z⟩⟩⟩;exact(aw rfl).A fun r a b=>⟨a,C8.d r b a.2⟩
theorem Jte {names:List Str}:RowD p names k 0 (rowS v names k 0):=by
 intro Z S U w y z K L a e E d l b M f N c O P Q;obtain rfl:l=[]:=by
  cases l with
  |nil=>rfl
  | cons n r=>
    have g:LstAt (NodC (fun r=>¬U r) S k 0) (fun r=>¬U r) S d 9 (n::r):=c;obtain⟨r1,T,W,h,j,o,q,t,u,x⟩:=g.A (i:=0) (by simp);exact t.elim
 refine(JmO b.wf f (LstAt.H c)).A ?_;rintro _ X ⟨G,rfl⟩;exact⟨rfl,U,RunD.G G,(b.F G).A fun _=>trivial⟩
theorem Jrg {names:List Str}:∀(d:Nat) (a:Tb) (b:Cls) (E:EnvS),rowS v names k d a b E []=(a,b,0,-1)
 |0,_,_,_=>rfl
 |_+1,_,_,_=>rfl
theorem Jsf {s:Sch}{names:List Str}{m:Nat}{sg:Tb->List Nat->List Nat->Nat×Int}(a:s.c=[])(b:names.length<100000):∀d,RowD s names (m+1) d (rowS sg names (m+1) d)
 |0=>Jte
 |d+1=>JpV a b (Jsf a b d) (Jcs (SgOK.A a) js d) (JsL d) (Jrg d)
theorem Jt6 {names:List Str}{m:Nat}{sg:Tb->List Nat->List Nat->Nat×Int}(O:p.c=[])(P:names.length<100000){q:Tb}{o:List Nod}(y:DT e n d r p q)(hO:OfF p q)(Q:∀b,d b->¬e b)(z:SlAt (fun b=>¬d b) n j 1 (strs names))(W:u<q.a.length)
  (hb:NodsC (fun b=>¬d b) n (m+1) k T o) (hf:fitL (fitP (m+1)) k o) (hd:docL (m+1) k o) (hz:sizL k o<90000):
  Dz 10 [.e r 0,j, .d .i64 (u:Nat),T] n fun v S'=>Ch d n S'/\(((rowS sg names (m+1) k q [] ⟨u,[],[]⟩ o).2.2.1≠0/\v= .p [.g, .d .i64 (rowS sg names (m+1) k q [] ⟨u,[],[]⟩ o).2.2.2, .d .i64 (rowS sg names (m+1) k q [] ⟨u,[],[]⟩ o).2.2.1])\/((rowS sg names (m+1) k q [] ⟨u,[],[]⟩ o).2.2.1=0/\∃X,v= .p [X, .d .i64 0, .d .i64 0]/\KL S' X 2 (clsE (rowS sg names (m+1) k q [] ⟨u,[],[]⟩ o).2.1))):=by
 have hw:=y.wf;refine Jl (aT Tryz.func10 rfl) rfl ?_;have c1:=z.A;have c2:=z.B;obtain⟨n0,M⟩:=nxE n;simp only[CT,Tryz.f10,XY,simprocAttr];rw[Ja];simp[XY];rw[Ja];simp[XY,M,c1,c2];generalize Y:up 0 n0=w;refine nm1 hw M Y ?_;intro N L wn ⟨tw,aa⟩;have uw:=y.F wn;have W1:WkD e N (fun b=>d b\/b=w) w r p q j names [] 0 0 True:=⟨L.D,⟨d, .g,tw,fun _=>y.B L,fun b h=>⟨.inl h,fun i=>uw.1 (by grind),fun i=>by cases i⟩,aa,KL.F _ _,fun b i=>by cases i⟩, .inr rfl,fun b h=>by
  rcases h with(h|h)|h
  ·rw[L.d b (y.f b (.inl h))];exact y.f b (.inl h)
  ·grind
  ·rw[L.d b (y.f b (.inr h))];exact y.f b (.inr h),fun b h=>h.elim (Q b) fun i=>by grind,z.D fun b l i=>⟨fun h=>h.elim l fun x=>i (by grind),L.d b i⟩⟩
 have kB:NodsC (fun b=>¬(d b\/b=w)) N (m+1) k T o:=NodsC.A hb fun b l i=>⟨fun h=>h.elim l fun x=>i (by grind),L.d b i⟩
 have hE:EnvC (fun b=>¬(d b\/b=w)) N [.d .i64 (u:Nat), .g, .g] ⟨u,[],[]⟩:=⟨.g, .g,rfl,SlAt.K _ _ _,LstAt.F⟩
 have hK:EnvR q ⟨u,[],[]⟩ (sizL k o):=⟨⟨W,(fun x a=>by cases a),(fun x a=>by cases a),by simp,by simp⟩,by grind,by grind⟩
 rw[Ja];simp[XY];refine Jc (Jsf (sg:=sg) (m:=m) O P k e N _ w r q j [] 0 _ _ T o W1 hO hE hK kB hf hd (by grind)) ?_;rintro _ S2 ⟨rfl,U2,R2,W2⟩;generalize rowS sg names (m+1) k q [] ⟨u,[],[]⟩ o=x at*;obtain⟨ab,cs,i,a⟩:=x;simp at W2⊢;obtain⟨X,t,k3,k4,k5,_⟩:=W2.H;have C:Ch d n S2:=(Ch.H d L).A R2.ch fun b h=>h.elim .inl fun x=> .inr (by grind);by_cases c:i=0
 ·subst c;have c3:=k4.D.A;have c4:=k4.D.B;simp only[XZ,simprocAttr,k3]
  grind
 ·rw[Xa c]at k3;simp only[XZ,simprocAttr,k3,c]
  grind
def Yx (d:Nat)(o:Opn):Prop:=fitO d o/\docO d o/\o.k≠6
theorem qm (a n:Int)(g:St)(h:0<n)(j:n<4611686018427387904):Dz 75 [.d .i64 a, .d .i64 n] g fun v b=>v= .d .i64 (a%n)/\g=b:=by
 refine Jl (aT Tryz.func75 rfl) rfl ?_;have c:n≠0:=by omega
 have k:=Zn a c;have l:=Zc a h;rcases JoW a h with⟨e,f⟩|⟨e,f⟩
 ·simp only[CT,Tryz.f75,XZ,simprocAttr,c,e];rw[f]
 ·have i:IntKind.i64.wrap (a.tmod n+n)=a%n:=by rw[f,JV (by omega) (by omega)]
  simp only[CT,Tryz.f75,XZ,simprocAttr,c,e,i]
theorem Jhd (a n:Int)(g:St)(h:0<n)(j:n<4611686018427387904):Dz 35 [.d .i64 a, .d .i64 n] g fun v b=>v= .d .i64 (a%n)/\g=b:=by
 refine Jl (aT Tryz.func35 rfl) rfl ?_;have c:n≠0:=by omega
 have k:=Zn a c;have l:=Zc a h;rcases JoW a h with⟨e,f⟩|⟨e,f⟩
 ·simp only[CT,Tryz.f35,XZ,simprocAttr,c,e];rw[f]
 ·have i:IntKind.i64.wrap (a.tmod n+n)=a%n:=by rw[f,JV (by omega) (by omega)]
  simp only[CT,Tryz.f35,XZ,simprocAttr,c,e,i]
theorem Qe (a:Int){n:Nat}(h:0<n):∃m:Nat,a%(n:Int)=(m:Nat)/\m<n:=by
 have b:=Zn a (show(n:Int)≠0 by omega);have c:=Zc a (show(0:Int)<n by omega);exact⟨(a%n).toNat,by omega,by omega⟩
def OpnR (P:Pt->Prop)(S':St)(d:Nat)(v:V):Prop:=∃oe o,v= .j oe/\OprC P S' d oe o/\Yx d o
theorem Jc9 (a f:Int)(b:Bool)(t:Str)(i:a≠5/\a≠6):OprC e n (k+1) [.d .i64 a,ofL [], .g,ofL t, .d .i64 f, .h b, .g] (.mk a [] [] t f b [])/\Yx (k+1) (.mk a [] [] t f b []):=
 ⟨⟨.g, .g,rfl,SlAt.K _ _ _,LstAt.F⟩,⟨by simp,by simp,fun c h=>by cases h⟩,fun h=>absurd h i.1,i.2⟩
theorem Jnq {P:Pt->Prop}{d:Nat}(b n:Int)(z:WF S):Dz 77 [.d .i64 b, .d .i64 n] S fun v L=>Gr S L/\OpnR P L (d+1) v:=by
 refine Jn tabM (aT Tryz.func77 rfl) rfl z fun K f=> ?_;obtain⟨T,i⟩:=nxE S;simp only[CT,Tryz.f77,XY,simprocAttr];rw[Ja];simp[XY,i];generalize p:up 0 T=U;refine nm1 z i p ?_;intro M j W ⟨t4,r4⟩;have q:∀{o:St} {t:Nat} {l:List V},Gr M o->∀r,S.A r≠ .none->(o.D U t fun u=> .a u l).A r=S.A r:=fun{o t l} g r e=>by rw[Ji _ _ _ fun x=>e (by grind),(j.B g).d r e]
 by_cases N:b=2
 ·rw[Je,Ja];simp[XZ,N,r4];exact f _ _ (q (Gr.F j.D)) fun _=>⟨_,_,rfl,Jc9 3 n false [] (by decide)⟩
 by_cases O:b=1
 ·have s:(2:Int)≠0:=by decide
  rw[Je,Ja];simp[XZ,O,r4,s];exact f _ _ (q (Gr.F j.D)) fun _=>⟨_,_,rfl,Jc9 4 0 _ [] (by decide)⟩
 obtain⟨X,h⟩:=nxE M;have o4:=fun k=>nes (Jr j.D h (Jb r4) k);obtain⟨m,w,Y⟩:=Qe n (n:=4) (by decide);have w:n%4=(m:Nat):=w;rw[Je,Ja];simp[XY];rw[Ja];simp[XY,N];rw[Ja];simp[XY,O];rw[Ja];simp[XY,h];generalize y:up 0 X=p5;refine nm1c j.D h y ?_;intro o Q Z ⟨t5,r5⟩;refine Jc (qm n 4 o (by decide) (by decide)) ?_;rintro _ _ ⟨rfl,rfl⟩;have r42:=Q.A r4;rw[w];have c:m=0\/m=1\/m=2\/m=3:=by omega
 rcases c with rfl|rfl|rfl|rfl
 all_goals
  simp[XZ,r5,r42]
 all_goals
  exact f _ _ (q Q) fun _=>⟨_,_,rfl,Jc9 2 0 false _ (by decide)⟩
abbrev JaF (s:Str):List V:=[.d .i64 6,ofL [], .g,ofL s, .d .i64 0, .h false, .g]
theorem Jtf (s:Str)(f:WF n):Dz 123 [ofL s] n fun v g=>Gr n g/\v= .j (JaF s):=by
 refine Jn tabM (aT Tryz.func123 rfl) rfl f fun K b=> ?_;obtain⟨h,a⟩:=nxE n;simp only[CT,Tryz.f123,XY,simprocAttr];rw[Ja];simp[XY,a];generalize c:up 0 h=l;refine nm1 f a c ?_;intro m i k ⟨t4,r4⟩;rw[Ja];simp[XZ,r4];exact b _ _ (fun r e=>by rw[Ji _ _ _ fun x=>e (by grind),i.d r e]) fun _=>rfl
theorem Jhe {P:Pt->Prop}(s:Str)(d:Nat):OprC P S (d+1) (JaF s) (.mk 6 [] [] s 0 false [])/\fitO (d+1) (.mk 6 [] [] s 0 false [])/\docO (d+1) (.mk 6 [] [] s 0 false []):=
 ⟨⟨.g, .g,rfl,SlAt.K _ _ _,LstAt.F⟩,⟨by simp,by simp,fun c h=>by cases h⟩,fun h=>absurd h (by decide)⟩
theorem _root_.Eva.R9C.B (h:R9C e n t x):∃(k a:Int) (c:V) (b:List (List V)),t=[.d .i64 k, .d .i64 a,c]/\In64 k/\In64 a/\SlAt e n c 3 b/\b.length=x.A.length/\b.length<2^63/\∀i (h:i<b.length) (o:i<x.A.length),R9C e n b[i] x.A[i]:=by
 cases h with
 |mk f g j l p m=>exact⟨_,_,_,_,rfl,f,g,j,l,by omega,m⟩
theorem Jt7 (T:WF n)(h:R9C e n c x)(i:Nat)(hi:i<1000):Dz 124 [.j c, .d .i64 (i:Nat)] n fun v U=>Gr n U/\∃W r',v= .j W/\R9C e U W r':=by
 refine Jn tabM (aT Tryz.func124 rfl) rfl T fun K y=> ?_;obtain⟨k,b,kv,m,rfl,hk,hn,N,h3,hl,h4⟩:=h.B;have c2:=N.A;have s2:=N.B;have len2:=N.G;obtain⟨X,z⟩:=nxE n;simp only[CT,Tryz.f124,XY,simprocAttr];rw[Ja];simp[XY,z,s2];generalize O:up 0 X=p2;generalize Q:up 1 X=p4;refine nm2 T z O Q ?_;intro S1 Y aa ab _ ⟨t2,r2⟩ ⟨t4,r4⟩;have Z:∀{t:Nat} {l:List V} {x:Pt},n.A x≠ .none->(S1.D p4 t fun u=> .a u l).A x=n.A x:=fun{t l x} c=>by rw[Ji _ _ _ fun f=>c (by grind),Y.d x c]
 by_cases h0:m.length=0
 ·have p:(m.length:Int)=0:=by omega
  rw[Je,Ja];simp[XZ,r2,r4,len2,p];exact y _ _ (fun x c=>Z c) fun _=>⟨_,_,rfl, .mk (ks:=[]) (es:=[]) (wrap64 _) (wrap64 _) (SlAt.K _ _ _) rfl (by decide) fun i h=>absurd h (by simp)⟩
 ·have p:¬(m.length:Int)=0:=by omega
  have hj:i%m.length<m.length:=Ha _ (by omega);have L:(i:Int).tmod (m.length:Int)=((i%m.length:Nat):Int):=rfl;obtain⟨q,o,a1,a2,a3,a4,a5⟩:=(N.H Y).I hj;have s:=h4 _ hj (by omega);generalize m[i%m.length]=ek at*;have w:=s;obtain⟨k',n',ad,ae,rfl,b1,b2,b3,b4,b5,b6⟩:=w.B;have c3:=b3.A;have s3:=b3.B;have M:(m.length:Int)≠0:=p;rw[Je,Ja];simp only[XY,simprocAttr,r2,len2,p];rw[Ja];simp only[XZ,simprocAttr,r2,r4,len2,M,L,a1,a4,s3];refine y _ _ (fun x c=>Z c) fun g=>⟨_,_,rfl,s.D g⟩
theorem Jt8 {Y:Pt->Prop}{E:EnvS}{sx:Str}(N:DT e n d r p m)(hO:OfF p m)(O:EnvC f n t E)(hK:EnvK m E)(q:OprC Y n k c (.mk 1 y i sx a L K))(hl:i.length<100000):
  Dz 142 [.e r 0, .j t, .j c] n fun v S'=>Gr n S'/\v= .p [.d .i64 ((Qq m E y i).1:Nat), .d .i64 (Qq m E y i).2]:=by
 have Q:=N.wf;refine Jn tabM (aT Tryz.func142 rfl) rfl Q fun g u=> ?_;have w:=O;have x:=q;obtain⟨vv,nv,rfl,h1,h2,c1,c2⟩:=Ki O
 cases k with
 |zero=>exact q.elim
 |succ k=>
 obtain⟨pv,qv,rfl,T,W⟩:=q;have d1:=T.A;have d2:=T.B;have d3:=W.G.2;have d4:=W.G.1;obtain⟨X,l⟩:=nxE n;simp only[CT,Tryz.f142,XY,simprocAttr];rw[Ja];simp[XY,l,c1.1,c2.1,d2,d4];generalize z:up 0 X=p4;generalize M:up 1 X=p5;refine nm2 Q l z M ?_;intro S1 o aa ab _ ⟨t4,r4⟩ ⟨t5,r5⟩;simp[XZ,r4,r5];refine Jc (Jsd (N.B o) hO (w.A o.H) hK (OprC.A (st:=n) (st':=S1) o.H x) hl) ?_;rintro _ S2 ⟨G2,rfl⟩;simp[XZ];exact u _ _ (fun h t=>(o.B G2).d h t) fun _=>rfl
theorem ofP1 {P':Pt->Prop}{z:Pt}{E:EnvS}{tc:Nat}{g:Int}{sx:Str}(hD:DT e n d r p m)(hO:OfF p m)(hE:EnvC f n t E)(hK:EnvK m E)(ho:OprC P' n k c (.mk 1 y i sx g L K))(hl:i.length<100000)(hp:n.A W= .a u [.m z 0 1 7 1])(hc:n.A z= .a tc c):
  Dz 92 [.e r 0, .j t, .m W 0 1 1 1] n fun v S'=>Gr n S'/\v= .p [.d .i64 ((Qq m E y i).1:Nat), .d .i64 (Qq m E y i).2]:=by
 have hw:=hD.wf;refine Jn tabM (aT Tryz.func92 rfl) rfl hw fun h M=> ?_;have aa:=hE;obtain⟨vv,nv,rfl,h1,h2,c1,c2⟩:=Ki hE;have lp:JU (.m W 0 1 1 1)=some (.d .i64 1, .a):=rfl;have h7:=ho.D;have i0:Jo 1 (.m W 0 1 1 1) (.d .i64 0)=some (.e W 0, .a):=rfl;have i1:Jo 7 (.m z 0 1 7 1) (.d .i64 0)=some (.e z 0, .a):=rfl;obtain⟨n0,N⟩:=nxE n;simp only[CT,Tryz.f92,XY,simprocAttr];rw[Ja];simp[XY,N,c1.1,c2.1];generalize ab:up 0 n0=p4;refine nm1 hw N ab ?_;intro O x al ⟨t4,r4⟩;have ad:=x.A hp;have Q:=x.A hc;have ae:ld1 (O.A W) 0=some (.m z 0 1 7 1, .a):=by rw[ad];rfl
 have af:ld1 (O.A z) 0=some (.d .i64 1, .a):=by
  rw[Q]
  cases k with
  |zero=>exact ho.elim
  | succ k=>
    obtain⟨pv,qv,rfl,_⟩:=ho;rfl
 have T:ldn (O.A z) 0 7=some (.j c, .a):=by
  rw[Q,kO,Xd (by omega),XQ,<-h7,Zf]
 rw[Ja];simp[XY];rw[Je,Ja];simp[XY];refine Jy (fun j w S'=>(j=1/\S'=O/\w 0= .e r 0/\w 2= .m W 0 1 1 1/\w 4= .e p4 0/\w 8= .d .i64 0/\w 9= .d .i64 0)\/(j=0/\Gr O S'/\w 2= .m W 0 1 1 1/\w 8= .d .i64 ((Qq m E y i).1:Nat)/\w 9= .d .i64 1/\(Qq m E y i).2=0)) 1 (by omega) ((.inl ⟨rfl,rfl,rfl,rfl,rfl,rfl,rfl⟩)) ?_;intro l hL j w S2 ag;rcases ag with⟨rfl,rfl,f0,X,f4,f8,Y⟩|⟨rfl,G2,X,f8,Y,hz⟩
 rotate_left
 ·have ah:¬(1:Int)<1:=by omega
  simp[XZ,X,f8,Y,lp,ah];refine M _ _ (fun o t=>(x.B G2).d o t) fun _=> ?_;rw[hz]
 have ai:(0:Int)<1:=by omega
 have am:¬(1:Int)=6:=by decide
 have aj:¬(0:Int)>0:=by omega
 have ak:IntKind.i64.wrap ((0:Int)+1)=1:=by decide
 rw[Je,Ja];simp[XY,X,Y,lp,ai];rw[Je];simp[XY];rw[Ja];simp[XY,X,Y,i0,ae];rw[Je,Ja];simp[XY,i1,af];rw[Ja];simp[XY,f0,f4,r4,i1,T];have wl:=Js x.D S2.t;refine Jj (Jt8 (hD.B x|>.D wl) hO (aa.A x.H) hK (OprC.A (st:=n) (st':={S2 with a:=S2.t}) x.H ho) hl) ?_;rintro _ S3 G3 rfl;simp[XY];by_cases q:(Qq m E y i).2=0
 ·rw[Je,Ja];simp[XY,q];rw[Je,Ja];simp only[XZ,simprocAttr,Y,aj];exact⟨0,by omega,hL _ _ _ (.inr ⟨rfl,G3,X,rfl,rfl,q⟩)⟩
 ·have hz:(Qq m E y i).1=0:=JkT q;rw[Je,Ja];simp[XZ,q];refine M _ _ (fun o t=>(x.B G3).d o t) fun _=> ?_
  grind
def KG (P:Pt->Prop)(S:St)(v:V)(l:List (Opn×Nat)):Prop:=LstAt (jF P S) P S v 8 l
theorem KG.za {Q:Pt->Prop}{S':St}(a:KG e S j h)(k:∀r,e r->S.A r≠ .none->Q r/\S'.A r=S.A r):KG Q S' j h:=LstAt.B a (fun _ _ a=>a.A k) k
theorem Jj4 {c:Opn×Nat}(h:jF e n t c):∃g i j l m o q,t=[g,i,j,l,m,o,q, .d .i64 (c.2:Nat)]/\OprC e n 1 [g,i,j,l,m,o,q] c.1/\((g.B=true/\g.A=some [g])/\(i.B=true/\i.A=some [i])/\(j.B=true/\j.A=some [j])/\(l.B=true/\l.A=some [l])/\(m.B=true/\m.A=some [m])/\(o.B=true/\o.A=some [o])/\(q.B=true/\q.A=some [q])):=by
 obtain⟨z,rfl,v⟩:=h;obtain⟨⟨k,w,s,K,a,b,p⟩,f⟩:=c;obtain⟨x,y,rfl,r,u⟩:=v;exact⟨_,_,_,_,_,_,_,rfl,⟨x,y,rfl,r,u⟩,⟨rfl,rfl⟩,⟨rfl,rfl⟩,⟨r.B,r.A⟩,⟨rfl,rfl⟩,⟨rfl,rfl⟩,⟨rfl,rfl⟩,u.G⟩
def Box8 (ce:List V)(z0 z1 z2 z3 z4 z5 z6:V)(t:Int):Prop:=ce=[z0,z1,z2,z3,z4,z5,z6, .d .i64 t]/\((z0.B=true/\z0.A=some [z0])/\(z1.B=true/\z1.A=some [z1])/\(z2.B=true/\z2.A=some [z2])/\(z3.B=true/\z3.A=some [z3])/\(z4.B=true/\z4.A=some [z4])/\(z5.B=true/\z5.A=some [z5])/\(z6.B=true/\z6.A=some [z6]))
theorem Jsg {kind n:Int}(hD:DT e S d r p m)(hO:OfF p m)(hl:KG f S j h)(ht:∀c∈h,c.2<m.a.length)(hn:h.length<1000):
  Dz 76 [.e r 0,j, .d .i64 kind, .d .i64 n] S fun v S'=>Gr S S'/\∃ce b,v= .p [.j ce, .h b]/\(∃z0 z1 z2 z3 z4 z5 z6 t,Box8 ce z0 z1 z2 z3 z4 z5 z6 t)/\(b=true->∃i,∃k:i<h.length,jF f S' ce h[i]/\(Jg m h[i].2).a=kind):=by
 have hw:=hD.wf;refine Jn tabM (aT Tryz.func76 rfl) rfl hw fun K T=> ?_;have ll:=LstAt.H hl;obtain⟨n0,W⟩:=nxE S;simp only[CT,Tryz.f76,XY,simprocAttr];rw[Ja];simp[XY,W];generalize af:up 0 n0=p8;refine nm1 hw W af ?_;intro S1 X aj ⟨t8,r8⟩;rw[Je,Ja];simp[XY];refine Jy (fun u N S'=>∃i:Nat,u+i=h.length/\N 0= .e r 0/\N 1=j/\N 2= .d .i64 kind/\N 3= .d .i64 n/\N 8= .e p8 0/\N 10= .d .i64 (i:Nat)/\Gr S1 S') h.length (by omega) ⟨0,by omega,rfl,rfl,rfl,rfl,rfl,by rfl,Gr.F X.D⟩ ?_;rintro L hL u N S2 ⟨i,hj,f0,f1,f2,f3,f8,M,Y⟩;have r82:=Y.A r8;by_cases hi:i<h.length;rotate_left
 ·simp[XZ,f1,f8,M,ll,hi,r82];refine T _ _ (fun w y=> ?_) fun _=>⟨_,false,rfl,⟨_,_,_,_,_,_,_,_,rfl,⟨rfl,rfl⟩,⟨rfl,rfl⟩,⟨rfl,rfl⟩,⟨rfl,rfl⟩,⟨rfl,rfl⟩,⟨rfl,rfl⟩,rfl,rfl⟩,fun k=>by cases k⟩
  rw[Ji _ _ _ fun x=>y (by grind),(X.B Y).d w y]
 have O:=wiN (i:=i) (by omega);obtain⟨z,hm,Q⟩:=Qe (IntKind.i64.wrap (n+i)) (n:=h.length) (by omega);have ag:KG (fun w=>f w/\w≠p8) S2 j h:=hl.za fun w a b=>⟨⟨a,fun y=>b (by grind)⟩,(X.B Y).d w b⟩
 obtain⟨q,o,y,a1,a2,a3,a4,a5,a6,a7⟩:=LstAt.A ag Q;rw[Je,Ja];simp[XY,f1,M,ll,hi];rw[Je];simp[XY];rw[Ja];simp[XY,f1,f3,M,ll];refine Jc (qm _ _ S2 (by omega) (by omega)) ?_;rintro _ _ ⟨rfl,rfl⟩;rw[hm];obtain⟨z0,z1,z2,z3,z4,z5,z6,rfl,ah,q0,q1,q2,q3,q4,q5,q6⟩:=Jj4 a5;obtain⟨n2,aa⟩:=nxE S2;simp[XY,a1,a4,aa,q0.1,q1.1,q2.1,q3.1,q4.1,q5.1,q6.1];generalize ab:up 0 n2=ak;refine nmA Y.D aa ab ?_;intro S3 G3 ai ⟨t11,r11⟩;have ad:=Y.B G3;rw[Ja];simp[XY,f0,r11];refine Jc (atD (hD.B (X.B ad)) hO (ht _ (Xh Q))) ?_;rintro _ S4 ⟨G4,kx,ky,rfl,_,_⟩;have ae:=ad.B G4;have r114:=G4.A r11;have r84:=G4.A (G3.A r82);by_cases hk:(Jg m h[z].2).a=kind
 ·simp[XZ,f2,hk,f8,r114,r84,q0.1,q1.1,q2.1,q3.1,q4.1,q5.1,q6.1];refine T _ _ (fun w y=> ?_) fun g=>⟨_,true,rfl,⟨_,_,_,_,_,_,_,_,rfl,q0,q1,q2,q3,q4,q5,q6⟩,fun _=>⟨z,Q, ?_,hk⟩⟩
  ·rw[Ji _ _ _ fun x=>y (by grind),(X.B ae).d w y]
  ·exact⟨[z0,z1,z2,z3,z4,z5,z6],rfl,OprC.A (fun w a b=>⟨a.1,by rw[Ji _ _ _ a.2,(G3.B G4).d w b]⟩) ah⟩
 ·simp[XZ,f2,hk,M,O];exact⟨h.length-(i+1),by omega,hL _ _ _ ⟨i+1,by omega,f0,f1,f2,f3,f8,rfl,ae⟩⟩
theorem nm2c {T:Table}{q:Pt}{args:List V}{R:V->St->Prop}(i:WF n)(g:n.b=up 0 r)(u:up 0 r=W)(v:up 1 r=q)(h:∀S',Gr n S'->n.A W= .none->n.A q= .none->W≠q->(∃d,S'.A W= .a d t)->(∃d,S'.A q= .a d c)->J8 T L b k args w S' R):J8 T L b k args w ((n.B fun d=> .a d t).B fun d=> .a d c) R:=by
 subst u;subst v;have j:=Gr.G i (Jd t);have x:(n.B fun d=> .a d t).A (up 0 r)= .a n.t t:=Ye g _;have l:(n.B fun d=> .a d t).b=up 1 r:=by
  show up 1 n.b=_;rw[g];rfl
 have s:=Gr.G j.D (Jd c);have o:up 0 r≠up 1 r:=fun e=>by
  have:=J9 j.D
  grind
 exact h _ (j.B s) (nx0 i g 0) (nx0 i g 1) o ⟨_,s.A x⟩ ⟨_,Ye l _⟩
structure jt (S0 S:St) (tb:Tb) (E:EnvS) (lv:V) (l:List (Opn×Nat)):Prop where
 g:Gr S0 S
 d:∃es,SlF S0 S lv 8 es/\es.length=l.length/\∀i (h:i<es.length) (h':i<l.length),jF (fun r=>S0.A r= .none/\rowOf lv≠some r) S es[i] l[i]
 f:∀c∈l,jo tb E c
 e:l.length<=60
theorem jt.A {c S S':St}{j:Tb}{E:EnvS}{k:V}{l:List (Opn×Nat)}(h:jt c S j E k l)(g:Gr S S'):jt c S' j E k l:=by
 obtain⟨m,n,o,p⟩:=h.d;exact⟨h.g.B g,⟨m,n.G g,o,fun i a b=>(p i a b).A g.H⟩,h.f,h.e⟩
structure Yy (S S':St) (lv v:V):Prop where
 d:∀p,S.A p≠ .none->rowOf lv≠some p->S'.A p=S.A p
 f:∀r,rowOf v=some r->rowOf lv=some r\/S.A r= .none
theorem Yy.B {b:V}(h:Yy n S j b)(k:Yy S M b T):Yy n M j T:=by
 have i:∀r,S.A r= .none->rowOf j=some r\/n.A r= .none:=fun r e=>by
  by_cases x:rowOf j=some r
  ·grind
  ·exact .inr (Xf fun g=>g (by rw[<-h.d r g x];exact e))
 refine⟨fun p e g=> ?_,fun r e=> ?_⟩
 ·have l:=h.d p e g;rw[k.d p (by grind) fun x=>(h.f p x).elim g e,l]
 ·rcases k.f r e with x|x
  ·exact h.f r x
  grind
theorem Yy.D (g:Gr n S)(v:V):Yy n S v v:=⟨fun p e _=>g.d p e,fun r e=> .inl e⟩
theorem Yy.A {S S':St}{a b:V}(h:Yy S S' a b){p:Pt}{t:Nat}{l:List V}(e:S.A p= .a t l)(n:rowOf a≠some p):S'.A p= .a t l/\rowOf b≠some p:=
 ⟨(h.d p (Jb e) n).trans e,fun x=>(h.f p x).elim n (Jb e)⟩
theorem Jt9 {E:EnvS}(cm:p.c=[])(hD:DT e S d r p m)(hO:OfF p m)(hE:EnvC f S t E)(hK:EnvK m E):∀(W:Nat),W<=10->∀{o:St} {lv:V} {l:List (Opn×Nat)} {oe:List V} {T Y:Str} {Q:List Str} {n:Int} {b:Bool},jt S o m E lv l->OprC (fun K=>S.A K= .none/\rowOf lv≠some K) o 1 oe (.mk 1 T Q Y n b [])->Q.length+W<90000->
  Dz 74 [.e r 0, .j t, .j oe, .d .i64 (W:Nat),lv] o fun v S'=>∃l',jt S S' m E v l'/\Yy o S' lv v/\OprC (fun K=>S.A K= .none/\rowOf v≠some K) S' 1 oe (.mk 1 T Q Y n b []):=by
 intro W
 induction W using Nat.strongRecOn with
 |_ W ih=>
 intro hm o lv l oe T Y Q n b hG ho dj;refine Jl (aT Tryz.func74 rfl) rfl ?_;have hw:=hG.g.D;have cn:=hE;obtain⟨x0,x1,x2,rfl,a0,a1,a2⟩:=Kq hE;have co:=ho;obtain⟨pv,qv,rfl,bc,bd⟩:=ho;have d1:=bc.A;have d2:=bc.B;have d3:=bd.G.2;have d4:=bd.G.1;obtain⟨es,h1,h2,h3⟩:=hG.d;have ll:=h1.D.G;obtain⟨n0,be⟩:=nxE o;simp only[CT,Tryz.f74,XY,simprocAttr];rw[Ja];simp only[XY,simprocAttr,be,a0.1,a1.1,a2.1,d2,d4];generalize cp:up 0 n0=p6;generalize cq:up 1 n0=p7;refine nm2 hw be cp cq ?_;intro S1 G1 cr cs dk ⟨t6,r6⟩ ⟨t7,r7⟩;obtain⟨n1,bf⟩:=nxE S1;rw[Ja];simp only[XY,simprocAttr,r6,r7,bf,d2,d4];generalize ct:up 0 n1=pc;generalize cu:up 1 n1=pp;refine nm2c G1.D bf ct cu ?_;intro S2 G2 _ _ _ ⟨tc,rc⟩ ⟨tp,rp⟩;have aw:=G1.B G2;have bg:=hG.g.B aw;have bh:OprC (fun K=>S.A K= .none/\rowOf lv≠some K) S2 1 [.d .i64 1,ofL T,pv,ofL Y, .d .i64 n, .h b,qv] (.mk 1 T Q Y n b []):=OprC.A aw.H co;refine Jc (ofP1 (hD.B bg) hO (cn.A bg.H) hK bh (by omega) rp rc) ?_;rintro _ S3 ⟨G3,rfl⟩;have ax:=aw.B G3;have ay:=hG.A ax;have r63:=G3.A (G2.A r6);have r73:=G3.A (G2.A r7);have cv:rowOf lv≠some p6:=fun t=>h1.A t cr;have cw:rowOf lv≠some p7:=fun t=>h1.A t cs;have bi:=OprC.A G3.H bh;have cx:∃l',jt S S3 m E lv l'/\Yy o S3 lv lv/\OprC (fun K=>S.A K= .none/\rowOf lv≠some K) S3 1 [.d .i64 1,ofL T,pv,ofL Y, .d .i64 n, .h b,qv] (.mk 1 T Q Y n b []):=⟨l,ay,Yy.D ax _,bi⟩
 simp only[XY,simprocAttr];by_cases c:(Qq m E T Q).2=0;rotate_left
 ·rw[Je,Ja];simp only[XZ,simprocAttr,c];omega
 have dl:es.length=l.length:=h2;by_cases dm:l.length≥60
 ·have ah:(es.length:Int)≥60:=by omega
  rw[Je,Ja];simp only[XZ,simprocAttr,c,ll,ah];omega
 have ah:¬(es.length:Int)≥60:=by omega
 have cy:=(jn (SgOK.A (sg:=fun _ _ _=>(0,0)) cm) 1 E m (.mk 1 T Q Y n b []) trivial hO hK)
 have ai:(Qq m E T Q).1<m.a.length:=cy.g c;generalize hid:(Qq m E T Q).1=id at*;have bj:∃v,KO E T=some v:=by
  cases hp:KO E T with
  |some v=>simp
  | none=>
    have:Qq m E T Q=(0,15):=by unfold Qq;rw[hp]
    grind
 obtain⟨bk,k1,k2,k3⟩:=ay.d;have dn:=k1.D.G;obtain⟨n3,bl⟩:=nxE S3;have o7:=fun k=>nes (Jr G3.D bl (Jb r73) k);rw[Je,Ja];simp only[XY,simprocAttr,c,ll,ah];rw[Ja];simp only[XY,simprocAttr,r73,bl,d2,d4];obtain⟨A3,az⟩:=exE (S3.B fun M=>Row.a M [.d .i64 1,ofL T,pv,ofL Y, .d .i64 n, .h b,qv, .d .i64 (id:Nat)]);have aa:Gr S3 A3:=by rw[az];exact Gr.G G3.D (Jd _)
 have aj:SlAt (fun K=>K=up 0 n3) A3 (.m (up 0 n3) 0 1 8 1) 8 [[.d .i64 1,ofL T,pv,ofL Y, .d .i64 n, .h b,qv, .d .i64 (id:Nat)]]:=by
  have:=Ql (st:=S3) (z:=8) (e:=[.d .i64 1,ofL T,pv,ofL Y, .d .i64 n, .h b,qv, .d .i64 (id:Nat)]) rfl
  grind
 rw[<-az];clear az;have cz:=ay.g;refine QG (S0:=S) (cz.B aa) (k1.G aa) aj (fun t he=>by rw[Xn.1 he];simp[KN,QB,Jbu,JhA,Jhz,d2,d4]) (by simp) (by simp) (by grind) ?_;intro S4 v4 g4 h4 bm c0;have dp:=J9 aa.D;have ap:Yy S3 S4 lv v4:=⟨fun O t n=>by rw[c0 O (by rw[aa.d O t];exact t) n,aa.d O t],fun K t=>by
  rw[bm]at t;injection t with t;exact .inr (aa.I (by grind))⟩
 have c1:Yy o S4 lv v4:=(Yy.D ax lv).B ap;have c2:∀K,S3.A K≠ .none->rowOf v4≠some K:=fun K t x=>by
  rw[bm]at x;injection x with x;exact t (aa.I (by grind))
 have bn:∀K,(S.A K= .none/\rowOf lv≠some K)->S3.A K≠ .none->(S.A K= .none/\rowOf v4≠some K)/\S4.A K=S3.A K:=fun K a b=>⟨⟨a.1,c2 K b⟩,ap.d K b a.2⟩
 have bo:=OprC.A bn bi;have bp:jt S S4 m E v4 (l++[(.mk 1 T Q Y n b [],id)]):=⟨g4,⟨_,h4,by simp[k2],fun i a b'=>by
  by_cases hi:i<bk.length
  ·rw[Xx hi,Xx (by omega)];exact(k3 i hi (by omega)).A bn
  ·have:i=bk.length:=by grind
   subst this;rw[XG (Xb _),XG (by omega)];simp[k2];exact⟨_,rfl,bo⟩⟩,fun x hx=>by
  rcases Xy.1 hx with hx|hx
  ·exact hG.f x hx
  ·rw[Xn.1 hx];exact⟨rfl,ai,bj,by grind,rfl⟩,by grind⟩
 obtain⟨r64,bq⟩:=ap.A r63 cv;obtain⟨r74,br⟩:=ap.A r73 cw;simp only[XY,simprocAttr];rw[Ja];simp only[XY,simprocAttr];refine Jc (atD (hD.B g4) hO ai) ?_;rintro _ S5 ⟨G5,kx,ky,rfl,ux,uy⟩;have b1:=ux.A;have b2:=ux.B;have b3:=uy.A;have b4:=uy.B;obtain⟨n5,bt⟩:=nxE S5;simp only[XY,simprocAttr,bt,b2,b4];generalize bu:up 0 n5=ad;refine nmA G5.D bt bu ?_;intro S6 G6 bv ⟨t13,r13⟩;have ae:=G5.B G6;have bw:=bp.A ae;have r66:=ae.A r64;have r76:=ae.A r74;have bx:∀K,rowOf v4=some K->S4.A K≠ .none:=fun K t=>h4.A t;have a3:rowOf v4≠some ad:=fun t=>bx _ t (G5.I bv);have bz:Yy o S6 lv v4:=c1.B (Yy.D ae v4);have b0:=OprC.A ae.H bo;obtain⟨_,_,_,_,o5,_⟩:=hO.B ai;have dg:=o5.b;have c3:SlAt (fun K=>d K\/e K) S6 kx 1 (strs (Jg m id).b):=ux.H G6;have lx:=ux.G;rw[Jw]at lx;have b5:∀K,d K\/e K->S.A K≠ .none:=hD.f;generalize Jg m id=N at*;rw[Je,Ja];simp only[XY,simprocAttr];obtain⟨L,hL⟩:=loE fun j fr S'=>∃(i:Nat) (X:V) (l':List (Opn×Nat)),j+i=N.b.length/\fr 0= .e r 0/\fr 3= .d .i64 (W:Nat)/\fr 4=X/\fr 6= .e p6 0/\fr 7= .e p7 0/\fr 13= .e ad 0/\fr 14= .d .i64 (i:Nat)/\jt S S' m E X l'/\Yy o S' lv X/\S'.A p6= .a t6 [x0,x1,x2]/\rowOf X≠some p6/\S'.A p7= .a t7 [.d .i64 1,ofL T,pv,ofL Y, .d .i64 n, .h b,qv]/\rowOf X≠some p7/\S'.A ad= .a t13 [.d .i64 N.a,ofL N.d,kx,ky]/\rowOf X≠some ad/\OprC (fun K=>S.A K= .none/\rowOf X≠some K) S' 1 [.d .i64 1,ofL T,pv,ofL Y, .d .i64 n, .h b,qv] (.mk 1 T Q Y n b []);refine JC L N.b.length (by omega) ((hL _ _ _).2 ⟨0,v4,_,by omega,rfl,rfl,rfl,rfl,rfl,rfl,by rfl,bw,bz,r66,bq,r76,br,r13,a3,b0⟩) ?_;clear bw bz r66 r76 b0;intro j fr S7 c4;obtain⟨i,X,l',hj,f0,f3,f4,f6,f7,af,ag,ak,c5,r67,b6,r77,b7,r137,a4,b8⟩:=(hL _ _ _).1 c4;by_cases hi:i<N.b.length;rotate_left
 ·have al:¬(i:Int)<N.b.length:=by omega
  simp only[XZ,simprocAttr,f4,af,ag,r137,lx,al]
  grind
 have al:(i:Int)<N.b.length:=by omega
 by_cases dq:W=0
 ·have ab:¬(W:Int)>0:=by omega
  simp only[XZ,simprocAttr,f3,f4,af,ag,r137,lx,al,ab]
  grind
 have ab:(W:Int)>0:=by omega
 by_cases h7:N.a=7;rotate_left
 ·simp only[XZ,simprocAttr,f3,f4,af,ag,r137,lx,al,ab,h7]
  grind
 have a5:=wiN (i:=i) (by omega);have b9:IntKind.i64.wrap ((W:Int)-1)=((W-1:Nat):Int):=by rw[JV (by omega) (by omega)];omega
 have ca:=b8;obtain⟨dr,ds,he,cb,cc⟩:=ca;simp at he;obtain⟨e1,e2⟩:=he;subst e1;subst e2;obtain⟨rk,ok,y1,y2⟩:=QQ (c3.D fun K a b=>(⟨a,by rw[ak.g.d K (b5 K a),bp.A ae|>.g.d K (b5 K a)]⟩:(d K\/e K)/\S7.A K=S6.A K)) hi;have a6:S7.A rk≠ .none:=fun h=>by rw[h]at y2;cases y2
 generalize N.b[i]=nm at*;obtain⟨n7,cd⟩:=nxE S7;rw[Je,Ja];simp only[XY,simprocAttr,f3,af,ag,r137,lx,al,ab,h7];rw[Je];simp only[XY,simprocAttr];rw[Ja];simp[XY,f7,r77,cd,d2,d4];generalize ce:up 0 n7=a7;refine nmA ak.g.D cd ce ?_;intro S8 G8 cf ⟨t15,r15⟩;have r68:=G8.A r67;have r78:=G8.A r77;have r138:=G8.A r137;have w8:=G8.D;obtain⟨nA,aq⟩:=nxE S8;have o7:=fun k=>nes (Jr w8 aq (Jb r78) k);rw[Ja];simp[XY,f7,r78,aq,o7];obtain⟨y0,a8⟩:=exE (up 0 nA);obtain⟨S9,ar⟩:=exE (S8.B fun M=>Row.a M []);have G9:Gr S8 S9:=by rw[ar];exact Gr.G w8 (Jd _)
 obtain⟨t9,r9⟩:∃M,S9.A y0= .a M []:=⟨_,by rw[ar,a8];simp[XZ,aq];rfl⟩
 have c6:S8.A y0= .none:=by rw[a8];exact nx0 w8 aq 0
 rw[<-ar,<-a8];clear ar;have c7:SlF S8 S9 (.m y0 0 0 1 0) 1 []:=⟨by simp, .inr ⟨y0,t9,c6,by grind, .inr rfl⟩⟩
 have nx:∀O,S8.A O≠ .none->rowOf (.m y0 0 0 1 0)≠some O:=fun O h t=>by
  injection t with t
  grind
 refine Qw (S0:=S8) G9 c7 (cb.H (G8.B G9)) (Yp _) (by rw[Jw];omega) (by rw[Jw];grind) fun Sa v1 ga cg dh a9=> ?_;simp at cg;have kS:∀{O:Pt},S8.A O≠ .none->Sa.A O=S8.A O:=fun{O} h=>by rw[a9 O (by rw[G9.d O h];exact h) (nx O h),G9.d O h]
 have ch:=(kS (Jb r138)).trans r138;have di:=(kS (Jb r15)).trans r15;have av:S8.A rk≠ .none:=by rw[G8.d rk a6];exact a6
 have c8:ld1 (Sa.A rk) ok=some (ofL nm, .a):=by rw[kS av,G8.d rk a6];exact y2
 obtain⟨nB,c9⟩:=nxE Sa;simp[XY,af,ag,ch,y1,c8,c9];obtain⟨Sb,ba⟩:=exE (Sa.B fun M=>Row.a M [ofL nm]);have gb:Gr Sa Sb:=by rw[ba];exact Gr.G ga.D (Jd _)
 have aj:SlAt (fun K=>K=up 0 nB) Sb (.m (up 0 nB) 0 1 1 1) 1 [[ofL nm]]:=by
  have:=Ql (st:=Sa) (z:=1) (e:=[ofL nm]) rfl
  grind
 rw[<-ba];clear ba;refine QG (S0:=S8) (ga.B gb) (cg.G gb) aj (fun t he=>by rw[Xn.1 he];rfl) (by simp) (by simp) (by rw[Jw];grind) ?_;intro Sc v2 gc au dt du;have kc:∀{O:Pt},S8.A O≠ .none->Sc.A O=S8.A O:=fun{O} h=>gc.d O h;have am:=gc.A r15;have s2:=au.D.B;have s3:=au.D.A;simp[XY,am,s2,s3];refine⟨JaM (JQ (v:= .m y0 0 0 1 0) (w:= .e ad 2) (q:=ad) ?_ ?_ rfl fun t=>Jb r138 (by grind)) (JQ (v:= .m y0 0 0 1 0) (w:= .e rk ok) (q:=rk) ?_ ?_ rfl fun t=>av (by grind)), ?_⟩
 ·rfl
 ·rfl
 ·rfl
 ·rfl
 obtain⟨Sd,ao⟩:=exE (Sc.D a7 t15 fun u=> .a u [.d .i64 1,ofL T,v2,ofL Y, .d .i64 n, .h b,qv]);have gd:Gr S7 Sd:=by rw[ao];exact(G8.B gc).J cf (Jb am) (by rw[am];rfl) (Jd _)
 obtain⟨td,cj⟩:∃M,Sd.A a7= .a M [.d .i64 1,ofL T,v2,ofL Y, .d .i64 n, .h b,qv]:=⟨_,by rw[ao];exact Jk _ _ _ _⟩
 have kd:∀K,K≠a7->Sd.A K=Sc.A K:=fun K t=>by rw[ao,Ji _ _ _ t]
 rw[<-ao];clear ao;have ck:SlF S8 Sd v2 1 (strs (Q++[nm])):=by
  have t:strs (Q++[nm])=strs Q++[[ofL nm]]:=by simp[strs]
  rw[t];exact au.B fun K x=>kd K fun y=>Jb r15 (by rw[<-y];exact(au.H x).1)
 have bb:∀K,rowOf X=some K->S7.A K≠ .none:=fun K t=>by
  obtain⟨_,q1,_⟩:=ak.d;exact q1.A t
 have da:OprC (fun K=>S.A K= .none/\rowOf X≠some K) Sd 1 [.d .i64 1,ofL T,v2,ofL Y, .d .i64 n, .h b,qv] (.mk 1 T (Q++[nm]) Y n b []):=⟨v2,qv,rfl,ck.D.D fun K t _=>⟨⟨(ak.g.B G8).I t,fun x=>bb K x (G8.I t)⟩,rfl⟩,cc.B (fun _ _ h=>h.A (fun _ _ h=>h.elim) gd.H) gd.H⟩
 have db:=gd.A r67;simp[XY,f0,f3,f4,f6,db,cj,b9];refine Jc (ih (W-1) (by omega) (by omega) (ak.A gd) da (by grind)) ?_;rintro v Se ⟨l2,dc,Ke,_⟩;have Kd:Yy S7 Se X v:=(Yy.D gd X).B Ke;obtain⟨dd,q6⟩:=Kd.A r67 b6;obtain⟨de,q7⟩:=Kd.A r77 b7;obtain⟨cl,df⟩:=Kd.A r137 a4;simp[XZ,ag,a5];exact⟨N.b.length-(i+1),by omega,(hL _ _ _).2 ⟨i+1,v,l2,by omega,f0,f3,rfl,f6,f7,af,rfl,dc,c5.B Kd,dd,q6,de,q7,cl,df,OprC.A (fun K a b=>⟨⟨a.1,fun x=>(Kd.f K x).elim a.2 b⟩,Kd.d K b a.2⟩) b8⟩⟩
theorem Jtg {E:EnvS}(ao:p.c=[])(hD:DT e n d r p m)(hO:OfF p m)(hE:EnvC f n c E)(hK:EnvK m E)(w:Nat)(hm:w<=10):
  Dz 32 [.e r 0, .j c, .d .i64 (w:Nat)] n fun v S'=>Gr n S'/\∃l,KG (fun k=>n.A k= .none) S' v l/\(∀o∈l,jo m E o)/\l.length<=60:=by
 have hw:=hD.wf;refine Jn tabM (aT Tryz.func32 rfl) rfl hw fun K ap=> ?_;have ad:=hE;obtain⟨vv,aa,rfl,h1,h2,c1,c2⟩:=Ki hE;have O:=h1.G;rw[XU]at O;have a0:=hK.e;obtain⟨n0,ae⟩:=nxE n;simp only[CT,Tryz.f32,XY,simprocAttr];rw[Ja];simp[XY,ae,c1.1,c2.1];generalize aq:up 0 n0=p4;refine nm1 hw ae aq ?_;intro S1 G1 a1 ⟨t4,r4⟩;rw[Ja];simp[XY];rw[Je,Ja];simp[XY];have h0:jt n S1 m E .g []:=⟨G1,⟨[],SlF.I _ _ _,rfl,fun i h=>absurd h (XO _)⟩,(fun o h=>by cases h),XC _⟩
 refine Jy (fun j fr S'=>∃(i:Nat) (T:V) (l:List (Opn×Nat)),j+i=E.a.length+1/\fr 0= .e r 0/\fr 2= .d .i64 (w:Nat)/\fr 4= .e p4 0/\fr 7=T/\fr 8= .d .i64 ((i:Int)-1)/\jt n S' m E T l/\S'.A p4= .a t4 [.d .i64 (E.c:Nat),vv,aa]/\rowOf T≠some p4) (E.a.length+1) (by omega) ⟨0, .g,[],by omega,rfl,rfl,rfl,rfl,by rfl,h0,r4,fun c=>by cases c⟩ ?_;rintro L hL j fr S2 ⟨i,T,l,hj,f0,f2,M,f7,y,N,r42,af⟩;have ag:JU T=some (.d .i64 (l.length:Nat), .a):=by
  obtain⟨es,q1,q2,_⟩:=N.d;have:=q1.D.G
  grind
 have done:K T S2:=ap _ _ (fun k c=>N.g.d k c) fun _=>⟨l,by
  obtain⟨es,q1,q2,q3⟩:=N.d;exact⟨es,q1.D,q2,fun i a b=>(q3 i a b).A fun k q _=>⟨q.1,rfl⟩⟩,N.f,N.e⟩
 by_cases hi:i<E.a.length+1;rotate_left
 ·have W:¬((i:Int)-1)<E.a.length:=by omega
  simp[XZ,M,f7,y,r42,O,W];omega
 have W:((i:Int)-1)<E.a.length:=by omega
 by_cases a2:l.length<60;rotate_left
 ·have z:¬(l.length:Int)<60:=by omega
  simp[XZ,M,f7,y,r42,O,W,ag,z];omega
 have z:(l.length:Int)<60:=by omega
 have x:IntKind.i64.wrap ((i:Int)-1+1)=((i+1:Nat):Int)-1:=by rw[JV (by omega) (by omega)];omega
 obtain⟨n2,ah⟩:=nxE S2;rw[Je,Ja];simp[XY,M,f7,y,r42,O,W,ag,z];rw[Je];simp[XY];rw[Ja];simp[XY,ah];generalize ar:up 0 n2=p9;refine nmA N.g.D ah ar ?_;intro S3 G3 au ⟨t9,r9⟩;have r43:=G3.A r42;have av:=N.A G3;have go:∀{Y:St} {nm:Str} {t:Nat} {ai:Fr} {Q:V->St->Prop},Gr S2 Y->Y.A p9= .a t [.d .i64 1,ofL nm, .g,ofL [], .d .i64 0, .h false, .g]->(∀v S5 l2,jt n S5 m E v l2->S5.A p4= .a t4 [.d .i64 (E.c:Nat),vv,aa]->rowOf v≠some p4->Q v S5)->J8 (tabT tabD) false none 74 [.e r 0, .j [.d .i64 (E.c:Nat),vv,aa], .j [.d .i64 1,ofL nm, .g,ofL [], .d .i64 0, .h false, .g], .d .i64 (w:Nat),T] ai Y Q:=by
  intro Y nm t ai Q G4 r94 hQ;have ho:OprC (fun k=>n.A k= .none/\rowOf T≠some k) Y 1 [.d .i64 1,ofL nm, .g,ofL [], .d .i64 0, .h false, .g] (.mk 1 nm [] [] 0 false []):=⟨.g, .g,rfl,SlAt.K _ _ _,LstAt.F⟩
  refine Jc (Jt9 ao hD hO ad hK w hm (N.A G4) ho (by grind)) ?_;rintro v S5 ⟨l2,aj,K5,_⟩;obtain⟨r45,q4⟩:=K5.A (G4.A r42) af
  grind
 by_cases aw:i=0
 ·subst aw;have ak:¬(((0:Nat):Int)-1)≥0:=by omega
  rw[Je,Ja];simp[XY,y];simp[XY,f0,f2,M,f7,r43,r9];refine go G3 r9 ?_;intro v S5 l2 aj r45 q4;simp[XZ,y];exact⟨E.a.length+1-(0+1),by omega,hL _ _ _ ⟨0+1,v,l2,by omega,f0,f2,M,rfl,rfl,aj,r45,q4⟩⟩
 obtain⟨o,rfl⟩:∃o,i=o+1:=⟨i-1,by omega⟩
 have hc:o<E.a.length:=by omega
 have e8:(((o+1:Nat):Int)-1)=((o:Nat):Int):=by omega
 rw[e8]at y x;have ak:((o:Nat):Int)≥0:=by omega
 have ax:=av.g;obtain⟨ra,qa,v1,v2,v3⟩:=JhX (h1.H ax) hc;rw[Je,Ja];simp[XY,y,ak];rw[Ja];simp[XY,M,y,r43,v1,v2,r9];obtain⟨Y,X⟩:=exE (S3.D p9 t9 fun u=> .a u [.d .i64 1,ofL E.a[o].1, .g,ofL [], .d .i64 0, .h false, .g]);have ab:Gr S2 Y:=by rw[X];exact G3.J au (Jb r9) (by rw[r9];rfl) (Jd _)
 obtain⟨a3,r94⟩:∃t,Y.A p9= .a t [.d .i64 1,ofL E.a[o].1, .g,ofL [], .d .i64 0, .h false, .g]:=⟨_,by rw[X];exact Jk _ _ _ _⟩
 rw[<-X];clear X;have r44:=ab.A r42;have al:=N.g.B ab;rw[Ja];simp[XY,M,r44,r94];refine Jc (findD al.D (ad.A al.H) hK.e _) ?_;rintro _ S5 ⟨G5,rfl⟩;have am:=ab.B G5;have r45:=G5.A r44;have r95:=G5.A r94;by_cases hf:QK E E.a[o].1=(o:Nat)
 ·have ay:(QK E E.a[o].1=((o:Nat):Int))=True:=XL hf;simp[XY,y,ay];simp[XY,f0,f2,M,f7,r45,r95];refine go am r95 ?_;intro v S6 l2 az r46 q4;simp only[XZ,simprocAttr,y,x];exact⟨E.a.length+1-(o+1+1),by omega,hL _ _ _ ⟨o+1+1,v,l2,by omega,f0,f2,M,rfl,rfl,az,r46,q4⟩⟩
 ·simp only[XZ,simprocAttr,y,hf,x];exact⟨E.a.length+1-(o+1+1),by omega,hL _ _ _ ⟨o+1+1,T,l,by omega,f0,f2,M,f7,rfl,N.A am,r45,af⟩⟩
def GrR (a b:St):Prop:=WF b/\∀r,a.A r≠ .none->b.A r=a.A r
theorem GrR.B {b:St}(h:GrR n b)(g:Gr b S):GrR n S:=⟨g.D,fun r e=>by rw[g.d r (by rw[h.2 r e];exact e),h.2 r e]⟩
theorem GrR.D {a:St}(h:GrR a S)(n:Nat)(w:WF {S with a:=n}):GrR a {S with a:=n}:=⟨w,h.2⟩
theorem GrR.A {a b:St}(h:GrR a b){r:Pt}(e:b.A r= .none):a.A r= .none:=by
 by_cases c:a.A r= .none
 ·exact c
 ·exact absurd (h.2 r c▸e) c
def JfL (S0:St)(P:Pt->Prop)(ru:Pt)(lv:V)(d:Nat):Prop:=∀(S:St) (kind:Int) (re:List V) (r:R9),GrR S0 S->R9C (fun _=>True) S re r->Dz 34 [.e ru 0,lv, .d .i64 kind, .j re, .d .i64 (d:Nat)] S fun v S'=>Gr S S'/\∃oe o,v= .j oe/\OprC (fun r=>P r\/S0.A r= .none) S' (d+1) oe o/\Yx (d+1) o
def OpsR (S0:St)(P:Pt->Prop)(S':St)(d:Nat)(v:V):Prop:=∃(o:Opn) (r:List Opn),LstAt (OprC (fun r=>P r\/S0.A r= .none) S' d) (fun r=>P r\/S0.A r= .none) S' v 7 (o::r)/\(∀x∈o::r,fitO d x/\docO d x)/\(∀x∈r,x.k≠6)/\r.length<9
theorem JmP (h:OprC e n k t Q):∃f g i j l m q,t=[f,g,i,j,l,m,q]/\((f.B=true/\f.A=some [f])/\(g.B=true/\g.A=some [g])/\(i.B=true/\i.A=some [i])/\(j.B=true/\j.A=some [j])/\(l.B=true/\l.A=some [l])/\(m.B=true/\m.A=some [m])/\(q.B=true/\q.A=some [q])):=by
 cases k with
 |zero=>exact h.elim
 | succ k=>
   obtain⟨a,u,r,w,c,b,p⟩:=Q;obtain⟨x,y,rfl,s,v⟩:=h;exact⟨_,_,_,_,_,_,_,rfl,⟨rfl,rfl⟩,⟨rfl,rfl⟩,⟨s.B,s.A⟩,⟨rfl,rfl⟩,⟨rfl,rfl⟩,⟨rfl,rfl⟩,v.G⟩
theorem QC {E:EnvS}{l o q r s:V}{c:Opn×Nat}(h:jF e n [j,T,l,o,q,r,s, .d .i64 a] c)(g:jo m E c)(d:Nat):OprC e n (d+1) [j,T,l,o,q,r,s] c.1/\Yx (d+1) c.1:=by
 obtain⟨K,L,x⟩:=h;have y:=x.D;have u:K=[j,T,l,o,q,r,s]:=by
  have:=congrArg (List.take 7) L;rw[ZR (by omega),<-y,Zf]at this;rw[y]at this;exact this.symm
 subst u;obtain⟨⟨k,M,i,N,f,b,p⟩,O⟩:=c;obtain⟨v,Q,U,z,w⟩:=g;have v:k=1:=v;have w:p=[]:=w;have z:i.length<90000:=z;subst v w;exact⟨x.G (by omega),⟨by omega,by simp,fun c h=>by cases h⟩,fun h=>absurd h (by decide),by omega⟩
section
variable {Z U P : Pt -> Prop} {S0 : St} {ru : Pt} {tb : Tb} {s : Sch} {E : EnvS} {lv : V} {l : List (Opn × Nat)}
theorem Jsh (N:DT Z S0 U ru s tb)(O:OfF s tb)(T:KG P S0 lv l)(W:∀c∈l,jo tb E c)(X:l.length<1000)(G:GrR S0 S){n:Int}(Y:∀m g S' o q x y K L M t,Gr S S'->Box8 m o q x y K L M t->(g=true->∃i,∃h:i<l.length,jF P S' m l[i]/\(Jg tb l[i].2).a=a)->z (.p [.j m, .h g]) S'):J8 (tabT tabD) true b 76 [.e ru 0,lv, .d .i64 a, .d .i64 n] w S z:=by
 have wl:=Js G.1 S.t;refine Jj ((Jsg (kind:=a) (n:=n) (N.A wl fun r u=>G.2 r (N.f r u)) O (T.za fun r k g=>⟨k,G.2 r g⟩) (fun c h=>(W c h).a) X).A fun v S' h=>⟨h.1,h.2⟩) ?_;rintro _ S' G' ⟨m,g,rfl,⟨o,q,x,y,K,L,M,t,hb⟩,h⟩;exact Y m g S' o q x y K L M t G' hb fun e=>by
  obtain⟨i,hi,h1,h2⟩:=h e;exact⟨i,hi,h1.A kR,h2⟩
theorem JpW (o:DT Z S0 U ru s tb)(q:OfF s tb)(v:KG P S0 lv l)(x:∀c∈l,jo tb E c)(y:l.length<1000)(G:GrR S0 S){n:Int}(X:∀m g S' K L M N O T W t,Gr S S'->Box8 m K L M N O T W t->(g=true->∃i,∃h:i<l.length,jF P S' m l[i]/\(Jg tb l[i].2).a=a)->z (.p [.j m, .h g]) S'):J8 (tabT tabD) false b 76 [.e ru 0,lv, .d .i64 a, .d .i64 n] w S z:=by
 refine Jc (Jsg (kind:=a) (n:=n) (o.A G.1 fun r u=>G.2 r (o.f r u)) q (v.za fun r k g=>⟨k,G.2 r g⟩) (fun c h=>(x c h).a) y) ?_
 grind
theorem kidM (a:WF n)(h:R9C (fun _=>True) n t x)(i:Nat)(f:i<1000)(g:∀c e S',Gr n S'->R9C (fun _=>True) S' c e->z (.j c) S'):J8 (tabT tabD) true b 124 [.j t, .d .i64 (i:Nat)] w n z:=by
 refine Jj (P:=fun v S'=>∃c e,v= .j c/\R9C (fun _=>True) S' c e) (Jt7 (Js a n.t) (h.A kR) i f) ?_;rintro _ S' G ⟨c,e,rfl,k⟩;exact g c e S' G (k.A kR)
theorem JaG (a:WF n)(c:Str)(d:∀S',Gr n S'->z (.j (JaF c)) S'):J8 (tabT tabD) true b 123 [ofL c] w n z:=by
 refine Jj (P:=fun v _=>v= .j (JaF c)) (Jtf c (Js a n.t)) ?_
 grind
theorem Jcz (c:WF n)(a e:Int)(f:0<e)(g:e<4611686018427387904)(i:∀S',Gr n S'->z (.d .i64 (a%e)) S'):J8 (tabT tabD) true b 75 [.d .i64 a, .d .i64 e] w n z:=by
 refine Jj (P:=fun v _=>v= .d .i64 (a%e)) ((qm a e _ f g).A fun v S' h=>⟨h.2▸Gr.F (Js c n.t),h.1⟩) ?_
 grind
theorem jI (y:JfL S0 P ru lv k)(G:GrR S0 n){f:Int}(h:R9C (fun _=>True) n t x)(L:∀c o S' g i l m p q s,Gr n S'->c=[g,i,l,m,p,q,s]->((g.B=true/\g.A=some [g])/\(i.B=true/\i.A=some [i])/\(l.B=true/\l.A=some [l])/\(m.B=true/\m.A=some [m])/\(p.B=true/\p.A=some [p])/\(q.B=true/\q.A=some [q])/\(s.B=true/\s.A=some [s]))->OprC (fun x=>P x\/S0.A x= .none) S' (k+1) c o->Yx (k+1) o->z (.j c) S'):J8 (tabT tabD) true b 34 [.e ru 0,lv, .d .i64 f, .j t, .d .i64 (k:Nat)] w n z:=by
 have K:=Js G.1 n.t;refine Jj (P:=fun v S'=>∃c o,v= .j c/\OprC (fun x=>P x\/S0.A x= .none) S' (k+1) c o/\Yx (k+1) o) (y _ f t x (G.D _ K) (h.A kR)) ?_;rintro _ S' M ⟨c,o,rfl,u,N⟩;have u:OprC (fun x=>P x\/S0.A x= .none) {S' with a:=n.t} (k+1) c o:=u;have u:OprC (fun x=>P x\/S0.A x= .none) S' (k+1) c o:=OprC.A (st:={S' with a:=n.t}) (st':=S') kR u;obtain⟨g,i,l,m,p,q,s,O,T⟩:=JmP u
 grind
theorem ops2 {t:Nat}{o1:Opn}(h:n.A r= .a t (JaF y++c))(f:S0.A r= .none)(g:OprC (fun r=>P r\/S0.A r= .none) n (k+1) c o1)(e:Yx (k+1) o1):OpsR S0 P n (k+1) (.m r 0 2 7 2):=by
 obtain⟨i,j,l⟩:=Jhe (P:=fun r=>P r\/S0.A r= .none) (S:=n) y k;refine⟨.mk 6 [] [] y 0 false [],[o1],⟨[JaF y,c],SlAt.J (t:=t) (by grind) (.inr f) (by simp[g.D]),rfl, ?_⟩, ?_, ?_,by simp⟩
 ·grind
 ·intro x b;rcases Xw.1 b with rfl|b
  ·grind
  ·obtain rfl:=Xn.1 b;exact⟨e.1,e.2.1⟩
 ·intro x b;obtain rfl:=Xn.1 b;exact e.2.2
theorem ops3 {t:Nat}{e:List V}{o1 o2:Opn}(l:n.A r= .a t (JaF y++(c++e)))(h:S0.A r= .none)(i:OprC (fun r=>P r\/S0.A r= .none) n (k+1) c o1)(f:Yx (k+1) o1)(j:OprC (fun r=>P r\/S0.A r= .none) n (k+1) e o2)(g:Yx (k+1) o2):OpsR S0 P n (k+1) (.m r 0 3 7 3):=by
 obtain⟨o,p,q⟩:=Jhe (P:=fun r=>P r\/S0.A r= .none) (S:=n) y k;refine⟨.mk 6 [] [] y 0 false [],[o1,o2],⟨[JaF y,c,e],SlAt.J (t:=t) (by grind) (.inr h) (by simp[i.D,j.D]),rfl, ?_⟩, ?_, ?_,by simp⟩
 ·grind
 ·intro x b;simp at b;rcases b with rfl|rfl|rfl
  ·grind
  ·exact⟨f.1,f.2.1⟩
  ·exact⟨g.1,g.2.1⟩
 ·intro x b;simp at b;rcases b with rfl|rfl
  ·exact f.2.2
  ·exact g.2.2
theorem nmK {K:St->Prop}(d:WF n)(e:n.b=up 0 r)(h:∀S',Gr n S'->n.A (up 0 r)= .none->(∃c,S'.A (up 0 r)= .a c t)->K S'):K (n.B fun c=> .a c t):=
 h _ (Gr.G d (Jd _)) (nx0 d e 0) ⟨_,Ye e _⟩
theorem Jhf {i l p q s:V}(f:∀v S',(∀c,n.A c≠ .none->S'.A c=n.A c)->(Gr n S'->OpsR S0 P S' (k+1) v)->z v S')(R:GrR S0 S)(g:Gr n S)(w:S.b=up 0 r)(C:OprC (fun c=>P c\/S0.A c= .none) S (k+1) [j,T,i,l,p,q,s] Q)(W:Yx (k+1) Q):z (.m (up 0 r) 0 2 7 2) (S.B fun t=> .a t [.d .i64 6,ofL [], .g,ofL y, .d .i64 0, .h false, .g,j,T,i,l,p,q,s]):=by
 refine nmK (K:=z _) g.D w ?_;intro L u x ⟨t7,r7⟩;exact f _ _ (fun c e=>(g.B u).d c e) fun _=>ops2 (t:=t7) r7 (R.A x) (C.A u.H) W
theorem Jj5 {l p q s u w x L N O U X:V}{o2:Opn}(f:∀v S',(∀c,n.A c≠ .none->S'.A c=n.A c)->(Gr n S'->OpsR S0 P S' (k+1) v)->z v S')(R:GrR S0 S)(g:Gr n S)(Y:S.b=up 0 r)(Z:Gr M S)(C:OprC (fun c=>P c\/S0.A c= .none) M (k+1) [j,T,l,p,q,s,u] Q)(W:Yx (k+1) Q)(C2:OprC (fun c=>P c\/S0.A c= .none) S (k+1) [w,x,L,N,O,U,X] o2)(W2:Yx (k+1) o2):z (.m (up 0 r) 0 3 7 3) (S.B fun t=> .a t [.d .i64 6,ofL [], .g,ofL y, .d .i64 0, .h false, .g,j,T,l,p,q,s,u,w,x,L,N,O,U,X]):=by
 refine nmK (K:=z _) g.D Y ?_;intro S7 i pn ⟨t7,r7⟩;exact f _ _ (fun c e=>(g.B i).d c e) fun _=>ops3 (t:=t7) r7 (R.A pn) (C.A (Z.B i).H) W (C2.A i.H) W2
end
theorem Jth (X:JfL S e r j k)(hd:k<1000)(G:GrR S M)(h:R9C (fun _=>True) M t x):
  Dz 80 [.e r 0,j, .j t, .d .i64 ((k+1:Nat):Nat)] M fun v S'=>Gr M S'/\OpsR S e S' (k+1) v:=by
 have hw:=G.1;refine Jn tabM (aT Tryz.func80 rfl) rfl hw fun K L=> ?_;have h0:=h;obtain⟨b,n,kv,es,rfl,hk,hn,h2,h3,hl,h4⟩:=h.B;have c2:=h2.A;have s2:=h2.B;have q:IntKind.i64.wrap (((k+1:Nat):Int)-1)=((k:Nat):Int):=by rw[JV (by omega) (by omega)];omega
 obtain⟨n0,N⟩:=nxE M;simp only[CT,Tryz.f80,XY,simprocAttr];rw[Ja];simp only[XY,simprocAttr,N,s2];generalize Y:up 0 n0=p6;refine nm1 hw N Y ?_;intro S1 y af ⟨t6,r6⟩;have Z:∀{p:St},Gr S1 p->R9C (fun _=>True) p [.d .i64 b, .d .i64 n,kv] x:=fun g=>h0.D (y.B g);have O:∀{p:St},Gr S1 p->GrR S p:=fun g=>G.B (y.B g);by_cases hz:n.tmod 2=0;rotate_left
 ·rw[Je,Ja];simp only[XY,simprocAttr,r6,hz];rw[Ja];simp only[XZ,simprocAttr];refine JaG y.D _ ?_;intro p i;simp only[XZ,simprocAttr,i.A r6];refine kidM i.D (Z i) 0 (by decide) ?_;intro e3 q3 S3 T h3;simp only[XZ,simprocAttr,q];have U:=i.B T;refine jI X (O U) h3 ?_;intro oe o S4 z0 z1 z2 z3 z4 z5 z6 W c s C4 W4;subst c;have l:=U.B W;simp only[XZ,simprocAttr,l.A r6];refine kidM l.D (Z l) 1 (by decide) ?_;intro e5 q5 S5 Q h5;simp only[XZ,simprocAttr,q];have u:=l.B Q;refine jI X (O u) h5 ?_;intro ag o2 S6 y0 y1 y2 y3 y4 y5 y6 z c aa C6 W6;subst c;obtain⟨n6,f⟩:=nxE S6;simp only[XZ,simprocAttr,f,s,aa];exact Jj5 L (O (u.B z)) (y.B (u.B z)) f (Q.B z) C4 W4 C6 W6
 obtain⟨m,hm,ah⟩:=Qe (IntKind.i64.wrap (n.tdiv 2)) (n:=2) (by decide);have hm:IntKind.i64.wrap (n.tdiv 2)%2=(m:Nat):=hm;rw[Je,Ja];simp only[XY,simprocAttr,r6,hz];rw[Ja];simp only[XZ,simprocAttr];refine JaG y.D _ ?_;intro p i;obtain⟨n2,w⟩:=nxE p;have r62:=i.A r6;have o6:=fun b=>nes (Jr i.D w (Jb r62) b);simp only[XZ,simprocAttr,w,o6,r62];generalize ab:up 0 n2=p7;refine nm1c i.D w ab ?_;intro S3 T ai ⟨t7,r7⟩;have U:=i.B T;refine Jcz T.D _ _ (by decide) (by decide) ?_;intro S4 W;have l:=U.B W;rw[hm];have hi:∃kk:Int,ld1 (.a t7 [.d .i64 2, .d .i64 1]) m=some (.d .i64 kk, .a):=by
  have:m=0\/m=1:=by omega
  rcases this with rfl|rfl
  ·exact⟨_,rfl⟩
  ·exact⟨_,rfl⟩
 obtain⟨kk,ad⟩:=hi;have ae:Jo 1 (.m p7 0 2 1 2) (.d .i64 (m:Nat))=some (.e p7 m, .a):=by
  have:m=0\/m=1:=by omega
  rcases this with rfl|rfl<;>rfl
 have r74:=W.A r7;simp only[XZ,simprocAttr,ae,r74,ad,l.A r6];refine kidM l.D (Z l) 0 (by decide) ?_;intro e5 q5 S5 Q h5;have u:=l.B Q;have r75:=Q.A r74;simp only[XZ,simprocAttr,q];refine jI X (O u) h5 ?_;intro oe o S6 z0 z1 z2 z3 z4 z5 z6 z c s C4 W4;subst c;obtain⟨n6,f⟩:=nxE S6;simp[XZ,f,s];exact Jhf L (O (u.B z)) (y.B (u.B z)) f C4 W4
theorem Jrh {E:EnvS}(hD:DT e S d r p m)(hO:OfF p m)(hl:KG f S j h)(hg:∀c∈h,jo m E c)(hN:h.length<1000)(hW:JfL S f r j k)(hd:k<1000)(G:GrR S M)(i:R9C (fun _=>True) M t x):
  Dz 79 [.e r 0,j, .j t, .d .i64 ((k+1:Nat):Nat)] M fun v S'=>Gr M S'/\OpsR S f S' (k+1) v:=by
 have hw:=G.1;refine Jn tabM (aT Tryz.func79 rfl) rfl hw fun K aa=> ?_;have h0:=i;obtain⟨q,n,kv,es,rfl,hk,hn,h2,h3,a3,h4⟩:=i.B;have c2:=h2.A;have s2:=h2.B;have O:IntKind.i64.wrap (((k+1:Nat):Int)-1)=((k:Nat):Int):=by rw[JV (by omega) (by omega)];omega
 obtain⟨n0,af⟩:=nxE M;simp only[CT,Tryz.f79,XY,simprocAttr];rw[Ja];simp only[XY,simprocAttr,af,s2];generalize aj:up 0 n0=p6;refine nm1 hw af aj ?_;intro S1 G1 a4 ⟨t6,r6⟩;have hh:∀{S2:St},Gr S1 S2->R9C (fun _=>True) S2 [.d .i64 q, .d .i64 n,kv] x:=fun g=>h0.D (G1.B g);have T:∀{S2:St},Gr S1 S2->GrR S S2:=fun g=>G.B (G1.B g);rw[Ja];simp only[XY,simprocAttr,r6];refine JpW hD hO hl hg hN (T (Gr.F G1.D)) ?_;intro ce b S2 w0 w1 w2 w3 w4 w5 w6 wt G2 hb hc;obtain⟨rfl,hw⟩:=hb;obtain⟨n2,ag⟩:=nxE S2;simp only[XY,simprocAttr,hw,ag];generalize ak:up 0 n2=p9;refine nmA G2.D ag ak ?_;intro S3 G3 a5 ⟨t9,r9⟩;have W:=G2.B G3;rw[Je,Ja];simp only[XY,simprocAttr,W.A r6];refine Jc (qm n 5 S3 (by decide) (by decide)) ?_;rintro _ _ ⟨rfl,rfl⟩;have hc:n%5=0\/n%5=1\/n%5=2\/n%5=3\/n%5=4:=by omega
 have al:¬(1:Int)=0:=by decide
 have am:¬(2:Int)=0:=by decide
 have ao:¬(2:Int)=1:=by decide
 have ap:¬(3:Int)=0:=by decide
 have aq:¬(3:Int)=1:=by decide
 have ar:¬(3:Int)=2:=by decide
 have au:¬(4:Int)=0:=by decide
 have av:¬(4:Int)=1:=by decide
 have aw:¬(4:Int)=2:=by decide
 have ax:¬(4:Int)=3:=by decide
 rcases hc with i|i|i|i|i
 all_goals
  rw[i];simp only[XY,simprocAttr];rw[Ja];simp only[XY,simprocAttr,al,am,ap,au]
 ·rw[Ja];simp only[XY,simprocAttr]
  cases b with
  | false=>
    simp only[XY,simprocAttr];rw[Ja];simp only[XZ,simprocAttr];refine JaG W.D _ ?_;intro S4 X;have L:=W.B X;simp only[XZ,simprocAttr,L.A r6];refine kidM L.D (hh L) 0 (by decide) ?_;intro e5 q5 S5 G5 h5;simp only[XZ,simprocAttr,O];have Q:=L.B G5;refine jI hW (T Q) h5 ?_;intro oe o S6 z0 z1 z2 z3 z4 z5 z6 G6 z N C4 W4;subst z;obtain⟨n6,y⟩:=nxE S6;simp only[XZ,simprocAttr,y,N];exact Jhf aa (T (Q.B G6)) (G1.B (Q.B G6)) y C4 W4
  | true=>
    obtain⟨u,hj,C,_⟩:=hc rfl;have ah:=QC C (hg _ (Xh hj)) k;simp only[XY,simprocAttr];rw[Ja];simp only[XZ,simprocAttr];refine JaG G3.D _ ?_;intro S4 X;obtain⟨n6,y⟩:=nxE S4;simp only[XZ,simprocAttr,X.A r9,y,hw];have L:=W.B X;exact Jhf aa (T L) (G1.B L) y (ah.1.A fun x a b=>⟨.inl a,(G3.B X).d x b⟩) ah.2
 ·rw[Ja];simp only[XY,simprocAttr];rw[Ja];simp only[XZ,simprocAttr];refine JaG W.D _ ?_;intro S4 X;have L:=W.B X;simp only[XZ,simprocAttr,L.A r6];refine kidM L.D (hh L) 0 (by decide) ?_;intro e5 q5 S5 G5 h5;simp only[XZ,simprocAttr,O];have Q:=L.B G5;refine jI hW (T Q) h5 ?_;intro oe o S6 z0 z1 z2 z3 z4 z5 z6 G6 z N C4 W4;subst z;have Y:=Q.B G6;simp only[XZ,simprocAttr,Y.A r6];refine kidM Y.D (hh Y) 1 (by decide) ?_;intro e7 q7 S7 G7 h7;simp only[XZ,simprocAttr,O];have g7:=Y.B G7;refine jI hW (T g7) h7 ?_;intro ai o2 S8 y0 y1 y2 y3 y4 y5 y6 G8 z ab C6 W6;subst z;obtain⟨n6,y⟩:=nxE S8;simp only[XZ,simprocAttr,y,N,ab];exact Jj5 aa (T (g7.B G8)) (G1.B (g7.B G8)) y (G7.B G8) C4 W4 C6 W6
 ·rw[Ja];simp only[XY,simprocAttr,ao];rw[Ja];simp only[XY,simprocAttr];rw[Ja];simp only[XY,simprocAttr,W.A r6];refine Jc (qm _ 3 _ (by decide) (by decide)) ?_;rintro _ _ ⟨rfl,rfl⟩;simp only[XY,simprocAttr];rw[Ja];simp only[XZ,simprocAttr];refine JaG W.D _ ?_;intro S4 X;have L:=W.B X;simp only[XZ,simprocAttr,L.A r6];refine kidM L.D (hh L) 0 (by decide) ?_;intro e5 q5 S5 G5 h5;simp only[XZ,simprocAttr,O];have Q:=L.B G5;refine jI hW (T Q) h5 ?_;intro oe o S6 z0 z1 z2 z3 z4 z5 z6 G6 z N C4 W4;subst z;have Y:=Q.B G6;simp only[XZ,simprocAttr,Y.A r6];refine kidM Y.D (hh Y) 1 (by decide) ?_;intro e7 q7 S7 G7 h7;simp only[XZ,simprocAttr,O];have g7:=Y.B G7;refine jI hW (T g7) h7 ?_;intro ai o2 S8 y0 y1 y2 y3 y4 y5 y6 G8 z ab C6 W6;subst z;obtain⟨n6,y⟩:=nxE S8;simp only[XZ,simprocAttr,y,N,ab];exact Jj5 aa (T (g7.B G8)) (G1.B (g7.B G8)) y (G7.B G8) C4 W4 C6 W6
 ·rw[Ja];simp only[XY,simprocAttr,aq];rw[Ja];simp only[XY,simprocAttr,ar];rw[Ja];simp only[XY,simprocAttr];obtain⟨n3,ad⟩:=nxE S3;have r63:=W.A r6;have o6:=fun q=>nes (Jr W.D ad (Jb r63) q);rw[Ja];simp only[XZ,simprocAttr,ad,o6,r63];generalize ay:up 0 n3=p7;refine nm1c W.D ad ay ?_;intro S4 X a6 ⟨t7,r7⟩;have L:=W.B X;refine Jcz X.D _ _ (by decide) (by decide) ?_;intro S5 G5;have Q:=L.B G5;obtain⟨w,hm,a7⟩:=Qe (IntKind.i64.wrap (n.tdiv 5)) (n:=2) (by decide);have hm:IntKind.i64.wrap (n.tdiv 5)%2=(w:Nat):=hm;rw[hm];have hi:∃ss:Str,ld1 (.a t7 [ofL [97,110,100],ofL [111,114]]) w=some (ofL ss, .a):=by
   have:w=0\/w=1:=by omega
   rcases this with rfl|rfl
   all_goals exact⟨_,rfl⟩
  obtain⟨ss,az⟩:=hi;have a0:Jo 1 (.m p7 0 2 1 2) (.d .i64 (w:Nat))=some (.e p7 w, .a):=by
   have:w=0\/w=1:=by omega
   rcases this with rfl|rfl<;>rfl
  have a1:=G5.A r7;simp only[XZ,simprocAttr,a0,a1,az];refine JaG Q.D _ ?_;intro S6 G6;have Y:=Q.B G6;simp only[XZ,simprocAttr,Y.A r6];refine kidM Y.D (hh Y) 0 (by decide) ?_;intro e7 q7 S7 G7 h7;simp only[XZ,simprocAttr,O];have g7:=Y.B G7;refine jI hW (T g7) h7 ?_;intro oe o S8 z0 z1 z2 z3 z4 z5 z6 G8 z N C4 W4;subst z;have g8:=g7.B G8;simp only[XZ,simprocAttr,g8.A r6];refine kidM g8.D (hh g8) 1 (by decide) ?_;intro e9 q9 S9 G9 h9;simp only[XZ,simprocAttr,O];have g9:=g8.B G9;refine jI hW (T g9) h9 ?_;intro ai o2 a2 y0 y1 y2 y3 y4 y5 y6 ae z ab C6 W6;subst z;obtain⟨n6,y⟩:=nxE a2;simp only[XZ,simprocAttr,y,N,ab];exact Jj5 aa (T (g9.B ae)) (G1.B (g9.B ae)) y (G9.B ae) C4 W4 C6 W6
 ·rw[Ja];simp only[XY,simprocAttr,av];rw[Ja];simp only[XY,simprocAttr,aw];rw[Ja];simp only[XY,simprocAttr,ax];rw[Ja];simp only[XZ,simprocAttr];refine JaG W.D _ ?_;intro S4 X;have L:=W.B X;simp only[XZ,simprocAttr,L.A r6];refine kidM L.D (hh L) 0 (by decide) ?_;intro e5 q5 S5 G5 h5;simp only[XZ,simprocAttr,O];have Q:=L.B G5;refine jI hW (T Q) h5 ?_;intro oe o S6 z0 z1 z2 z3 z4 z5 z6 G6 z N C4 W4;subst z;obtain⟨n6,y⟩:=nxE S6;simp[XZ,y,N];exact Jhf aa (T (Q.B G6)) (G1.B (Q.B G6)) y C4 W4
theorem Jua {E:EnvS}(hD:DT e S d r p m)(hO:OfF p m)(hl:KG f S j h)(hg:∀c∈h,jo m E c)(hN:h.length<1000)(hW:JfL S f r j k)(hd:k<1000)(G:GrR S M)(u:R9C (fun _=>True) M t x):
  Dz 78 [.e r 0,j, .j t, .d .i64 ((k+1:Nat):Nat)] M fun v S'=>Gr M S'/\OpsR S f S' (k+1) v:=by
 have hw:=G.1;refine Jn tabM (aT Tryz.func78 rfl) rfl hw fun K ag=> ?_;have h0:=u;obtain⟨w,n,kv,es,rfl,hk,hn,h2,h3,ay,h4⟩:=u.B;have c2:=h2.A;have s2:=h2.B;have ah:IntKind.i64.wrap (((k+1:Nat):Int)-1)=((k:Nat):Int):=by rw[JV (by omega) (by omega)];omega
 obtain⟨n0,am⟩:=nxE M;simp only[CT,Tryz.f78,XY,simprocAttr];rw[Ja];simp[XY,am,s2];generalize au:up 0 n0=p6;refine nm1 hw am au ?_;intro S1 G1 az ⟨t6,r6⟩;have hh:∀{S2:St},Gr S1 S2->R9C (fun _=>True) S2 [.d .i64 w, .d .i64 n,kv] x:=fun g=>h0.D (G1.B g);have GG:∀{S2:St},Gr S1 S2->GrR S S2:=fun g=>G.B (G1.B g);rw[Je,Ja];simp[XY];refine Jy (fun y fr S'=>∃i:Nat,y+i=3/\fr 0= .e r 0/\fr 1=j/\fr 3= .d .i64 ((k+1:Nat):Nat)/\fr 6= .e p6 0/\fr 9= .d .i64 (i:Nat)/\Gr S1 S') 3 (by omega) ⟨0,by omega,rfl,rfl,rfl,rfl,by rfl,Gr.F G1.D⟩ ?_;rintro L hL y fr S2 ⟨i,hj,f0,f1,f3,T,f9,O⟩;by_cases hi:i<3;rotate_left
 ·have ai:¬(i:Int)<3:=by omega
  rw[Je,Ja];simp[XY,f9,ai];by_cases hz:n.tmod 3=1
  ·rw[Je,Ja];simp[XY,T,O.A r6,hz];obtain⟨n3,Q⟩:=nxE S2;have o6:=fun w=>nes (Jr O.D Q (Jb (O.A r6)) w);rw[Ja];simp[XZ,T,Q,o6,O.A r6];generalize X:up 0 n3=p7;refine nm1c O.D Q X ?_;intro S3 G3 ao ⟨t7,r7⟩;have g3:=O.B G3;refine Jcz G3.D _ _ (by decide) (by decide) ?_;intro S4 G4;have g4:=g3.B G4;obtain⟨z,Y,ap⟩:=Qe (IntKind.i64.wrap (n.tdiv 3)) (n:=6) (by decide);have Y:IntKind.i64.wrap (n.tdiv 3)%6=(z:Nat):=Y;rw[Y];have hi:∃ss:Str,ld1 (.a t7 [ofL [105,56],ofL [105,49,54],ofL [105,51,50],ofL [117,56],ofL [117,49,54],ofL [117,51,50]]) z=some (ofL ss, .a):=by
    have:z=0\/z=1\/z=2\/z=3\/z=4\/z=5:=by omega
    rcases this with rfl|rfl|rfl|rfl|rfl|rfl
    all_goals exact⟨_,rfl⟩
   obtain⟨ss,aj⟩:=hi;have aa:Jo 1 (.m p7 0 6 1 6) (.d .i64 (z:Nat))=some (.e p7 z, .a):=by
    have:z=0\/z=1\/z=2\/z=3\/z=4\/z=5:=by omega
    rcases this with rfl|rfl|rfl|rfl|rfl|rfl<;>rfl
   have ab:=G4.A r7;simp[XZ,aa,ab,aj];refine JaG g4.D _ ?_;intro S5 G5;have g5:=g4.B G5;simp[XZ,f0,f1,T,g5.A r6];refine kidM g5.D (hh g5) 0 (by decide) ?_;intro e6 q6 S6 G6 h6;simp only[XZ,simprocAttr,ah,f3];have g6:=g5.B G6;refine jI hW (GG g6) h6 ?_;intro oe o S7 z0 z1 z2 z3 z4 z5 z6 G7 ad ak C4 W4;subst ad;obtain⟨n6,N⟩:=nxE S7;simp[XZ,N,ak];exact Jhf ag (GG (g6.B G7)) (G1.B (g6.B G7)) N C4 W4
  ·rw[Je,Ja];simp[XY,T,O.A r6,hz];obtain⟨n3,Q⟩:=nxE S2;have o6:=fun w=>nes (Jr O.D Q (Jb (O.A r6)) w);rw[Ja];simp[XZ,T,Q,o6,O.A r6];generalize X:up 0 n3=p7;refine nm1c O.D Q X ?_;intro S3 G3 ao ⟨t7,r7⟩;have g3:=O.B G3;refine Jcz G3.D _ _ (by decide) (by decide) ?_;intro S4 G4;have g4:=g3.B G4;obtain⟨z,Y,ap⟩:=Qe (IntKind.i64.wrap (n.tdiv 3)) (n:=5) (by decide);have Y:IntKind.i64.wrap (n.tdiv 3)%5=(z:Nat):=Y;rw[Y];have hi:∃ss:Str,ld1 (.a t7 [ofL [97,100,100],ofL [115,117,98],ofL [109,117,108],ofL [115,104,108],ofL [115,104,114]]) z=some (ofL ss, .a):=by
    have:z=0\/z=1\/z=2\/z=3\/z=4:=by omega
    rcases this with rfl|rfl|rfl|rfl|rfl
    all_goals exact⟨_,rfl⟩
   obtain⟨ss,aj⟩:=hi;have aa:Jo 1 (.m p7 0 5 1 5) (.d .i64 (z:Nat))=some (.e p7 z, .a):=by
    have:z=0\/z=1\/z=2\/z=3\/z=4:=by omega
    rcases this with rfl|rfl|rfl|rfl|rfl<;>rfl
   have ab:=G4.A r7;simp[XZ,aa,ab,aj];refine JaG g4.D _ ?_;intro S5 G5;have g5:=g4.B G5;simp[XZ,f0,f1,T,g5.A r6];refine kidM g5.D (hh g5) 0 (by decide) ?_;intro e6 q6 S6 G6 h6;simp only[XZ,simprocAttr,ah,f3];have g6:=g5.B G6;refine jI hW (GG g6) h6 ?_;intro oe o S7 z0 z1 z2 z3 z4 z5 z6 G7 ad ak C4 W4;subst ad;have g7:=g6.B G7;simp[XZ,f0,f1,T,g7.A r6];refine kidM g7.D (hh g7) 1 (by decide) ?_;intro e8 q8 S8 G8 h8;simp only[XZ,simprocAttr,ah,f3];have g8:=g7.B G8;refine jI hW (GG g8) h8 ?_;intro a2 o2 S9 y0 y1 y2 y3 y4 y5 y6 G9 ad av C6 W6;subst ad;obtain⟨n6,N⟩:=nxE S9;simp[XZ,N,ak,av];exact Jj5 ag (GG (g8.B G9)) (G1.B (g8.B G9)) N (G8.B G9) C4 W4 C6 W6
 have ai:(i:Int)<3:=by omega
 have ae:IntKind.i64.wrap ((i:Int)+1)=((i+1:Nat):Int):=by rw[JV (by omega) (by omega)];omega
 rw[Je,Ja];simp[XY,f9,ai];rw[Je];simp[XY];obtain⟨n2,al⟩:=nxE S2;have r62:=O.A r6;have o6:=fun w=>nes (Jr O.D al (Jb r62) w);rw[Ja];simp[XZ,al,o6,r62,f0,f1,T,f9];generalize X:up 0 n2=p7;refine nm1c O.D al X ?_;intro S3 G3 ao ⟨t7,r7⟩;have g3:=O.B G3;refine Jcz G3.D _ _ (by decide) (by decide) ?_;intro S4 G4;have g4:=g3.B G4;obtain⟨z,Y,ap⟩:=Qe (IntKind.i64.wrap (n+i)) (n:=3) (by decide);have Y:IntKind.i64.wrap (n+i)%3=(z:Nat):=Y;rw[Y];have hk:∃kk:Int,ld1 (.a t7 [.d .i64 4, .d .i64 5, .d .i64 3]) z=some (.d .i64 kk, .a):=by
  have:z=0\/z=1\/z=2:=by omega
  rcases this with rfl|rfl|rfl
  all_goals exact⟨_,rfl⟩
 obtain⟨kk,aw⟩:=hk;have aa:Jo 1 (.m p7 0 3 1 3) (.d .i64 (z:Nat))=some (.e p7 z, .a):=by
  have:z=0\/z=1\/z=2:=by omega
  rcases this with rfl|rfl|rfl<;>rfl
 have ab:=G4.A r7;simp[XZ,aa,ab,aw,T,g4.A r6];refine Jsh hD hO hl hg hN (GG g4) ?_;intro ce b S5 w0 w1 w2 w3 w4 w5 w6 wt G5 hb hc;obtain⟨rfl,hw⟩:=hb;have g5:=g4.B G5;obtain⟨n5,aq⟩:=nxE S5;simp[XY,hw,aq];generalize ax:up 0 n5=p9;refine nmA G5.D aq ax ?_;intro S6 G6 a4 ⟨t9,r9⟩;have g6:=g5.B G6;have af:∀{W:Fr},W 0= .e r 0->W 1=j->W 3= .d .i64 ((k+1:Nat):Nat)->W 6= .e p6 0->W 9= .d .i64 ((i+1:Nat):Nat)->∃j',j'<y/\L j' W S6:=fun a0 a1 a3 a6 a9=>⟨3-(i+1),by omega,hL _ _ _ ⟨i+1,by omega,a0,a1,a3,a6,a9,g6⟩⟩
 cases b with
 | false=>
   rw[Ja];simp[XZ,f9,ae];exact af f0 f1 f3 T rfl
 | true=>
   by_cases hz:n.tmod 3=0;rotate_left
   ·rw[Ja];simp[XZ,T,f9,ae,g6.A r6,hz];exact af f0 f1 f3 T rfl
   obtain⟨q,hq,C,_⟩:=hc rfl;have ar:=QC C (hg _ (Xh hq)) k;rw[Ja];simp[XY,T,g6.A r6,hz];rw[Ja];simp[XZ];refine JaG G6.D _ ?_;intro S7 G7;have g7:=g6.B G7;obtain⟨n6,N⟩:=nxE S7;simp[XZ,G7.A r9,N,hw];exact Jhf ag (GG g7) (G1.B g7) N (ar.1.A fun x a b=>⟨.inl a,(G6.B G7).d x b⟩) ar.2
end Go.Proofs.YtmcjecniobkggaaGreat
