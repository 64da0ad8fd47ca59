/- A pipeline that is a path alone. The walker over two rows. The walker at an if. Is a tr -/
import Derived.Test.YtmcjecniobkggaaGreatQ5
set_option linter.constructorNameAsVariable false
set_option maxHeartbeats 16000000
set_option linter.unusedVariables false
set_option linter.unusedSimpArgs false
set_option linter.unusedSectionVars false
set_option maxRecDepth 100000
namespace Go.Proofs.YtmcjecniobkggaaGreat
open Eva Go.RowKit
variable {v q c:Pt->Prop}{e:Tb->List Nat->List Nat->Nat×Int}{n:List Str}{t:Tb->Cls->EnvS->List Nod->AnsR}{k:St}{z p x:Nat}{b y:V}{d g:List V}{i:List Nat}{r:Sch}{f:EnvS}{l a:Pt}{h:Tb}{m:Str}{j:List Nod}{u:Cls}{w:Int}
def JpQ (S S':St)(x:Option (Int×List Str))(v:V):Prop:=match x with
 |some y=>∃w,v= .p [.d .i64 y.1,w, .h true]/\SlAt (fun r=>S.A r= .none) S' w 1 (strs y.2)
 |none=>v= .p [.d .i64 0, .g, .h false]
theorem JtZ {S:St}{E:EnvS}{p:Pipe}(hw:WF S)(hE:EnvC v S d E)(hp:PipC q S z b p)(hv:E.a.length<=100000)(hf:fitP z p):
  Dz 134 [.j d,b] S fun f S'=>Gr S S'/\JpQ S S' (Qf E p) f:=by
 refine Jn tabM (aT Tryz.func134 rfl) rfl hw fun K s=> ?_;have ad:=hE;obtain⟨vv,nv,rfl,h1,h2⟩:=hE;have c1:=h1.A;have c2:=h1.B;have c3:=h2.G;obtain⟨n0,Y⟩:=nxE S;simp only[CT,Tryz.f134,XY,simprocAttr];rw[Ja];simp[XY,Y,c2,c3.1];generalize ae:up 0 n0=p4;refine nm1 hw Y ae ?_;intro S1 O aj ⟨t4,r4⟩;have Z:PipC q S1 z b p:=PipC.A hp O.H;have y:=LstAt.H Z;rw[Je]
 cases p with
 | nil=>
   have y:JU b=some (.d .i64 0, .a):=y;simp[XZ,y];exact s _ _ (fun r d=>O.d r d) fun _=>rfl
 |cons c pr=>
 cases pr with
 | cons c' pr=>
   have hz:¬((pr.length+2:Nat):Int)=1:=by omega
   have y:JU b=some (.d .i64 ((pr.length+2:Nat):Int), .a):=y;have ho:Qf E (c::c'::pr)=none:=by
    cases c with
    |nil=>rfl
    |cons o r=>cases o;cases r<;>rfl
   rw[ho]at s;simp[XZ,y];exact s _ _ (fun r d=>O.d r d) fun _=>rfl
 |nil=>
 have y:JU b=some (.d .i64 1, .a):=y;obtain⟨r1,q1,e1,U,a2,a3,a4,⟨cv,rfl,a5⟩,a6,T⟩:=LstAt.A Z (i:=0) (by simp);have U:Jo 1 b (.d .i64 0)=some (.e r1 q1, .a):=U;have T:=T 0 (by simp);simp at T a5;have L:=LstAt.H a5
 cases c with
 | nil=>
   have L:JU cv=some (.d .i64 0, .a):=L;simp[XZ,y,U,T,L];exact s _ _ (fun r d=>O.d r d) fun _=>rfl
 |cons o cr=>
 cases cr with
 | cons o' cr=>
   have hz:¬((cr.length+2:Nat):Int)=1:=by omega
   have L:JU cv=some (.d .i64 ((cr.length+2:Nat):Int), .a):=L;have ho:Qf E [o::o'::cr]=none:=by cases o;rfl
   rw[ho]at s;simp[XZ,y,U,T,L];exact s _ _ (fun r d=>O.d r d) fun _=>rfl
 |nil=>
 have L:JU cv=some (.d .i64 1, .a):=L;obtain⟨r2,q2,e2,b1,b2,b3,b4,b5,b6,b7⟩:=LstAt.A a5 (i:=0) (by simp);have b1:Jo 7 cv (.d .i64 0)=some (.e r2 q2, .a):=b1;simp at b5
 cases z with
 |zero=>exact b5.elim
 |succ z=>
 obtain⟨k,u,t,sx,n,m,pp⟩:=o;obtain⟨af,qv,rfl,W,hq⟩:=b5;have X:=b7 0 (by simp);simp at X;by_cases hk:k=1;rotate_left
 ·have:Qf E [[.mk k u t sx n m pp]]=none:=Xa hk;rw[this]at s;simp[XZ,y,U,T,L,b1,X,hk];exact s _ _ (fun r d=>O.d r d) fun _=>rfl
 have ag:Qf E [[.mk k u t sx n m pp]]=(KO E u).map fun f=>(f,t):=Xd hk;rw[ag]at s;subst hk;have d1:=W.A;have d2:=W.B;have d3:=hq.G.2;have d4:=hq.G.1;obtain⟨n1,aa⟩:=nxE S1;rw[Ja];simp[XY,y,U,T,L,b1,X];rw[Ja];simp[XY,U,T,b1,b4,aa,d2,d4];generalize ah:up 0 n1=p7;refine nmA O.D aa ah ?_;intro S2 G2 ak ⟨t7,r7⟩;have r42:=G2.A r4;have M:=O.B G2;have ai:EnvC v S2 [.d .i64 (E.c:Nat),vv,nv] E:=ad.A M.H;rw[Ja];simp[XY,r42,r7];refine Jc (JbB (Q:=fun f S'=>f=Jax E u/\S2=S') (aH (k:=166) rfl) (Jfp ai hv u) ⟨rfl,rfl⟩) ?_;rintro _ _ ⟨rfl,rfl⟩
 cases N:KO E u with
 | none=>
   rw[N]at s;simp only[Jax,N,XZ,simprocAttr];exact s _ _ (fun r d=>M.d r d) fun _=>rfl
 |some x=>
 rw[N]at s;simp only[Jax,N,XY,simprocAttr];rw[Je,Ja];simp[XY];rw[Ja];simp[XY,r7];have ab:SlAt q S2 af 1 (strs t):=W.H G2;refine Jc (JfJ (.inr rfl) (Q:=fun r=>S2.A r= .none) G2.D ab (Yp _) (by have:=(hf.2 _ (Xu ..)).2 _ (Xu ..);have:=this.1;rw[Jw];omega) (fun _ h=>h)) ?_;rintro w S3 ⟨G3,w3⟩;simp[XZ];exact s _ _ (fun r d=>(M.B G3).d r d) fun g=>⟨_,rfl,w3.D fun r p l=>⟨M.I p,rfl⟩⟩
def AnsX (U:Pt->Prop)(S:St)(w rt:Pt)(nv:V)(names:List Str)(a:Int)(x:AnsR)(v:V)(S':St):Prop:=∃U',RunW U S S' U'/\WkU S' U' w rt x.1 nv names x.2.1 (if x.2.2.1=0 then a else x.2.2.2)/\v= .d .i64 x.2.2.1
def RowH (s:Sch)(names:List Str)(m d:Nat)(row:Tb->Cls->EnvS->List Nod->AnsR):Prop:=∀(S:St) (U:Pt->Prop) (w rt:Pt) (tb:Tb) (nv:V) (cs:Cls) (a:Int) (e:List V) (E:EnvS) (lv:V) (l:List Nod),WkU S U w rt tb nv names cs a->OfF s tb->EnvC (fun r=>¬U r) S e E->EnvR tb E (sizL d l)->NodsC (fun r=>¬U r) S m d lv l->fitL (fitP m) d l->cs.length+sizL d l<100000->
 Dz 20 [.e w 0, .j e,lv] S (AnsX U S w rt nv names a (row tb cs E l))
theorem _root_.Eva.NodsC.B {e:St}(c:Kept k v e q)(h:NodsC (fun r=>¬v r) k z p y j):NodsC (fun r=>¬q r) e z p y j:=NodsC.A h fun r a b=>⟨(c r b a).2,(c r b a).1⟩
theorem Kq {E:EnvS}(h:EnvC v k d E):∃a b c,d=[a,b,c]/\(a.B=true/\a.A=some [a])/\(b.B=true/\b.A=some [b])/\(c.B=true/\c.A=some [c]):=by
 obtain⟨i,j,rfl,f,g⟩:=h;exact⟨_,_,_,rfl,⟨rfl,rfl⟩,⟨f.B,f.A⟩,g.G⟩
theorem Jsc {names:List Str}(H:RowH r names z p t)(F:RowF r (fitP z) p t){Q:EnvS}{W:V}{o:List Nod}(X:WkU k v l a h b names u w)(hO:OfF r h)
  (h1:EnvC (fun i=>¬v i) k d f) (h2:EnvC (fun i=>¬v i) k g Q) (k1:EnvR h f (sizL p j)) (k2:EnvR h Q (sizL p o)) (n1:NodsC (fun i=>¬v i) k z p y j) (n2:NodsC (fun i=>¬v i) k z p W o) (f1:fitL (fitP z) p j) (f2:fitL (fitP z) p o) (hc:u.length+(sizL p j+sizL p o)<100000):
  Dz 88 [.e l 0, .j d,y, .j g,W] k (AnsX v k l a b names w (Qi t h u f j Q o)):=by
 have hw:=X.D;refine Jl (aT Tryz.func88 rfl) rfl ?_;obtain⟨x0,x1,x2,rfl,a0,a1,a2⟩:=Kq h1;obtain⟨y0,y1,y2,rfl,b0,b1,b2⟩:=Kq h2;obtain⟨n0,L⟩:=nxE k;simp only[CT,Tryz.f88,XY,simprocAttr];rw[Ja];simp[XY,L,a0.1,a1.1,a2.1,b0.1,b1.1,b2.1];generalize Y:up 0 n0=p6;generalize Z:up 1 n0=p8;refine nm2 hw L Y Z ?_;intro S1 G1 ad aa ae ⟨t6,r6⟩ ⟨t8,r8⟩;have K1:Kept k v S1 v:=(RunW.D G1).B;have W1:=X.B G1;rw[Je,Ja];simp[XY,r6];refine Jc (H S1 v l a h b u w _ f y j W1 hO (h1.B K1) k1 (n1.B K1) f1 (by omega)) ?_;rintro _ S2 ⟨U2,R2,M,rfl⟩;have T:=F h u f j hO k1 f1;unfold Qi;generalize t h u f j=x at T M⊢;obtain⟨n,N,e,a'⟩:=x;have O:h.a.length<=n.a.length:=T.f;have ab:N.length<=u.length+sizL p j:=T.d;have q:OfF r n:=T.c;simp at M⊢;have K:=(RunW.D G1).A R2;by_cases c:e=0;rotate_left
 ·rw[Xa c]at M;simp only[Xd c,XZ,simprocAttr,c];exact⟨U2,K,by grind,rfl⟩
 subst c;simp at M;have u8:¬v p8:=X.A aa;have r82:=((R2.B p8 (Jb r8) u8).1).trans r8;have P:=K.B;simp[XY];rw[Ja];simp[XY];rw[Ja];simp[XY,r82];refine Jc (H S2 U2 l a n b N w _ Q W o M q (h2.B P) (k2.A O (Xb _)) (n2.B P) f2 (by omega)) ?_;rintro _ S3 ⟨U3,R3,W3,rfl⟩;simp[XZ];exact⟨U3,K.A R3,W3,rfl⟩
theorem Jt0 {names:List Str}{Y:Tb->Cls->EnvS->List Nod->AnsR}(H:RowH r names z p Y)(F:RowF r (fitP z) p Y)(hq:∀f E o X,fitP z f->Qf E f=some (o,X)->X.length<100000){rt:Pt}{E:EnvS}{n:Nod}{id:Nat}(hW:WkU k v l rt h b names u (-1))(hO:OfF r h)(hid:id<h.a.length)
  (hE:EnvC (fun x=>¬v x) k d E) (hK:EnvR h E (sizN (p+1) n)) (hn:NodC (fun x=>¬v x) k z (p+1) g n) (hf:fitN (fitP z) (p+1) n) (hc:u.length+sizN (p+1) n<100000) (hk:n.k=5):
  Dz 87 [.e l 0, .j d, .j g, .d .i64 (id:Nat)] k (AnsX v k l rt b names (-1) (oneS Y names h u E id n)):=by
 have hw:=hW.D;refine Jl (aT Tryz.func87 rfl) rfl ?_;obtain⟨K,at_,sx,nm,pp,W,Z,he,cases⟩:=n;have hk:K=5:=hk;subst hk;have ad:=hE;obtain⟨x0,x1,x2,rfl,a0,a1,a2⟩:=Kq hE;obtain⟨pv,bv,ev,xv,rfl,y1,y2,y3,y4⟩:=hn;have c4:=LstAt.G y1;have c5:=y2.G;have c6:=y3.G;have c7:=y4.G;obtain⟨n0,ak⟩:=nxE k;simp only[CT,Tryz.f87,XY,simprocAttr];rw[Ja];simp[XY,ak,a0.1,a1.1,a2.1,c4.1,c5.1,c6.1,c7.1];generalize av:up 0 n0=p5;generalize aw:up 1 n0=p6;refine nm2 hw ak av aw ?_;intro S1 G1 bd be bf ⟨t5,r5⟩ ⟨t6,r6⟩;rw[Ja];simp[XY];refine Jc (nodW (hW.B G1) hO hid) ?_;rintro _ S2 ⟨G2,kx,ky,rfl,al,ag⟩;obtain⟨_,_,_,_,o5,o6⟩:=hO.B hid;have b1:=al.A;have b2:=al.B;have b3:=ag.A;have b4:=ag.B;obtain⟨n2,am⟩:=nxE S2;simp[XY,am,b2,b4];generalize ax:up 0 n2=p9;refine nmA G2.D am ax ?_;intro S3 G3 bg ⟨t9,r9⟩;have r53:=G3.A (G2.A r5);obtain⟨n3,ao⟩:=nxE S3;rw[Ja];simp[XY,r53,ao,a0.1,a1.1,a2.1];generalize ay:up 0 n3=pA;refine nmA G3.D ao ay ?_;intro S4 G4 az ⟨tA,rA⟩;have r94:=G4.A r9;rw[Je,Ja];simp[XY,r94];have aa:=(G1.B (G2.B (G3.B G4)))
 have r54:=G4.A r53;have r64:=G4.A (G3.A (G2.A r6));have a3:sizN (p+1) (.mk 5 at_ sx nm pp W Z he cases)=1+sizL p W+sizL p Z+(cases.map fun c=>sizL p c.2).sum:=rfl;rw[a3]at hK hc;obtain⟨f1,_,f3,f4,_⟩:=hf;have f3:fitL (fitP z) p W:=f3;have f4:fitL (fitP z) p Z:=f4;have ho:oneS Y names h u E id (.mk 5 at_ sx nm pp W Z he cases)=(if(Jg h id).a=6 then match Qf E pp with
    |some (o,X)=>Qi Y h u (KB E (o,X,(Jg h id).c.getD 0 0)) W E Z
    |none=>Qi Y h u E W E Z
   else if(Jg h id).a=1 then Qi Y h u E W E Z
   else(h,u,17,-1)):=rfl
 rw[ho];generalize Jg h id=N at*;refine Jz (fun fr S'=>fr 0= .e l 0/\fr 5= .e p5 0/\fr 6= .e p6 0/\fr 10= .e pA 0/\∃(e1:List V) (E1:EnvS) (t:Nat),Ch0 k S'/\S'.A p5= .a t5 [x0,x1,x2]/\S'.A p6= .a t6 [.d .i64 5, .d .i64 at_,ofL sx,ofL nm,pv,bv,ev, .h he,xv]/\S'.A pA= .a t e1/\EnvC (fun x=>¬v x) S' e1 E1/\EnvR h E1 (sizL p W)/\(if N.a=6 then match Qf E pp with
    |some (o,X)=>Qi Y h u (KB E (o,X,N.c.getD 0 0)) W E Z
    |none=>Qi Y h u E W E Z
   else if N.a=1 then Qi Y h u E W E Z
   else(h,u,17,-1))=Qi Y h u E1 W E Z) (fun J hJ=> ?_) ?_
 rotate_left
 ·rintro fr S5 ⟨g0,g5,g6,a4,e1,E1,t,C5,s5,s6,sA,k1,k2,ap⟩;rw[ap];obtain⟨z0,z1,z2,rfl,_⟩:=Kq k1;have R5:RunW v k S5 v:=RunW.I C5;have K5:=R5.B;rw[Ja,Ja];simp[XY,g0,g5,g6,a4,s5,s6,sA];refine Jc (Jsc H F (hW.M C5) hO k1 (ad.B K5) k2 (hK.A (Xb _) (by omega)) (NodsC.B K5 y2) (NodsC.B K5 y3) f3 f4 (by omega)) ?_;rintro _ S6 ⟨U6,R6,W6,rfl⟩;simp[XZ];exact⟨U6,R5.A R6,W6,rfl⟩
 have aq:EnvC (fun x=>¬v x) S4 [x0,x1,x2] E:=ad.A aa.H;by_cases h6:N.a=6;rotate_left
 ·rw[Xa h6]at hJ⊢;by_cases h1:N.a=1
  ·rw[Xd h1]at hJ;simp[XZ,h1];exact hJ _ _ ⟨rfl,rfl,rfl,rfl,_,E,tA,Ch.H _ aa,r54,r64,rA,aq,hK.A (Xb _) (by omega),rfl⟩
  ·rw[Xa h1];simp[XZ,h6,h1];exact⟨v,RunW.D aa,hW.B aa,rfl⟩
 rw[Xd h6]at hJ⊢;simp[XY];rw[Je];simp[XY];rw[Je,Je,Ja];simp[XY,h6];rw[Ja];simp[XY,r54,r64];refine Jc (JtZ G4.D aq (PipC.A y1 aa.H) (by have:=hK.v;omega) f1) ?_;rintro o S5 ⟨G5,ov⟩;have ab:=aa.B G5;have r55:=G5.A r54;have r65:=G5.A r64;have r95:=G5.A r94;have ah:=G5.A rA;have a5:EnvC (fun x=>¬v x) S5 [x0,x1,x2] E:=ad.A ab.H
 cases ae:Qf E pp with
 | none=>
   rw[ae]at ov hJ;have ov:o= .p [.d .i64 0, .g, .h false]:=ov;subst ov;simp[XY];rw[Ja];simp[XZ];exact hJ _ _ ⟨rfl,rfl,rfl,rfl,_,E,tA,Ch.H _ ab,r55,r65,ah,a5,hK.A (Xb _) (by omega),rfl⟩
 |some y=>
 obtain⟨yv,X⟩:=y;rw[ae]at ov hJ;obtain⟨wv,rfl,wp⟩:=ov;have a6:=wp.A;have bh:=wp.B;have kl:N.c.length=1:=by rw[o5.a,h6];rfl
 have ar:=ag.H (G3.B (G4.B G5));have ll:=ar.G;rw[JS,kl]at ll;have ll:JU ky=some (.d .i64 1, .a):=ll;obtain⟨q,oo,e1,e2,e3,e4⟩:=SlAt.M (xs:=N.c.map fun n:Nat=>V.d .i64 (n:Int)) (i:=0) ar (by simp[kl]);have e1:Jo 1 ky (.d .i64 0)=some (.e q oo, .a):=e1;have e4:ld1 (S5.A q) oo=some (.d .i64 (N.c.getD 0 0:Nat), .a):=by grind
 simp[XY];rw[Ja];simp[XY,r95,ll,e1,e4,r55,a6];have au:NarC (fun x=>S4.A x= .none) S5 [.d .i64 yv,wv, .d .i64 (N.c.getD 0 0:Nat)] (yv,X,N.c.getD 0 0):=⟨wv,rfl,wp⟩
 have a7:k.A pA= .none:=Ch.B (Ch.H (fun _=>False) (G1.B (G2.B G3))) az;have a8:NarC (fun x=>¬v x/\x≠pA) {S5 with a:=S5.t} [.d .i64 yv,wv, .d .i64 (N.c.getD 0 0:Nat)] (yv,X,N.c.getD 0 0):=au.A fun x a L=>⟨⟨hW.A (aa.I a),fun d=>Jb rA (by grind)⟩,rfl⟩
 have a9:EnvC (fun x=>¬v x/\x≠pA) {S5 with a:=S5.t} [x0,x1,x2] E:=ad.A fun x a L=>⟨⟨a,fun d=>L (by grind)⟩,ab.d x L⟩
 refine Jj (P:=fun o S'=>∃e',o= .j e'/\EnvC (fun x=>(¬v x/\x≠pA)\/S5.A x= .none) S' e' (KB E (yv,X,N.c.getD 0 0))) (Jrb (Js G5.D _) a9 a8 (by have:=hK.n;omega)) ?_;rintro _ S6 G6 ⟨e',rfl,af⟩;have af:EnvC (fun x=>¬v x/\x≠pA) S6 e' (KB E (yv,X,N.c.getD 0 0)):=af.A fun x a L=>⟨by
  rcases a with a|a
  ·exact a
  ·exact⟨hW.A (ab.I a),fun d=>Jb ah (by grind)⟩,rfl⟩
 have ai:=af;obtain⟨u0,u1,u2,rfl,v0,v1,v2⟩:=Kq af;have aj:=G6.A ah;simp[XZ,aj,v0.1,v1.1,v2.1];have ba:=ab.B G6;have r56:=G6.A r55;have r66:=G6.A r65;have dp:∀{f:Pt} {t:Nat} {O:List V},S4.A f= .a t O->S3.A f≠ .none->f≠pA:=fun Q K d=>K (by grind);have bb:p5≠pA:=fun d=>Jb r53 (by grind);have bc:p6≠pA:=fun d=>Jb (G3.A (G2.A r6)) (by grind);have CA:Ch0 k (S6.D pA tA fun T=>Row.a T [u0,u1,u2]):=Ch0.A (Ch.H _ ba) a7 ((Ch.G _ G6.D).J (Jb aj) (by rw[aj];rfl) (.inl rfl) (Jd _));refine hJ _ _ ⟨rfl,rfl,rfl,rfl,_,_,_,CA,by rw[Ji _ _ _ bb];exact r56,by rw[Ji _ _ _ bc];exact r66,Jk _ _ _ _,ai.A fun x a L=>⟨a.1,by rw[Ji _ _ _ a.2]⟩,(hK.A (Xb _) (b':=sizL p W+1) (by omega)).D ⟨JjI ae,hq _ _ _ _ f1 ae,o6 _ (by grind)⟩,rfl⟩
def jr (l:List Bool):List (List V):=(l.map V.h).map fun x=>[x]
theorem JaZ (l:List Bool):(jr l).length=l.length:=by simp[jr]
theorem Jrd {l:List Bool}(h:SlAt v k b 1 (jr l))(K:l.length<100000):Dz 170 [b, .h false] k fun u p=>(∃i:Int,u= .d .i64 i/\decide (i≥0)=decide (false∈l))/\k=p:=by
 refine Jl (aT Tryz.func170 rfl) rfl ?_;have f:=h.G;rw[JaZ]at f;simp only[CT,Tryz.f170,XY,simprocAttr];rw[Ja];simp[XY];rw[Je,Ja];simp[XY,f];refine Jy (fun j m p=>∃i:Nat,j+i=l.length/\m 0=b/\m 1= .h false/\m 7= .d .i64 (l.length:Nat)/\m 8= .d .i64 (i:Nat)/\k=p/\(false∈l<->false∈l.drop i)) l.length (by omega) ⟨0,by omega,rfl,rfl,rfl,by rfl,rfl,by simp⟩ ?_;rintro L hL j m p ⟨i,N,s,t,q,w,rfl,a⟩;by_cases z:i<l.length;rotate_left
 ·have c:¬(i:Int)<l.length:=by omega
  rw[Xs (by omega)]at a;have a:¬false∈l:=fun e=>by grind
  simp only[XZ,simprocAttr,q,w,c]
  grind
 have c:(i:Int)<l.length:=by omega
 have g:=wiN (i:=i) (by omega);obtain⟨r,o,x,_,_,n⟩:=SlAt.M (xs:=l.map V.h) h (i:=i) (by grind);rw[Zv]at n;rw[Xc z,Xw]at a
 cases y:l[i]with
 | false=>
   rw[y]at n a;have a:false∈l:=a.2 (.inl rfl);simp only[XZ,simprocAttr,s,t,q,w,c,x,n]
   grind
 | true=>
   rw[y]at n a;simp[XZ,s,t,q,w,c,x,n,g];exact⟨l.length-(i+1),by omega,hL _ _ _ ⟨i+1,by omega,s,t,q,rfl,rfl,by grind⟩⟩
theorem Jk3 {l:List Bool}(h:SlAt v k b 1 (jr l))(a:l.length<100000):Dz 140 [b, .h false] k fun u c=>u= .h (decide (false∈l))/\k=c:=by
 refine Jl (aT Tryz.func140 rfl) rfl ?_;simp only[CT,Tryz.f140,XZ,simprocAttr];refine Jc (Jrd h a) ?_;rintro _ _ ⟨⟨i,rfl,d⟩,rfl⟩;simp[XZ,d]
theorem Js5 {names:List Str}(H:RowH r names z p t)(F:RowF r (fitP z) p t)(hq:∀o E K aw,fitP z o->Qf E o=some (K,aw)->aw.length<100000){rt:Pt}{E:EnvS}{n:Nod}{id:Nat}(hW:WkU k v l rt h b names u (-1))(hO:OfF r h)(hid:id<h.a.length)
  (hE:EnvC (fun O=>¬v O) k d E) (hK:EnvR h E (sizN (p+1) n)) (hn:NodC (fun O=>¬v O) k z (p+1) g n) (hf:fitN (fitP z) (p+1) n) (hc:u.length+sizN (p+1) n<100000) (hk:n.k=8):
  Dz 90 [.e l 0, .j d, .j g, .d .i64 (id:Nat)] k (AnsX v k l rt b names (-1) (oneS t names h u E id n)):=by
 have hw:=hW.D;refine Jl (aT Tryz.func90 rfl) rfl ?_;obtain⟨Q,at_,sx,nm,pp,ax,aj,he,cases⟩:=n;have hk:Q=8:=hk;subst hk;have bg:=hE;obtain⟨x0,x1,x2,rfl,a0,a1,a2⟩:=Kq hE;obtain⟨pv,bv,ev,xv,rfl,y1,y2,y3,y4⟩:=hn;have c4:=LstAt.G y1;have c5:=y2.G;have c6:=y3.G;have c7:=y4.G;obtain⟨n0,bh⟩:=nxE k;simp only[CT,Tryz.f90,XY,simprocAttr];rw[Ja];simp[XY,bh,a0.1,a1.1,a2.1,c4.1,c5.1,c6.1,c7.1];generalize ce:up 0 n0=p5;generalize cf:up 1 n0=p6;refine nm2 hw bh ce cf ?_;intro S1 G1 cg cj dl ⟨t5,r5⟩ ⟨t6,r6⟩;rw[Ja];simp[XY];refine Jc (nodW (hW.B G1) hO hid) ?_;rintro _ S2 ⟨G2,kx,ky,rfl,az,a3⟩;obtain⟨_,_,_,_,o5,o6⟩:=hO.B hid;have b1:=az.A;have b2:=az.B;have b3:=a3.A;have b4:=a3.B;obtain⟨n2,bi⟩:=nxE S2;simp[XY,bi,b2,b4];generalize ck:up 0 n2=p9;refine nmA G2.D bi ck ?_;intro S3 G3 cl ⟨t9,r9⟩;have r53:=G3.A (G2.A r5);have r63:=G3.A (G2.A r6);have aq:=G1.B (G2.B G3);have cm:sizN (p+1) (.mk 8 at_ sx nm pp ax aj he cases)=1+sizL p ax+sizL p aj+(cases.map fun c=>sizL p c.2).sum:=rfl;rw[cm]at hK hc;obtain⟨f1,_,f3,f4,f5⟩:=hf;have f4:fitL (fitP z) p aj:=f4;have z2:¬(8:Int)=2:=by decide
 have z4:¬(8:Int)=4:=by decide
 have z5:¬(8:Int)=5:=by decide
 have z6:¬(8:Int)=6:=by decide
 have z7:¬(8:Int)=7:=by decide
 unfold oneS;simp only[Xa z2,Xa z4,Xa z5,Xa z6,Xa z7,ZT];generalize Jg h id=N at*;by_cases h8:N.a=8;rotate_left
 ·rw[Xa h8];rw[Je];simp[XZ,r9,h8];exact⟨v,RunW.D aq,hW.B aq,rfl⟩
 rw[Xd h8];have bj:=az.H G3;have bk:=a3.H G3;have bl:=bj.G;rw[Jw]at bl;have dm:=o5.b;have kl:N.c.length=N.b.length:=by rw[o5.a,h8];rfl
 obtain⟨n3,bm⟩:=nxE S3;have cn:=JkP (st:=S3) (d:=[.h false]) (z:=1) (n:=N.b.length) (by omega) rfl;rw[Je];simp[XY];rw[Ja];simp[XY,r9,h8];rw[Ja];simp[XY,r9,bl,cn,bm];generalize co:up 0 n3=pA;refine nm1 G3.D bm co ?_;intro S4 G4 cp ⟨tA,rA⟩;have bn:=aq.B G4;have r54:=G4.A r53;have r64:=G4.A r63;have r94:=G4.A r9;have cq:k.A pA= .none:=aq.I cp;refine Jz (fun fr S'=>fr 0= .e l 0/\fr 5= .e p5 0/\fr 6= .e p6 0/\fr 10= .m pA 0 N.b.length 1 N.b.length/\∃(U':Pt->Prop) (ad:Tb) (ae:Cls) (ab:List Nat) (T:Nat),RunW v k S' U'/\WkU S' U' l rt ad b names ae (-1)/\OfF r ad/\h.a.length<=ad.a.length/\ae.length<=u.length+(cases.map fun c=>sizL p c.2).sum/\S'.A p5= .a t5 [x0,x1,x2]/\S'.A p6= .a t6 [.d .i64 8, .d .i64 at_,ofL sx,ofL nm,pv,bv,ev, .h he,xv]/\S'.A pA= .a T (jr (wasB N.b.length ab)).flatten/\ab.Nodup/\(∀i∈ab,i<N.b.length)/\Q7 t E N h u [] cases=((ad,ae,0,-1),ab)) (fun J hJ=> ?_) ?_;rotate_left
 ·rintro fr S5 ⟨g0,g5,g6,ag,U',ad,ae,ab,T,R5,W5,ak,al,ah,s5,s6,sA,ar,a4,bo⟩;rw[bo];have slB:SlAt (fun _=>True) S5 (.m pA 0 N.b.length 1 N.b.length) 1 (jr (wasB N.b.length ab)):=by
   have hl:(jr (wasB N.b.length ab)).length=N.b.length:=by rw[JaZ,ql]
   have:=SlAt.J (P:=fun _=>True) (z:=1) sA trivial fun d he=>by
    obtain⟨x,_,rfl⟩:=XA.1 he;rfl
   grind
  rw[Je,Ja];simp[XY,ag];refine Jc (Jk3 slB (by rw[ql];omega)) ?_;rintro _ _ ⟨rfl,rfl⟩;rw[JkQ ar a4];have K5:=R5.B;have ay:∀S6,(S6=S5)->Dz 20 [.e l 0, .j [x0,x1,x2],ev] S5 (AnsX U' S5 l rt b names (-1) (t ad ae E aj)):=fun _ _=>H S5 U' l rt ad b ae (-1) _ E ev aj W5 ak (bg.B K5) (hK.A al (by omega)) (NodsC.B K5 y3) f4 (by omega);by_cases c1:ab.length<N.b.length
  ·cases he with
   | false=>
     simp[XZ,g6,s6,Xo c1];simp[c1];exact⟨U',R5,W5,rfl⟩
   | true=>
     simp[XY,g6,s6,Xo c1];rw[Ja];simp[XY,g0,g5,g6,s5,s6];refine Jc (ay _ rfl) ?_;rintro _ S6 ⟨U6,R6,W6,rfl⟩;simp[XZ];exact⟨U6,R5.A R6,by omega,by rfl⟩
  ·simp[XY,Xq c1];rw[Ja];simp[XY,g0,g5,g6,s5,s6];refine Jc (ay _ rfl) ?_;rintro _ S6 ⟨U6,R6,W6,rfl⟩;simp[XZ];exact⟨U6,R5.A R6,by grind,by simp[c1]⟩
 have lc:=y4.H;have u6:=c7;have cr:LstAt (CasC (NodC (fun O=>¬v O) k z p) (fun O=>¬v O) k) (fun O=>¬v O) k xv 2 cases:=y4;rw[Ja];simp[XY,r64,lc];have ct:S4.A pA= .a tA (jr (wasB N.b.length [])).flatten:=by
  rw[rA,Jpm];simp[jr]
 obtain⟨dn,cu⟩:=f5;refine Jy (fun q fr S'=>fr 0= .e l 0/\fr 5= .e p5 0/\fr 6= .e p6 0/\fr 9= .e p9 0/\fr 10= .m pA 0 N.b.length 1 N.b.length/\fr 26=xv/\fr 27= .d .i64 (cases.length:Nat)/\∃(i:Nat) (U':Pt->Prop) (ad:Tb) (ae:Cls) (ab:List Nat) (T:Nat),q+i=cases.length/\fr 28= .d .i64 (i:Nat)/\RunW v k S' U'/\WkU S' U' l rt ad b names ae (-1)/\OfF r ad/\h.a.length<=ad.a.length/\ae.length+((cases.drop i).map fun c=>sizL p c.2).sum<=u.length+(cases.map fun c=>sizL p c.2).sum/\(∀O,S4.A O≠ .none->¬v O->O≠pA->S'.A O=S4.A O/\¬U' O)/\¬U' pA/\S'.A pA= .a T (jr (wasB N.b.length ab)).flatten/\ab.Nodup/\(∀i∈ab,i<N.b.length)/\Q7 t E N h u [] cases=Q7 t E N ad ae ab (cases.drop i)) cases.length (by omega) ⟨rfl,rfl,rfl,rfl,rfl,rfl,rfl,0,v,h,u,[],tA,by omega,by rfl,RunW.D bn,hW.B bn,hO,Xb _,by simp,fun O a X c=>⟨rfl,X⟩,hW.A cq,ct,Gh,fun i a=>by(cases a),by rfl⟩ ?_;rintro L hL q fr S5 ⟨g0,g5,g6,g9,ag,bp,a5,i,U',ad,ae,ab,T,dp,au,R5,W5,ak,al,ah,K5,bq,sA,ar,a4,aa⟩;have br:p5≠pA:=fun d=>Jb r53 (by grind);have cw:p6≠pA:=fun d=>Jb r63 (by grind);have bt:p9≠pA:=fun d=>Jb r9 (by grind);have u5:¬v p5:=hW.A cg;have u6:¬v p6:=hW.A cj;have u9:¬v p9:=hW.A ((G1.B G2).I cl);have s5:=(K5 p5 (Jb r54) u5 br).1.trans r54;have s6:=(K5 p6 (Jb r64) u6 cw).1.trans r64;have s9:=(K5 p9 (Jb r94) u9 bt).1.trans r94;by_cases hi:i<cases.length;rotate_left
 ·rw[Xs (by omega)]at aa ah;simp[XZ,a5,au,hi];exact hJ _ _ ⟨g0,g5,g6,ag,U',ad,ae,ab,T,R5,W5,ak,al,by omega,s5,s6,sA,ar,a4,aa⟩
 have cx:(i:Int)<cases.length:=by omega
 have a6:=wiN (i:=i) (by omega);have Kp:=R5.B;have a7:∀O,¬v O->k.A O≠ .none->(¬U' O/\O≠pA)/\S5.A O=k.A O:=fun O a X=>⟨⟨(Kp O X a).2,fun d=>X (by grind)⟩,(Kp O X a).1⟩
 have cy:LstAt (CasC (NodC (fun O=>¬U' O/\O≠pA) S5 z p) (fun O=>¬U' O/\O≠pA) S5) (fun O=>¬U' O/\O≠pA) S5 xv 2 cases:=LstAt.B cr (fun _ _ Y=>CasC.A Y (fun _ _ Y=>NodC.A a7 Y) a7) a7;obtain⟨r1,q1,e1,c0,dq,dr,c2,⟨cv,rfl,bu⟩,ds,dt⟩:=cy.A hi;have cc:=LstAt.G bu;have am:∀O,S1.A O= .none->S3.A O≠ .none->S5.A O=S3.A O:=fun O a X=>by
  rw[(K5 O (by rw[G4.d O X];exact X) (hW.A (G1.I a)) fun d=>X (by grind)).1,G4.d O X]
 have c3:SlAt (fun O=>S1.A O= .none) S5 kx 1 (strs N.b):=bj.D fun O a X=>⟨a,am O a X⟩
 have c8:SlAt (fun O=>S1.A O= .none) S5 ky 1 (ints N.c):=bk.D fun O a X=>⟨a,am O a X⟩
 obtain⟨n5,bw⟩:=nxE S5;rw[Ja];simp only[XY,simprocAttr,a5,au];rw[Je];simp only[XY,simprocAttr,cx];rw[Je];simp only[XY,simprocAttr];rw[Ja];simp[XY,bp,au,c0,c2,bw,cc.1];generalize da:up 0 n5=pC;refine nmA W5.D bw da ?_;intro S6 G6 du ⟨tC,rC⟩;rw[Ja];simp[XY,g9,G6.A s9,rC];refine Jc (Jk1 (c3.H G6) (by omega)) ?_;rintro _ _ ⟨rfl,rfl⟩;simp[XY];have bx:=G6.A s9;have a8:=(c8.H G6).G;rw[JS,kl]at a8;have db:cases.drop i=cases[i]::cases.drop (i+1):=Xc hi;rw[db]at aa ah;have bz:=cu cases[i] (Xh hi);have dv:sizL p cases[i].2<=(cases.map fun c=>sizL p c.2).sum:=JkR (fun c:Str×List Nod=>sizL p c.2) (Xh hi);generalize cases[i]=cz at*;obtain⟨ba,bd⟩:=cz;rw[Q7]at aa;have R6:=R5.G G6;have W6:=W5.B G6
 cases ao:fstN ba N.b with
 | none=>
   rw[ao]at aa;rw[aa];have ai:idxV ba N.b= -1:=by unfold idxV;rw[ao]
   have dw:(-1:Int)<0:=by omega
   rw[Je];simp[XZ,ai];exact⟨U',R6,W6,rfl⟩
 |some i'=>
 have ai:idxV ba N.b=(i':Int):=by unfold idxV;rw[ao]
 have b0:=Jd1 ao;have slB:SlAt (fun _=>True) S6 (.m pA 0 N.b.length 1 N.b.length) 1 (jr (wasB N.b.length ab)):=by
  have hl:(jr (wasB N.b.length ab)).length=N.b.length:=by rw[JaZ,ql]
  have:=SlAt.J (P:=fun _=>True) (z:=1) (G6.A sA) trivial fun d he=>by
   obtain⟨x,_,rfl⟩:=XA.1 he;rfl
  grind
 obtain⟨rb,ob,w1,_,_,w4⟩:=SlAt.M (xs:=(wasB N.b.length ab).map V.h) slB (i:=i') (by simpa[ql]using b0);rw[Zv,JhM]at w4;have h0:¬(i':Int)<0:=by omega
 have b5:¬(i':Int)≥(N.b.length:Int):=by omega
 rw[ao]at aa;simp only at aa;by_cases ap:i'∈ab
 ·rw[Xd ap]at aa;rw[aa];rw[Xo ap]at w4;rw[Je];simp[XZ,ai,h0,g9,bx,a8,b5,ag,w1,w4];exact⟨U',R6,W6,rfl⟩
 rw[Xa ap]at aa;rw[Xq ap]at w4;rw[Je,Ja];simp[XY,ai,h0,g9,bx,a8,b5,ag,w1,w4];have b6:=G6.A sA;have b7:(i':Int)<(N.b.length:Int):=by omega
 have b8:i'+1<=(jr (wasB N.b.length ab)).flatten.length:=by
  have:(jr (wasB N.b.length ab)).flatten.length=N.b.length:=by
   rw[Jt (z:=1) fun d he=>by
    obtain⟨x,_,rfl⟩:=XA.1 he;rfl,JaZ,ql,Gf]
  omega
 rw[Ja];simp only[XY,simprocAttr,ag,b7,b6];refine⟨by omega,b8, ?_⟩;have b9:=JhN (was:=ab) b0;rw[JL]at b9;refine nmW G6.D b6 ?_;intro S7 C7 ⟨tB,rB⟩;have rB:S7.A pA= .a tB (jr (wasB N.b.length (i'::ab))).flatten:=rB.trans (congrArg _ b9);have dc:pC≠pA:=fun d=>Jb sA (by grind);have bb:Ch (fun O=>O=pA) S5 S7:=(Ch.H (fun O=>O=pA) G6).A C7 fun O d=> .inl d;have av:∀O,k.A O≠ .none->¬v O->S7.A O=k.A O/\¬U' O:=fun O a X=>by
  have Q:=Kp O a X;refine⟨?_,Q.2⟩;rw[bb.d O (by grind) fun d=>a (by grind),Q.1]
 have af:∀O,S4.A O≠ .none->¬v O->O≠pA->S7.A O=S4.A O:=fun O a X c=>by
  rw[bb.d O (by grind) c,(K5 O a X c).1]
 have dd:=(af p5 (Jb r54) u5 br).trans r54;have de:=(af p9 (Jb r94) u9 bt).trans r94;have df:=(C7.d pC (Jb rC) dc).trans rC;have dg:SlAt (fun O=>S1.A O= .none) S7 ky 1 (ints N.c):=bk.D fun O a X=>⟨a,by
  rw[af O (by rw[G4.d O X];exact X) (hW.A (G1.I a)) fun d=>X (by grind),G4.d O X]⟩
 have W7:WkU S7 U' l rt ad b names ae (-1):=W6.I C7 bq (hW.j.D fun O a X=>⟨(av O X a).2,(av O X a).1⟩);have dh:EnvC (fun O=>¬U' O) S7 [x0,x1,x2] E:=bg.A fun O a X=>⟨(av O X a).2,(av O X a).1⟩
 obtain⟨qk,ok,m1,_,_,m4⟩:=SlAt.M (xs:=N.c.map fun n:Nat=>V.d .i64 (n:Int)) (i:=i') dg (by grind);have m4:ld1 (S7.A qk) ok=some (.d .i64 (N.c.getD i' 0:Nat), .a):=by grind
 rw[Ja];simp[XY,g0,g5,g9,dd,de,m1,m4];have ca:EnvC (fun O=>¬U' O) {S7 with a:=S7.t} [x0,x1,x2] E:=dh.A kR;refine Jj (P:=fun K S'=>∃e',K= .j e'/\EnvC (fun O=>¬U' O\/S7.A O= .none) S' e' (KJ E (N.c.getD i' 0))) (Jsb (Js C7.D _) ca (by have:=hK.n;omega)) ?_;rintro _ S8 G8 ⟨e',rfl,bc⟩;have bc:EnvC (fun O=>¬U' O) S8 e' (KJ E (N.c.getD i' 0)):=bc.A fun O a X=>⟨by
  rcases a with a|a
  ·exact a
  ·exact W7.A a,rfl⟩
 have di:=G8.A df;have W8:=W7.B G8;simp[XY,di];have dj:NodsC (fun O=>¬U' O) S8 z p cv bd:=NodsC.A (show NodsC (fun O=>¬U' O/\O≠pA) S5 z p cv bd from bu) fun O a X=>⟨a.1,by
  have h1:=bb.d O X a.2;rw[G8.d O (by grind),h1]⟩
 have dk:N.c.getD i' 0<h.a.length:=o6 _ (by grind);simp only[XV,Gu]at ah;have wl:=Js G8.D S8.t;refine JW (W:=U') G8.D ((H {S8 with a:=S8.t} U' l rt ad b ae (-1) e' (KJ E (N.c.getD i' 0)) cv bd (W8.G wl) ak (bc.A kR) ((hK.A al (b':=sizL p bd) (by grind)).B (by omega)) (NodsC.A dj kR) bz (by omega)).A fun K S' Y=>⟨by obtain⟨U9,R9,_,_⟩:=Y;exact R9.ch,Y⟩) ?_;rintro _ S9 lo C9 ⟨U9,R9,W9,rfl⟩;have W9:=W9.G (lo:=lo) C9.D;have R9:RunW U' S8 {S9 with a:=lo} U9:=⟨C9,fun O a=>R9.b O a⟩
 have R7:RunW v k S7 U':=⟨R6.ch.A C7 fun O d=> .inr (by grind),R6.b⟩
 have cb:RunW v k {S9 with a:=lo} U9:=(R7.G G8).A R9;have ff:=F ad ae (KJ E (N.c.getD i' 0)) bd ak ((hK.A al (b':=sizL p bd) (by grind)).B (by omega)) bz;generalize t ad ae (KJ E (N.c.getD i' 0)) bd=Z at*;obtain⟨be,bf,e9,a9⟩:=Z;simp only at aa W9;by_cases c9:e9=0;rotate_left
 ·rw[Xd c9]at aa;rw[aa];rw[Xa c9]at W9;simp[XY];rw[Ja];simp[XZ,c9];exact⟨U9,cb,by grind,by rfl⟩
 subst c9;rw[Xa (fun Q=>Q rfl)]at aa;have W9:WkU {S9 with a:=lo} U9 l rt be b names bf (-1):=by grind
 have K9:=R9.B;have cd:=G8.A rB;have kA:=K9 pA (Jb cd) bq;have f9:bf.length<=ae.length+sizL p bd:=ff.d;have l9:ad.a.length<=be.a.length:=ff.f;simp[XY];rw[Ja];simp[XZ,au,a6];refine⟨cases.length-(i+1),by omega,hL _ _ _ ⟨g0,g5,g6,g9,ag,bp,a5,i+1,U9,be,bf,i'::ab,tB,by omega,rfl,cb,W9,ff.c,by omega,by omega,fun O a X c=> ?_,kA.2,kA.1.trans cd,ZJ.2 ⟨ap,ar⟩,fun y hy=> ?_,aa⟩⟩
 ·have h7:=af O a X c;have h8:=G8.d O (by grind);have:=K9 O (by grind) (K5 O a X c).2
  grind
 grind
theorem AnsX.A {U:Pt->Prop}{S b c:St}{w d:Pt}{f:V}{names:List Str}{a:Int}{x:AnsR}{v:V}(g:Gr S b)(h:AnsX U b w d f names a x v c):AnsX U S w d f names a x v c:=by
 obtain⟨i,R,W,e⟩:=h;exact⟨i,(RunW.D g).A R,W,e⟩
theorem oneC {names:List Str}(H:RowH r names z p t)(F:RowF r (fitP z) p t)(hq:∀f E x ah,fitP z f->Qf E f=some (x,ah)->ah.length<100000){S:St}{E:EnvS}{n:Nod}{id:Nat}(hW:WkU S v l a h b names u (-1))(hO:OfF r h)(hid:id<h.a.length)
  (hE:EnvC (fun y=>¬v y) S d E) (hK:EnvR h E (sizN (p+1) n)) (hn:NodC (fun y=>¬v y) S z (p+1) g n) (hf:fitN (fitP z) (p+1) n) (hc:u.length+sizN (p+1) n<100000) (ax:names.length<100000):
  Dz 40 [.e l 0, .j d, .j g, .d .i64 (id:Nat)] S (AnsX v S l a b names (-1) (oneS t names h u E id n)):=by
 have hw:=hW.D;refine Jl (aT Tryz.func40 rfl) rfl ?_;obtain⟨k,at_,sx,nm,pp,Z,ad,he,cases⟩:=n;have ai:=hE;have al:=hn;obtain⟨x0,x1,x2,rfl,a0,a1,a2⟩:=Kq hE;obtain⟨pv,bv,ev,xv,rfl,y1,y2,y3,y4⟩:=hn;have c4:=LstAt.G y1;have c5:=y2.G;have c6:=y3.G;have c7:=y4.G;obtain⟨n0,am⟩:=nxE S;simp only[CT,Tryz.f40,XY,simprocAttr];rw[Ja];simp[XY,am,a0.1,a1.1,a2.1,c4.1,c5.1,c6.1,c7.1];generalize ay:up 0 n0=p5;generalize az:up 1 n0=p6;refine nm2 hw am ay az ?_;intro S1 G1 a6 a7 a8 ⟨t5,r5⟩ ⟨t6,r6⟩;rw[Ja];simp[XY];refine Jc (nodW (hW.B G1) hO hid) ?_;rintro _ S2 ⟨G2,kx,ky,rfl,ao,aj⟩;obtain⟨_,_,_,_,o5,o6⟩:=hO.B hid;have b1:=ao.A;have b2:=ao.B;have b3:=aj.A;have b4:=aj.B;obtain⟨n2,ap⟩:=nxE S2;simp[XY,ap,b2,b4];generalize a3:up 0 n2=p9;refine nmA G2.D ap a3 ?_;intro S3 G3 a9 ⟨t9,r9⟩;have r53:=G3.A (G2.A r5);have r63:=G3.A (G2.A r6);have X:=G1.B (G2.B G3);have aq:=aj.H G3;have a4:sizN (p+1) (.mk k at_ sx nm pp Z ad he cases)=1+sizL p Z+sizL p ad+(cases.map fun c=>sizL p c.2).sum:=rfl;have ar:=hK;have au:=hc;rw[a4]at hK hc;have av:=hf;obtain⟨f1,_,f3,f4,f5⟩:=hf;have f3:fitL (fitP z) p Z:=f3;have f4:fitL (fitP z) p ad:=f4;have W3:=hW.B X;have K3:Kept S v S3 v:=(RunW.D X).B;have ae:=ai.B K3;have ak:NodC (fun y=>¬v y) S3 z (p+1) [.d .i64 k, .d .i64 at_,ofL sx,ofL nm,pv,bv,ev, .h he,xv] (.mk k at_ sx nm pp Z ad he cases):=NodC.A X.H al;have two:∀{S8:St} {e1:List V} {E1:EnvS} {fr:Fr} {Q:V->St->Prop},Gr S S8->EnvC (fun y=>¬v y) S8 e1 E1->EnvR h E1 (sizL p Z)->(∀x S9,AnsX v S l a b names (-1) (Qi t h u E1 Z E ad) x S9->Q x S9)->J8 (tabT tabD) true (some []) 88 [.e l 0, .j e1,bv, .j [x0,x1,x2],ev] fr S8 Q:=by
  intro S8 e1 E1 fr Q G8 a5 k1 hQ;have wl:=Js G8.D S8.t;have kk:Kept S v S8 v:=(RunW.D G8).B;refine JW (W:=v) G8.D ((Jsc H F ((hW.B G8).G wl) hO (a5.A kR) ((ai.B kk).A kR) k1 (hK.A (Xb _) (by omega)) (NodsC.A (NodsC.B kk y2) kR) (NodsC.A (NodsC.B kk y3) kR) f3 f4 (by omega)).A fun x S' K=>⟨by obtain⟨U9,R9,_,_⟩:=K;exact R9.ch,K⟩) ?_;rintro _ S9 lo C9 ⟨U9,R9,W9,rfl⟩;exact hQ _ _ ⟨U9,(RunW.D G8).A ⟨C9,fun y L=>R9.b y L⟩,W9.G (lo:=lo) C9.D,rfl⟩
 have ab:∀{af:Nat} {S8:St} {fr:Fr} {Q:V->St->Prop} {ow:Option (List Nat)},Gr S S8->(∀e' S9,Gr S8 S9->EnvC (fun y=>¬v y) S9 e' (KJ E af)->Q (.j e') S9)->J8 (tabT tabD) true ow 89 [.j [x0,x1,x2], .d .i64 (af:Nat)] fr S8 Q:=by
  intro af S8 fr Q ow G8 hQ;have kk:Kept S v S8 v:=(RunW.D G8).B;refine Jj (P:=fun x S'=>∃e',x= .j e'/\EnvC (fun y=>¬v y\/S8.A y= .none) S' e' (KJ E af)) (Jsb (Js G8.D _) ((ai.B kk).A kR) (by have:=hK.n;omega)) ?_;rintro _ S9 G9 ⟨e',rfl,Y⟩;exact hQ _ _ G9 (Y.A fun y L O=>⟨by
   rcases L with L|L
   ·exact L
   ·exact hW.A (G8.I L),rfl⟩)
 have k0:(Jg h id).c≠[]->(Jg h id).c.getD 0 0<h.a.length:=fun hk=>by
  cases hx:(Jg h id).c with
  |nil=>grind
  |cons c y=>exact o6 c (by grind)
 have kl:=o5.a;have lk:=aq.G;rw[JS]at lk;have kid0:∀{S':St},Gr S3 S'->(Jg h id).c.length=1->∃q o,Jo 1 ky (.d .i64 0)=some (.e q o, .a)/\ld1 (S'.A q) o=some (.d .i64 ((Jg h id).c.getD 0 0:Nat), .a):=fun{S'} T K=>by
  obtain⟨q,oo,e1,e2,e3,e4⟩:=SlAt.M (xs:=(Jg h id).c.map fun n:Nat=>V.d .i64 (n:Int)) (i:=0) (aq.H T) (by simp[K])
  grind
 by_cases k2:k=2
 ·subst k2;unfold oneS;simp;generalize Jg h id=N at*;have e1:(1<=N.a/\N.a<=3)\/N.a<1\/(¬N.a<1/\N.a>3):=by omega
  rcases e1 with e1|e1|⟨e1,e2⟩
  ·have n1:¬N.a<1:=by omega
   have n2:¬N.a>3:=by omega
   rw[Xd e1];simp[XZ,r63,r9,n1,n2];exact⟨v,RunW.D X,W3,rfl⟩
  ·rw[Xa (by omega)];simp[XZ,r63,r9,e1];exact⟨v,RunW.D X,W3,rfl⟩
  ·rw[Xa (by omega)];simp[XZ,r63,r9,e1,e2];exact⟨v,RunW.D X,W3,rfl⟩
 by_cases k4:k=4
 ·subst k4;unfold oneS;simp[Xa k2];simp[XZ,r53,r63];refine Jc (JbB (Q:=fun x S'=>x= .d .i64 (setS E nm id)/\S3=S') (aH (k:=86) rfl) (Jpe ae (by have:=hK.v;omega) (by have:=hK.n;omega) (.e l 0) nm id) ⟨rfl,rfl⟩) ?_;rintro _ _ ⟨rfl,rfl⟩;simp[XZ];exact⟨v,RunW.D X,by grind,rfl⟩
 by_cases k5:k=5
 ·subst k5;simp[XZ,r53,r63];refine Jc (Jt0 H F hq W3 hO hid ae ar ak av au rfl) ?_;intro x S4 hA;have hA:=AnsX.A X hA;have hB:=hA;obtain⟨_,_,_,rfl⟩:=hB;simp[XZ];exact hA
 by_cases k6:k=6
 ·subst k6;unfold oneS;simp[Xa k4];by_cases h6:(Jg h id).a=6
  ·have l1:(Jg h id).c.length=1:=by rw[kl,h6];rfl
   rw[l1]at lk;have lk:JU ky=some (.d .i64 1, .a):=lk;obtain⟨q,oo,e1,e4⟩:=kid0 (Gr.F X.D) l1;have ag:=k0 (by grind);rw[Xd h6];generalize Jg h id=N at*;rw[Je,Ja];simp[XY,r63];rw[Ja];simp[XY];rw[Ja];simp[XY];rw[Ja];simp[XY];rw[Ja];simp[XY];rw[Je,Ja];simp[XY,r9,h6,lk,e1,e4];rw[Ja];simp[XY,r53];refine ab X ?_;intro e' S4 G4 Y;have aa:=Y;obtain⟨u0,u1,u2,rfl,v0,v1,v2⟩:=Kq aa;have r54:=G4.A r53;have r64:=G4.A r63;simp[XY,r54,r64];refine two (X.B G4) Y ((hK.A (Xb _) (by omega)).B ag) ?_;intro x S5 hA;have hB:=hA;obtain⟨_,_,_,rfl⟩:=hB;simp[XZ];exact hA
  ·rw[Xa h6];generalize Jg h id=N at*;rw[Je,Ja];simp[XY,r63];rw[Ja];simp[XY];rw[Ja];simp[XY];rw[Ja];simp[XY];rw[Ja];simp[XY];rw[Je,Ja];simp[XY,r9,h6];rw[Ja];simp[XY,r53];refine ab X ?_;intro e' S4 G4 Y;have aa:=Y;obtain⟨u0,u1,u2,rfl,v0,v1,v2⟩:=Kq aa;have r54:=G4.A r53;have r64:=G4.A r63;simp[XY,r54,r64];refine two (X.B G4) Y ((hK.A (Xb _) (by omega)).B hid) ?_;intro x S5 hA;have hB:=hA;obtain⟨_,_,_,rfl⟩:=hB;simp[XZ];exact hA
 by_cases k7:k=7
 ·subst k7;unfold oneS;simp[Xa k4];by_cases h6:(Jg h id).a=4\/(Jg h id).a=5
  ·have l1:(Jg h id).c.length=1:=by rw[kl,jE,Xd (by omega)]
   rw[l1]at lk;have lk:JU ky=some (.d .i64 1, .a):=lk;obtain⟨q,oo,e1,e4⟩:=kid0 (Gr.F X.D) l1;have ag:=k0 (by grind);rw[Xd h6];generalize Jg h id=N at*;rw[Je,Ja];simp[XY,r63];rw[Ja];simp[XY];rw[Ja];simp[XY];rw[Ja];simp[XY];rw[Ja];simp[XY];rw[Ja];simp[XY];have aw:(N.a=4)=True\/((N.a=4)=False/\(N.a=5)=True):=by grind
   rcases aw with K|⟨K,h'⟩
   ·have h':=K;rw[Je,Ja];simp[XY,r9,lk,K];rw[Ja];simp[XY,r53,r9,e1,e4];refine ab X ?_;intro e' S4 G4 Y;have aa:=Y;obtain⟨u0,u1,u2,rfl,v0,v1,v2⟩:=Kq aa;have r54:=G4.A r53;have r64:=G4.A r63;simp[XY,r54,r64];refine two (X.B G4) Y ((hK.A (Xb _) (by omega)).B ag) ?_;intro x S5 hA;have hB:=hA;obtain⟨_,_,_,rfl⟩:=hB;simp[XZ];exact hA
   ·rw[Je,Ja];simp[XY,r9,lk,K,h'];rw[Ja];simp[XY,r53,r9,e1,e4];refine ab X ?_;intro e' S4 G4 Y;have aa:=Y;obtain⟨u0,u1,u2,rfl,v0,v1,v2⟩:=Kq aa;have r54:=G4.A r53;have r64:=G4.A r63;simp[XY,r54,r64];refine two (X.B G4) Y ((hK.A (Xb _) (by omega)).B ag) ?_;intro x S5 hA;have hB:=hA;obtain⟨_,_,_,rfl⟩:=hB;simp[XZ];exact hA
  ·rw[Xa h6];generalize Jg h id=N at*;have h4:¬N.a=4:=fun c=>h6 (.inl c);have h5:¬N.a=5:=fun c=>h6 (.inr c);rw[Je,Ja];simp[XY,r63];rw[Ja];simp[XY];rw[Ja];simp[XY];rw[Ja];simp[XY];rw[Ja];simp[XY];rw[Ja];simp[XY];rw[Je,Ja];simp[XZ,r9,h4,h5];exact⟨v,RunW.D X,W3,rfl⟩
 by_cases k8:k=8
 ·subst k8;simp[XZ,r53,r63];refine Jc (Js5 H F hq W3 hO hid ae ar ak av au rfl) ?_;intro x S4 hA;have hA:=AnsX.A X hA;have hB:=hA;obtain⟨_,_,_,rfl⟩:=hB;simp[XZ];exact hA
 by_cases k9:k=9
 ·subst k9;unfold oneS;simp[Xa k4];simp[XZ,r53,r63];refine Jc (JtY W3 ae ak ax (by omega)) ?_;rintro _ S4 ⟨U4,R4,W4,rfl⟩;simp[XZ];refine⟨U4,(RunW.D X).A R4, ?_⟩;have W4:WkU S4 U4 l a h b names (if nm∈names then u++[(nm,if pp=[]then E.c else id)]else u) (-1):=W4;have e1:(Nod.mk 9 at_ sx nm pp Z ad he cases).A=nm:=rfl
  grind
 unfold oneS;simp[Xa k2,Xa k4,Xa k5,Xa k6,Xa k7,Xa k8,Xa k9];simp[XZ,r63,k2,k4,k5,k6,k7,k8,k9];exact⟨v,RunW.D X,by grind,rfl⟩
theorem _root_.Eva.WkU.H {names:List Str}(f:WkU k v l a h y names u w):∃o t,k.A l= .a t [.e a 0,y,o, .d .i64 w]/\∀{S':St} {p:Int},Ch (fun r=>r=l) k S'->(∃t,S'.A l= .a t [.e a 0,y,o, .d .i64 p])->RunW v k S' v/\WkU S' v l a h y names u p:=by
 obtain⟨O,o,t,P,q,Q,z,L⟩:=f.i;refine⟨o,t,Q,fun{S' p} c ⟨T,e⟩=>⟨⟨c.F fun r x=>by rw[x];exact f.d,fun r g=> .inl g⟩,⟨⟨O,o,T, ?_,q,e,z.B fun r x=>c.d r (z.A x) (L r x).2,L⟩,f.d,fun r g x=>f.b r g (c.B x),f.j.D fun r n m=>⟨n,c.d r m fun x=>n (by rw[x];exact f.d)⟩⟩⟩⟩;obtain⟨_,⟨W,F,X,s⟩,N⟩:=P;exact⟨c.D,⟨W,F,X.A fun r g _=>c.d r (N r (s r g)) (q r (s r g)).2.1,s⟩,fun r g=>by rw[c.d r (N r g) (q r g).2.1];grind⟩
theorem js :∀(p:Pipe) (E:EnvS) (v:Int) (c:List Str),fitP (z+1) p->Qf E p=some (v,c)->c.length<100000:=fun p E v c g d=>by
 unfold Qf at d
 split at d
 ·rename_i k e f s n b q
  split at d
  ·cases h:KO E e with
   |none=>grind
   | some a=>
     rw[h]at d;injection d with d;injection d with _ d;subst d;exact((g.2 _ (Xn.2 rfl)).2 _ (Xn.2 rfl)).1
  grind
 grind
theorem Jre {names:List Str}(a8:r.c=[])(b2:names.length<100000)(H:RowH r names (z+1) p t)(F:RowF r (fitP (z+1)) p t):RowH r names (z+1) (p+1) (Q8 e (oneS t names) (z+1)):=by
 intro S U w rt tb nv cs a o E lv l hW hO hE hK hl hf hc;have hw:=hW.D;refine Jl (aT Tryz.func20 rfl) rfl ?_;have b3:=hE;obtain⟨x0,x1,x2,rfl,a0,a1,a2⟩:=Kq hE;have ll:=LstAt.H hl;have ly:LstAt (NodC (fun M=>¬U M) S (z+1) (p+1)) (fun M=>¬U M) S lv 9 l:=hl;obtain⟨cv,b4⟩:=hf;obtain⟨n0,ba⟩:=nxE S;simp only[CT,Tryz.f20,XY,simprocAttr];rw[Ja];simp[XY,ba,a0.1,a1.1,a2.1];generalize b5:up 0 n0=Y;refine nm1 hw ba b5 ?_;intro S1 G1 b6 ⟨t4,r4⟩;rw[Je,Ja];simp[XY,ll];refine Jy (fun j fr S'=>fr 0= .e w 0/\fr 4= .e Y 0/\fr 12=lv/\fr 13= .d .i64 (l.length:Nat)/\∃(i:Nat) (U':Pt->Prop) (Z:Tb) (ab:Cls) (E':EnvS) (e':List V) (N:Nat),j+i=l.length/\fr 14= .d .i64 (i:Nat)/\RunW U S S' U'/\WkU S' U' w rt Z nv names ab a/\OfF r Z/\S'.A Y= .a N e'/\¬U' Y/\EnvC (fun M=>¬U' M/\M≠Y) S' e' E'/\EnvR Z E' (sizL (p+1) (l.drop i))/\ab.length+sizL (p+1) (l.drop i)<100000/\Q8 e (oneS t names) (z+1) tb cs E l=Q8 e (oneS t names) (z+1) Z ab E' (l.drop i)) l.length (by omega) ⟨rfl,rfl,rfl,rfl,0,U,tb,cs,E,_,t4,by omega,by rfl,RunW.D G1,hW.B G1,hO,r4,hW.A b6,b3.A fun M a b=>⟨⟨a,fun x=>b (by grind)⟩,G1.d M b⟩,by grind,by grind,by rfl⟩ ?_;rintro L hL q fr S5 ⟨g0,g4,aj,ae,i,U',Z,ab,E',e',N,cw,ad,R5,W5,bb,sA,ax,b7,af,bc,O⟩;have Kp:=R5.B;by_cases hi:i<l.length;rotate_left
 ·rw[Xs (by omega),Q8]at O;simp[XZ,ae,ad,hi];rw[O];exact⟨U',R5,W5,rfl⟩
 have b8:(i:Int)<l.length:=by omega
 have ak:=wiN (i:=i) (by omega);have bd:∀M,¬U M->S.A M≠ .none->(¬U' M/\M≠Y)/\S5.A M=S.A M:=fun M a b=>⟨⟨(Kp M b a).2,fun o=>b (by grind)⟩,(Kp M b a).1⟩
 have b9:LstAt (NodC (fun M=>¬U' M/\M≠Y) S5 (z+1) (p+1)) (fun M=>¬U' M/\M≠Y) S5 lv 9 l:=LstAt.B ly (fun _ _ h=>NodC.A bd h) bd;obtain⟨r1,q1,en,cb,cx,cy,cc,hn,cz,c0⟩:=b9.A hi;have cd:l.drop i=l[i]::l.drop (i+1):=Xc hi;rw[cd]at O af bc;have fn:=b4 l[i] (Xh hi);generalize c2:l[i]=n at*;obtain⟨k,at_,sx,nm,pp,P,T,he,cases⟩:=n;have be:=hn;obtain⟨pv,bv,ev,xv,rfl,y1,y2,y3,y4⟩:=hn;have c4:=LstAt.G y1;have c5:=y2.G;have c6:=y3.G;have c7:=y4.G;have lp:=LstAt.H y1;have ce:sizL (p+1) (Nod.mk k at_ sx nm pp P T he cases::l.drop (i+1))=sizN (p+1) (.mk k at_ sx nm pp P T he cases)+sizL (p+1) (l.drop (i+1)):=rfl;rw[ce]at af bc;obtain⟨n5,bf⟩:=nxE S5;rw[Ja];simp only[XY,simprocAttr,ae,ad];rw[Je];simp only[XY,simprocAttr,b8];rw[Je];simp only[XY,simprocAttr];rw[Ja];simp[XY,aj,ad,cb,cc,bf,c4.1,c5.1,c6.1,c7.1];generalize cf:up 0 n5=p8;refine nmA W5.D bf cf ?_;intro S6 G6 cg ⟨t8,r8⟩;rw[Ja];simp[XY];have hT:=Jcr (SgOK.A (sg:=e) a8) (m:=z+1) bb af.k (.mk k at_ sx nm pp P T he cases);rw[Q8]at O;have X:typS e (z+1) E' Z (.mk k at_ sx nm pp P T he cases)=if k≠1/\(k≠9\/pp≠[])then ofS e (z+1) E' Z pp else(Z,0,0):=rfl;generalize hx:typS e (z+1) E' Z (.mk k at_ sx nm pp P T he cases)=x at*;have W6:=W5.B G6;have ay:EnvC (fun M=>¬U' M/\M≠Y) S6 e' E':=b7.A G6.H;have al:=G6.A sA;have cj:NodC (fun M=>¬U' M/\M≠Y) S6 (z+1) (p+1) [.d .i64 k, .d .i64 at_,ofL sx,ofL nm,pv,bv,ev, .h he,xv] (.mk k at_ sx nm pp P T he cases):=NodC.A G6.H be;have c3:p8≠Y:=fun o=>Jb sA (by grind);have u8:¬U' p8:=W5.A cg;obtain⟨z0,z1,z2,rfl,v0,v1,v2⟩:=Kq ay;refine Jz (fun fr S'=>fr 0= .e w 0/\fr 4= .e Y 0/\fr 8= .e p8 0/\fr 12=lv/\fr 13= .d .i64 (l.length:Nat)/\fr 14= .d .i64 (i:Nat)/\fr 9= .d .i64 (x.2.1:Nat)/\fr 10= .d .i64 x.2.2/\∃U1,RunW U' S6 S' U1/\WkU S' U1 w rt x.1 nv names ab a) (fun J hJ=> ?_) ?_
 ·obtain⟨c8,t6,w6,_⟩:=W6.H;have av:∀{fr:Fr} {Q:V->St->Prop},(∀S' U1,RunW U' S6 S' U1->WkU S' U1 w rt (ofS e (z+1) E' Z pp).1 nv names ab a->Q (.p [.d .i64 ((ofS e (z+1) E' Z pp).2.1:Nat), .d .i64 (ofS e (z+1) E' Z pp).2.2]) S')->J8 (tabT tabD) true (some []) 39 [.e rt 0, .j [z0,z1,z2],pv] fr S6 Q:=by
   intro fr Q hQ;obtain⟨U0,T6,u6,bg⟩:=W6.K;have wl:=Js G6.D S6.t;refine JW (W:=U0) G6.D ((JtX (sg:=e) (m:=z+1) a8 (Qj T6 wl) bb (ay.A fun M a b=>⟨u6 M a.1,rfl⟩) af.k (PipC.A y1 fun M a b=>⟨u6 M a.1,G6.d M b⟩) fn.1).A fun v S' h=>⟨h.1,h⟩) ?_;rintro v S' lo C hA;obtain⟨U2,RA,rfl⟩:=Ans.B hA;have T2:=Qj (lo:=lo) RA.tab ⟨C.D.a,C.D.t⟩;obtain⟨U1,R1,W1⟩:=bg ⟨C,T2,RA.a⟩
   grind
  by_cases k1:k=1
  ·rw[Xa (fun h=>h.1 k1)]at X;subst X;subst k1;simp[XZ,r8];exact hJ _ _ ⟨g0,g4,rfl,aj,ae,ad,by rfl,rfl,U',RunW.F W6,W6⟩
  by_cases k9:k=9
  ·cases pp with
   | nil=>
     have lp:JU pv=some (.d .i64 0, .a):=lp;rw[Xa (fun h=>h.2.elim (fun h=>h k9) fun h=>h rfl)]at X;subst X;subst k9;simp[XZ,r8,lp];exact hJ _ _ ⟨g0,g4,rfl,aj,ae,ad,by rfl,rfl,U',RunW.F W6,W6⟩
   | cons b M=>
     have hz:((M.length+1:Nat):Int)>0:=by omega
     have lp:JU pv=some (.d .i64 ((M.length+1:Nat):Int), .a):=lp;rw[Xd ⟨k1, .inr (by simp)⟩]at X;subst X;subst k9;simp[XZ,r8,lp,g0,g4,w6,al];refine av ?_;intro S7 U1 R7 W7;simp[XZ];exact hJ _ _ ⟨g0,g4,rfl,aj,ae,ad,by rfl,rfl,U1,R7,W7⟩
  ·rw[Xd ⟨k1, .inl k9⟩]at X;subst X;simp[XZ,r8,k1,k9,g0,g4,w6,al];refine av ?_;intro S7 U1 R7 W7;simp[XZ];exact hJ _ _ ⟨g0,g4,rfl,aj,ae,ad,by rfl,rfl,U1,R7,W7⟩
 clear X hx;rintro fr S7 ⟨f0,f4,f8,bh,bi,bj,f9,am,U1,R7,W7⟩;obtain⟨ag,id,er⟩:=x;have o1:OfF r ag:=hT.b;have ck:Z.a.length<=ag.a.length:=hT.f;simp only at f9 am W7 O;have K7:=R7.B;have r87:=(K7 p8 (Jb r8) u8).1.trans r8;have bk:=(K7 Y (Jb al) ax).1.trans al;have cl:=(K7 p8 (Jb r8) u8).2;have bl:=(K7 Y (Jb al) ax).2;have bm:∀M,(¬U' M/\M≠Y)->S6.A M≠ .none->(¬U1 M/\M≠Y)/\S7.A M=S6.A M:=fun M a b=>⟨⟨(K7 M b a.1).2,a.2⟩,(K7 M b a.1).1⟩
 have cm:=ay.A bm;have cn:=NodC.A bm cj;have az:p8≠w:=fun o=>u8 (by rw[o];exact W5.d);have bn:Y≠w:=fun o=>ax (by rw[o];exact W5.d);have co:RunW U S S7 U1:=(R5.G G6).A R7;obtain⟨da,t7,w7,bo⟩:=W7.H;rw[Ja];simp[XY,f0,w7];rw[Ja];simp[XY,f0,w7];refine nmW W7.D w7 ?_;intro S8 C8 w8;obtain⟨R8,W8⟩:=bo C8 w8;obtain⟨db,w8⟩:=w8;have bp:∀M,(¬U1 M/\M≠Y)->S7.A M≠ .none->(¬U1 M/\M≠Y)/\S8.A M=S7.A M:=fun M a b=>⟨a,C8.d M b fun o=>a.1 (by rw[o];exact W7.d)⟩
 have bq:=cm.A bp;have cp:=NodC.A bp cn;have r88:=(C8.d p8 (Jb r87) az).trans r87;have ao:=(C8.d Y (Jb bk) bn).trans bk;have br:=co.A R8;by_cases c1:er=0;rotate_left
 ·rw[Xd c1]at O;have dc:(-1:Int)<0:=by omega
  rw[Je,Ja];simp[XY,am,c1];rw[Je,Ja];simp[XY,am,c1];rw[Je,Ja];simp[XY,f0,w8,f8,r88];refine nmW W8.D w8 ?_;intro S9 C9 w9;obtain⟨dd,ct,aa,bt⟩:=W8.H;rw[w8]at aa;injection aa with _ aa;injection aa with _ aa;injection aa with _ aa;injection aa with aa _;subst aa;obtain⟨R9,W9⟩:=bt C9 w9;simp[XZ,am];rw[O];exact⟨U1,br.A R9,by rw[Xa c1];exact W9,rfl⟩
 subst c1;have hid:id<ag.a.length:=hT.g rfl;rw[Xa (fun k=>k rfl)]at O;have a3:EnvR ag E' (sizN (p+1) (.mk k at_ sx nm pp P T he cases)+sizL (p+1) (l.drop (i+1))):=af.A ck (Xb _);have ff:=Jfv F (names:=names) (cs:=ab) js o1 hid (a3.A (Xb _) (Gs _ _)) fn;rw[Je,Ja];simp[XY,am];simp[XY,f0,f4,f8,f9,r88,ao];refine Jc (oneC H F js W8 o1 hid (bq.A fun M a b=>⟨a.1,rfl⟩) (a3.A (Xb _) (Gs _ _)) (NodC.A (fun M a b=>⟨a.1,rfl⟩) cp) fn (by omega) b2) ?_;rintro _ S9 ⟨U9,R9,W9,rfl⟩;generalize oneS t names ag ab E' id (.mk k at_ sx nm pp P T he cases)=y at*;obtain⟨ah,ap,e9,a9⟩:=y;have o9:OfF r ah:=ff.c;have bu:ag.a.length<=ah.a.length:=ff.f;have de:ap.length<=ab.length+sizN (p+1) (.mk k at_ sx nm pp P T he cases):=ff.d;simp only at W9 O;have K9:=R9.B;have r89:=(K9 p8 (Jb r88) cl).1.trans r88;have bw:=(K9 Y (Jb ao) bl).1.trans ao;have a4:=(K9 Y (Jb ao) bl).2;have a5:=br.A R9;obtain⟨df,t9,w9,aw⟩:=W9.H;by_cases c9:e9=0;rotate_left
 ·rw[Xa c9]at W9 w9;rw[Xd c9]at O;by_cases ca:a9<0
  ·rw[Xd ca]at O;simp[XY];rw[Je,Ja];simp[XY,c9];rw[Je,Ja];simp[XY,f0,f8,w9,ca,r89];refine nmW W9.D w9 ?_;intro SA CA wA;obtain⟨RA,WA⟩:=aw CA wA;simp[XZ];rw[O];exact⟨U9,a5.A RA,by rw[Xa c9];exact WA,rfl⟩
  ·rw[Xa ca]at O;simp[XY];rw[Je,Ja];simp[XY,c9];rw[Je,Ja];simp[XZ,f0,w9,ca];rw[O];exact⟨U9,a5,by grind,rfl⟩
 subst c9;rw[Xd rfl]at W9 w9;rw[Xa (fun k=>k rfl)]at O;simp[XY];rw[Je,Ja];simp[XY];rw[Ja];simp[XY,f0,w9];refine nmW W9.D w9 ?_;intro SA CA wA;obtain⟨RA,WA⟩:=aw CA wA;have cu:p8≠w:=az;have bx:=(CA.d p8 (Jb r89) az).trans r89;have aq:=(CA.d Y (Jb bw) bn).trans bw;have a6:=a5.A RA;have cq:∀M,(¬U1 M/\M≠Y)->S8.A M≠ .none->(¬U9 M/\M≠Y)/\SA.A M=S8.A M:=fun M a b=>by
  have h:=K9 M b a.1;exact⟨⟨h.2,a.2⟩,by rw[CA.d M (by grind) fun o=>h.2 (by rw[o];exact W9.d),h.1]⟩
 have bz:=bq.A cq;have cr:EnvR ah E' (sizN (p+1) (.mk k at_ sx nm pp P T he cases)+sizL (p+1) (l.drop (i+1))):=a3.A bu (Xb _);have ar:=Jfw cr fn (X6 hid bu);by_cases k3:k=3;rotate_left
 ·have e3:(if(Nod.mk k at_ sx nm pp P T he cases).k=3 then varS E' (Nod.mk k at_ sx nm pp P T he cases).A id else E')=E':=Xa k3;rw[e3]at O ar;rw[Ja];simp[XZ,f8,bx,k3,bj,ak];exact⟨l.length-(i+1),by omega,hL _ _ _ ⟨f0,f4,bh,bi,i+1,U9,ah,ap,E',_,N,by omega,rfl,a6,WA,o9,aq,a4,bz,ar,by omega,O⟩⟩
 have e3:(if(Nod.mk k at_ sx nm pp P T he cases).k=3 then varS E' (Nod.mk k at_ sx nm pp P T he cases).A id else E')=varS E' nm id:=Xd k3;rw[e3]at O ar;subst k3;rw[Ja];simp[XY,f8,bx,f4,aq,f9];refine Jc (Jnk WA.D bz (by have:=af.v;omega)) ?_;rintro _ SB ⟨GB,e2,rfl,ai⟩;have ai:=ai;have a7:=GB.A aq;have ai:EnvC (fun M=>¬U9 M/\M≠Y) SB e2 (varS E' nm id):=ai.A fun M a b=>⟨by
  rcases a with a|a
  ·exact a
  ·exact⟨WA.A a,fun o=>Jb aq (by grind)⟩,rfl⟩
 have b0:=ai;obtain⟨q0,b1,q2,rfl,s0,s1,s2⟩:=Kq b0;simp[XZ,f4,a7,s0.1,s1.1,s2.1,bj,ak];obtain⟨SC,au⟩:=exE (SB.D Y N fun u=> .a u [q0,b1,q2]);have CC:Ch (fun M=>M=Y) SB SC:=by rw[au];exact(Ch.G _ GB.D).J (Jb a7) (by rw[a7];rfl) (.inl rfl) (Jd _)
 obtain⟨tC,rC⟩:∃N,SC.A Y= .a N [q0,b1,q2]:=⟨_,by rw[au];exact Jk _ _ _ _⟩
 rw[<-au];clear au;have WB:=WA.B GB;have RB:RunW U S SB U9:=a6.G GB;have WC:WkU SC U9 w rt ah nv names ap a:=WB.I CC a4 (hW.j.D fun M a b=>by
  have h:=a6.G GB|>.B M b a;exact⟨h.2,by rw[CC.d M (by grind) fun o=>b (by grind),h.1]⟩)
 have RC:RunW U S SC U9:=⟨RB.ch.A CC fun M o=> .inr (by grind),RB.b⟩
 refine⟨l.length-(i+1),by omega,hL _ _ _ ⟨f0,f4,bh,bi,i+1,U9,ah,ap,varS E' nm id,_,tC,by omega,rfl,RC,WC,o9,rC,a4,ai.A fun M a b=>⟨a,CC.d M b a.2⟩,ar,by omega,O⟩⟩
theorem Js6 {names:List Str}:RowH r names z 0 (rowS e names z 0):=by
 intro S U w Y Z nv cs a b E j l k hO q hK o hf hc;have t:=k.D;obtain rfl:l=[]:=by
  cases l with
  |nil=>rfl
  | cons n c=>
    have u:LstAt (NodC (fun c=>¬U c) S z 0) (fun c=>¬U c) S j 9 (n::c):=o;obtain⟨r1,q1,en,v,x,y,K,L,M,N⟩:=u.A (i:=0) (by simp);exact L.elim
 refine Jl (aT Tryz.func20 rfl) rfl ?_;obtain⟨x0,x1,x2,rfl,O,P,Q⟩:=Kq q;have T:JU j=some (.d .i64 0, .a):=LstAt.H o;obtain⟨W,f⟩:=nxE S;simp only[CT,Tryz.f20,XY,simprocAttr];rw[Ja];simp[XY,f,O.1,P.1,Q.1];generalize g:up 0 W=p4;refine nm1 t f g ?_;intro S1 p X ⟨t4,r4⟩;have h:¬(0:Int)<0:=by omega
 rw[Je,Ja];simp[XY,T];refine j9 (by omega) ?_;simp[XZ,h];exact⟨U,RunW.D p,k.B p,rfl⟩
theorem rowH {s:Sch}{names:List Str}{m:Nat}{sg:Tb->List Nat->List Nat->Nat×Int}(a:s.c=[])(b:names.length<100000):∀d,RowH s names (m+1) d (rowS sg names (m+1) d)
 |0=>Js6
 |d+1=>Jre a b (rowH a b d) (Jcs (SgOK.A a) js d)
def BodP (U:Pt->Prop)(S:St)(rt:Pt)(x:AnsR)(v:V)(S':St):Prop:=∃U',Ch U S S'/\(∀r,U' r->U r\/S.A r= .none)/\TabU S' U' rt x.1/\((x.2.2.1≠0/\v= .p [.g, .d .i64 x.2.2.2, .d .i64 x.2.2.1])\/(x.2.2.1=0/\∃cv,v= .p [cv, .d .i64 0, .d .i64 0]/\KL S' cv 2 (clsE x.2.1)/\∀r,rowOf cv=some r->¬U' r/\(U r\/S.A r= .none)))
theorem Jt1 {names:List Str}{m:Nat}{sg:Tb->List Nat->List Nat->Nat×Int}(Q:r.c=[])(T:names.length<100000)(M:TabU k v l h)(hO:OfF r h)(q:SlAt (fun f=>¬v f) k b 1 (strs names))(W:p<h.a.length)
  (hb:NodsC (fun f=>¬v f) k (m+1) z y j) (hf:fitL (fitP (m+1)) z j) (hz:sizL z j<90000):
  Dz 8 [.e l 0,b, .d .i64 (p:Nat),y] k (BodP v k l (rowS sg names (m+1) z h [] ⟨p,[],[]⟩ j)):=by
 have hw:=M.1;refine Jl (aT Tryz.func8 rfl) rfl ?_;have c1:=q.A;have c2:=q.B;obtain⟨n0,N⟩:=nxE k;simp only[CT,Tryz.f8,XY,simprocAttr];rw[Ja];simp[XY];rw[Ja];simp[XY,N,c1,c2];generalize X:up 0 n0=w;refine nm1 hw N X ?_;intro O L wn ⟨tw,Y⟩;have uw:¬v w:=M.B wn;have W1:WkU O (fun f=>v f\/f=w) w l h b names [] (-1):=⟨⟨v, .g,tw,M.A L,fun f u=>⟨.inl u,fun e=>uw (by grind),fun e=>by cases e⟩,Y,KL.F _ _,fun f e=>by cases e⟩, .inr rfl,fun f u=>by
  rcases u with u|u
  ·rw[L.d f (M.2.2 f u)];exact M.2.2 f u
  grind,q.D fun f n e=>⟨fun u=>u.elim n fun x=>e (by grind),L.d f e⟩⟩
 have kB:NodsC (fun f=>¬(v f\/f=w)) O (m+1) z y j:=NodsC.A hb fun f n e=>⟨fun u=>u.elim n fun x=>e (by grind),L.d f e⟩
 have hE:EnvC (fun f=>¬(v f\/f=w)) O [.d .i64 (p:Nat), .g, .g] ⟨p,[],[]⟩:=⟨.g, .g,rfl,SlAt.K _ _ _,LstAt.F⟩
 have hK:EnvR h ⟨p,[],[]⟩ (sizL z j):=⟨⟨W,(fun x a=>by cases a),(fun x a=>by cases a),by simp,by simp⟩,by grind,by grind⟩
 rw[Je,Ja];simp[XY];refine Jc (rowH (sg:=sg) (m:=m) Q T z O _ w l h b [] (-1) _ _ y j W1 hO hE hK kB hf (by grind)) ?_;rintro _ S2 ⟨U2,Z,W2,rfl⟩;generalize rowS sg names (m+1) z h [] ⟨p,[],[]⟩ j=x at*;obtain⟨aa,cs,e,a⟩:=x;simp at W2⊢;obtain⟨U0,cv,t,T0,k2,P,k4,k5⟩:=W2.i;have C:Ch v k S2:=(Ch.H v L).A Z.ch fun f u=>u.elim .inl fun x=> .inr (by grind);have sb:∀f,U0 f->v f\/k.A f= .none:=fun f u=>by
  rcases Z.b f (k2 f u).1 with o|o
  ·grind
  ·exact .inr (L.I o)
 by_cases c:e=0
 ·rw[Xd c]at P;subst c;have c3:=k4.D.A;have c4:=k4.D.B;simp[XZ,P];refine⟨U0,C,sb,T0, .inr ⟨rfl,cv,rfl,k4,fun f e=>⟨fun u=>(k2 f u).2.2 e, ?_⟩⟩⟩;rcases Z.b f (k5 f e).1 with o|o
  ·grind
  ·exact .inr (L.I o)
 ·rw[Xa c]at P;simp[XZ,P,c];exact⟨U0,C,sb,T0, .inl ⟨c,rfl⟩⟩
section
variable {Z U U' : Pt -> Prop} {S S' : St} {ru : Pt} {s : Sch} {tb : Tb}
theorem AnE.D {S1:St}{x:Ans3}(G:Gr S S1)(d:∀r,v r->U r\/S.A r= .none)(h:AnE Z v S1 ru s x b S'):AnE Z U S ru s x b S':=by
 obtain⟨U',h⟩:=h;exact⟨U',⟨(Ch.H U G).A h.b.ch d,fun r u=>by
  rcases h.b.c r u with u|u
  ·grind
  ·exact .inr (G.I u)⟩,h.tab,h.a⟩
theorem AnE.B {x:Ans3}(G:Gr S k)(h:AnE Z U k ru s x b S'):AnE Z U S ru s x b S':=AnE.D G (fun r u=> .inl u) h
theorem Jj3 (tb:Tb)(n:Nd):(layS tb n).1.b=tb.b:=by
 unfold layS
 grind
theorem JmL {tb:Tb}{n:Nd}(h:(layS tb n).2.2≠0):(layS tb n).2.1=0/\(layS tb n).2.2=20:=by
 unfold layS at h⊢
 grind
theorem JmM (k:Int)(h:DT Z S U ru s tb):Dz 171 [.e ru 0, .d .i64 k] S (AnE Z U S ru s (layS tb ⟨k,[],[],[]⟩)):=by
 refine Jl (aT Tryz.func171 rfl) rfl ?_;obtain⟨T,m,n,o,p,q,r,g,O,t,j,N,a,b,c,d,l⟩:=h.i;simp only[CT,Tryz.f171,XZ,simprocAttr];refine Jc (Jr4 (X:= .mk k [] [] []) (y:=layS tb ⟨k,[],[],[]⟩) h.wf N a b c d l h.f (TyC.mk (SlAt.K _ _ _) (SlAt.K _ _ _) rfl fun i h=>absurd h (XO _)) rfl (by rw[QO,Qx];decide) ⟨399,by rfl⟩ (Jj3 _ _) JmL) ?_;rintro v S' ⟨U',A⟩;obtain rfl:=A.a;simp[XZ];exact⟨U',A⟩
theorem optD {A:Nd}(h:DT Z S U ru s tb)(Q:OfF s tb)(W:tb.a[z]? =some A)(hk:A.c=[p]):Dz 201 [.e ru 0, .d .i64 (p:Nat)] S (AnE Z U S ru s (layS tb ⟨6,[],[],[p]⟩)):=by
 refine Jl (aT Tryz.func201 rfl) rfl ?_;have hw:=h.wf;obtain⟨T,lv,tv,dv,nv,kv,sv,aa,O,X,ab,N,b1,b2,b3,b4,b5⟩:=h.i;obtain⟨K,k1,_,k3,k4,left,k5⟩:=Q.D W hk;obtain⟨t,hc⟩:=N.a.d;obtain⟨ts,u1,u2,u3⟩:=N.a.t;have l:p<X.length:=by
  rw[N.t.a];have:=(Q.g z A W).2 p (by grind)
  grind
 have L:X[p]=K:=(N.t.D l).2 k1;obtain⟨r,q,a1,_,_,Y,_⟩:=u1.D.I (i:=p) (by omega);have k:=u3 p (by omega) l;rw[L]at k;generalize ts[p]=e at Y k;obtain⟨xv,yv,es,rfl,x1,x2,x3,x4⟩:=k.B;have c1:=x1.A;have c2:=x1.B;have c3:=x2.A;have c4:=x2.B;obtain⟨n0,o⟩:=nxE S;simp only[CT,Tryz.f201,XY,simprocAttr];rw[Ja];simp[XY];rw[Ja];simp[XY,hc,a1,Y,o,c2,c4];generalize hp:up 0 n0=b;refine nm1c hw o hp ?_;intro S1 j pn ⟨t1,r1⟩;have hl:∀r,U r\/Z r->S.A r≠ .none:=h.f;have np:∀r,S.A r≠ .none->r≠b:=fun r e x=>e (by grind);have N1:=JhT (T':=fun r=>T r\/r=b) N j.D (fun r t e=>⟨.inl t,j.d r e⟩) fun r e=>⟨fun x=>x.elim (JbJ N r e).1 (np r (JbJ N r e).2),j.d r (JbJ N r e).2⟩
 have M:∀r,T r\/r=b->(U r\/r=b)\/Z r:=fun r x=>x.elim (fun x=>(b3 r x).imp .inl id) fun x=> .inl (.inr x);have sl:SlAt (fun r=>T r\/r=b) S1 (.m b 0 1 4 1) 4 [[.d .i64 K.A,ofL K.B,xv,yv]]:=SlAt.J (z:=4) (es:=[[.d .i64 K.A,ofL K.B,xv,yv]]) r1 (.inr rfl) fun e he=>by grind
 have P:TyC (fun r=>T r\/r=b) S1 [.d .i64 6,ofL [], .g, .m b 0 1 4 1] (.mk 6 [] [] [K]):=TyC.mk (SlAt.K _ _ _) sl rfl fun i h1 h2=>by
  obtain rfl:i=0:=by grind
  exact k.A fun r e n=>⟨.inl (Jbe e).1,j.d r n⟩
 refine Jc (Jr4 (Z:=Z) (U:=fun r=>U r\/r=b) (y:=layS tb ⟨6,[],[],[p]⟩) j.D N1 b1 (b2.B (fun _ _ x=>x.A fun r t e=>⟨.inl t,j.d r e⟩) fun r t e=>⟨.inl t,j.d r e⟩) M (fun r e=> .inl (b4 r e)) (fun r e=>(b5 r e).imp .inl id) (fun r e=> ?_) P (by rw[fitT,ji,ji,k4];rfl) k3 ⟨left,k5⟩ (Jj3 _ _) JmL) ?_
 ·rcases e with(e|e)|e
  ·rw[j.d r (hl r (.inl e))];grind
  ·grind
  ·rw[j.d r (hl r (.inr e))];grind
 ·intro v S' w;have w:=AnE.D j (fun r u=>u.imp id fun x=>by grind) w;have hB:=w;obtain⟨U',A⟩:=hB;obtain rfl:=A.a;simp[XZ];exact w
theorem atD {id:Nat}(h:DT Z S U ru s tb)(Y:OfF s tb)(hid:id<tb.a.length):
  Dz 81 [.e ru 0, .d .i64 (id:Nat)] S fun v S'=>Gr S S'/\∃x y,v= .j [.d .i64 (Jg tb id).a,ofL (Jg tb id).d,x,y]/\SlAt (fun r=>U r\/Z r) S' x 1 (strs (Jg tb id).b)/\SlAt (fun r=>U r\/Z r) S' y 1 (ints (Jg tb id).c):=by
 have hw:=h.wf;refine Jn tabM (aT Tryz.func81 rfl) rfl hw fun K p=> ?_;obtain⟨o1,o2,o3,o4,o5,o6⟩:=Y.B hid;obtain⟨T,lv,tv,dv,nv,kv,sv,aa,O,tr,ab,N,b1,b2,b3,b4,b5⟩:=h.i;obtain⟨t,hc⟩:=N.a.d;obtain⟨es,l1,l2,l3⟩:=N.a.l;obtain⟨n0,f⟩:=nxE S;simp only[CT,Tryz.f81,XY,simprocAttr];rw[Ja];simp[XY,f];generalize w:up 0 n0=z;refine nm1 hw f w ?_;intro L g ad ⟨t4,r4⟩;obtain⟨ae,P⟩:=(h.B g).H Y.l;rw[Ja];simp[XY];refine Jc (JpE P o1) ?_;rintro _ _ ⟨rfl,rfl⟩;have Q:=g.A hc;generalize (Ku tb (tb.a.length+1) id).1=o at o2 o3;obtain⟨r,q,a1,_,_,a4,_⟩:=(l1.G g).D.I (i:=o) (by omega);obtain⟨W,X,he,m,n⟩:=l3 o (by omega) o2;have hN:tb.a[o]=Jg tb id:=by grind
 rw[hN]at he m n;generalize Jg tb id=M at*;rw[he]at a4;have c1:=m.A;have c2:=m.B;have c3:=n.A;have c4:=n.B;simp[XY];rw[Ja];simp[XZ,Q,a1,a4,r4,c2,c4];have g3:∀r,r≠z->(L.D z t4 fun u=>Row.a u [.d .i64 M.a,ofL M.d,W,X]).A r=L.A r:=fun r e=>Ji _ _ _ e;have k:∀r,O r->S.A r≠ .none->(U r\/Z r)/\(L.D z t4 fun u=>Row.a u [.d .i64 M.a,ofL M.d,W,X]).A r=S.A r:=fun r o e=>⟨b5 r o,by rw[g3 r fun x=>e (by grind),g.d r e]⟩
 exact p _ _ (fun r e=>by rw[g3 r fun c=>e (by grind),g.d r e]) fun _=>⟨W,X,rfl,m.D k,n.D k⟩
theorem sigD (h:DT Z S U ru s tb)(o:Str):Dz 173 [.e ru 0,ofL o] S fun v S'=>Gr S S'/\v= .p [.j [ofL [], .g, .d .i64 0], .h false]:=by
 have m:=h.wf;refine Jn tabM (aT Tryz.func173 rfl) rfl m fun K c=> ?_;obtain⟨T,L,M,P,Q,W,X,q,O,Y,u,N,b1,b2,b3,b4,b5⟩:=h.i;obtain⟨t,w⟩:=N.a.d;obtain⟨y,b⟩:=nxE S;have l0:JU .g=some (.d .i64 0, .a):=rfl;have f:¬(0:Int)<0:=by omega
 simp only[CT,Tryz.f173,XY,simprocAttr];rw[Ja];simp[XY,b];generalize k:up 0 y=p4;refine nm1 m b k ?_;intro S2 n z ⟨t4,r4⟩;have l:=n.A w;rw[Je,Ja];simp[XY];refine j9 (by omega) ?_;simp[XZ,l,l0,f,r4];exact c _ _ (fun r e=>by rw[Ji _ _ _ fun x=>e (by grind),n.d r e]) fun _=>rfl
end
def kidV (nm:Str)(ns:List Str)(ks:List Nat):V:=match fstN nm ns with
 |some j=> .p [.d .i64 (ks.getD j 0:Nat), .h true]
 |none=> .p [.d .i64 0, .h false]
theorem Jnl {ks:List Nat}(h:fstN m n=none):kidV m n ks= .p [.d .i64 0, .h false]:=by unfold kidV;rw[h]
theorem Jnm {ks:List Nat}(h:fstN m n=some z):kidV m n ks= .p [.d .i64 (ks.getD z 0:Nat), .h true]:=by unfold kidV;rw[h]
theorem kidD {nm:Str}(Z:WF k)(l:SlAt v k b 1 (strs n))(o:SlAt v k y 1 (ints i))(hl:n.length<=i.length)(h8:n.length<=8):
  Dz 177 [.j [.d .i64 w,ofL m,b,y],ofL nm] k fun a S'=>Gr k S'/\a=kidV nm n i:=by
 unfold kidV;have Q:fstN nm n=idxN nm n 0:=by rw[JjJ];simp
 rw[Q];refine Jn tabM (aT Tryz.func177 rfl) rfl Z fun K r=> ?_;obtain⟨n0,s⟩:=nxE k;have s1:=l.B;have s2:=o.B;have s3:=l.A;have s4:=o.A;have t:=l.G;rw[Jw]at t;simp only[CT,Tryz.f177,XY,simprocAttr];rw[Ja];simp[XY,s,s1,s2];generalize hp:up 0 n0=p;refine nm1 Z s hp ?_;intro S1 u _ ⟨t1,r1⟩;have l:=l.H u;have o:=o.H u;obtain⟨L,hL⟩:=loE fun j z k=>∃(c:Nat),k=S1/\j+c=n.length/\z 1=ofL nm/\z 2= .e p 0/\z 6= .d .i64 c/\idxN nm n 0=idxN nm (n.drop c) c;rw[Je,Ja];simp[XY];refine JC L n.length (by omega) ((hL _ _ _).2 ⟨0,rfl,by omega,rfl,rfl,by rfl,rfl⟩) ?_;intro j z S' T;obtain⟨c,rfl,hj,U,N,W,g⟩:=(hL _ _ _).1 T;by_cases O:c<n.length
 ·have h:=wiN (i:=c) (by omega);obtain⟨q,qo,a1,a2,a3,X⟩:=l.M (xs:=n.map ofL) (i:=c) (by grind);simp at X;obtain⟨q',aa,b1,b2,b3,b4⟩:=o.M (xs:=i.map fun f:Nat=>V.d .i64 (f:Int)) (i:=c) (by grind);simp at b4;rw[Xc O,idxN]at g;by_cases e:nm=n[c]
  ·rw[Xd e]at g;have Y:(n[c]=nm)=True:=XL e.symm;simp[XZ,U,N,W,r1,t,O,a1,X,b1,b4,Y];refine r _ _ (fun q e=>u.d q e) fun _=> ?_
   grind
  ·rw[Xa e]at g;have Y:(n[c]=nm)=False:=XF fun x=>e x.symm;simp[XZ,U,N,W,r1,t,O,a1,X,Y,h];exact⟨n.length-(c+1),by omega,(hL _ _ _).2 ⟨c+1,rfl,by omega,U,N,rfl,g⟩⟩
 ·rw[Xm (by omega),idxN]at g;simp[XZ,N,W,r1,t,O];refine r _ _ (fun q e=>u.d q e) fun _=> ?_;rw[g]
theorem Js7 (a:Str)(S:St):Dz 175 [ofL a] S fun v e=>v= .d .i64 (KE a:Nat)/\S=e:=by
 refine Jl (aT Tryz.func175 rfl) rfl ?_;by_cases h:a∈[[108,101,110],[110,111,116],[116,101,120,116],[104,97,115],[105,56],[105,49,54],[105,51,50],[117,56],[117,49,54],[117,51,50]]
 ·have b:KE a=1:=Xd h;rw[b];simp at h;rcases h with rfl|rfl|rfl|rfl|rfl|rfl|rfl|rfl|rfl|rfl
  all_goals
   simp only[CT,Tryz.f175,XZ,simprocAttr,Xi,Zg,XE,reduceCtorEq]
 ·have b:KE a=2:=Xa h;rw[b];simp[GO]at h;obtain⟨f,g,i,j,k,l,m,n,o,c⟩:=h;simp only[CT,Tryz.f175,XZ,simprocAttr,f,g,i,j,k,l,m,n,o,c]
theorem Js8 (k:Int)(S:St):Dz 193 [.d .i64 k] S fun v e=>v= .h (decide (1<=k/\k<=3))/\S=e:=by
 refine Jl (aT Tryz.func193 rfl) rfl ?_;by_cases a:k≥1
 ·by_cases b:k<=3
  ·have:decide (1<=k/\k<=3)=true:=Xo ⟨a,b⟩;rw[this];simp only[CT,Tryz.f193,XZ,simprocAttr,a,b]
  ·have:decide (1<=k/\k<=3)=false:=Xq fun c=>b c.2;rw[this];simp only[CT,Tryz.f193,XZ,simprocAttr,a,b]
 ·have:decide (1<=k/\k<=3)=false:=Xq fun c=>a c.1;rw[this];simp only[CT,Tryz.f193,XZ,simprocAttr,a]
def NodU (U:Pt->Prop)(S:St)(e:List V)(A:Nd):Prop:=∃x y,e=[.d .i64 A.a,ofL A.d,x,y]/\SlAt U S x 1 (strs A.b)/\SlAt U S y 1 (ints A.c)
theorem JhW (h:SlAt v k b 1 (ints i))(c:0<i.length):∃q o,Jo 1 b (.d .i64 0)=some (.e q o, .a)/\ld1 (k.A q) o=some (.d .i64 (i.getD 0 0:Nat), .a):=by
 obtain⟨q,f,g,j,l,m⟩:=SlAt.M (xs:=i.map fun n:Nat=>V.d .i64 (n:Int)) (i:=0) h (by grind)
 grind
theorem Jk4 {c:List Nat}(h:SlAt v k b 1 (ints c)){i:Nat}(f:i<c.length):∃q o,Jo 1 b (.d .i64 (i:Nat))=some (.e q o, .a)/\ld1 (k.A q) o=some (.d .i64 (c[i]:Nat), .a):=by
 obtain⟨q,g,j,l,m,p⟩:=SlAt.M (xs:=c.map fun n:Nat=>V.d .i64 (n:Int)) (i:=i) h (by grind)
 grind
theorem Jt2 {P:Pt->Prop}{S:St}(f:DT v S q l r h)(hO:OfF r h)(ha:z<h.a.length)(hb:p<h.a.length)(hn:m=[97,116]\/m=[103,101,116]\/m=[111,114,101,108,115,101])(ag:SlAt P S b 1 (ints [z,p]))(h1:NodU c S d (Jg h z))(h2:NodU c S g (Jg h p)):
  Dz 194 [.e l 0,ofL m,b, .j d, .j g] S (AnE v q S l r (Jv h m [z,p] [Jg h z,Jg h p])):=by
 have hw:=f.wf;refine Jl (aT Tryz.func194 rfl) rfl ?_;obtain⟨o1,o2,o3,o4,o5,o6⟩:=hO.B ha;obtain⟨x1,y1,rfl,u1,X⟩:=h1;obtain⟨x2,y2,rfl,u2,v2⟩:=h2;have c1:=u1.A;have c2:=u1.B;have c3:=X.A;have c4:=X.B;have d1:=u2.A;have d2:=u2.B;have d3:=v2.A;have d4:=v2.B;obtain⟨n0,ab⟩:=nxE S;simp only[CT,Tryz.f194,XY,simprocAttr];rw[Ja];simp[XY,ab,c2,c4,d2,d4];generalize ah:up 0 n0=p8;generalize ai:up 1 n0=p9;refine nm2 hw ab ah ai ?_;intro S1 L _ _ _ ⟨t8,r8⟩ ⟨t9,r9⟩;have D1:=f.B L;have kl:=o5.a;have X:=X.H L;have ad:=ag.H L;have aa:(Jg h z).a=4\/(Jg h z).a=5\/(Jg h z).a=6->(Jg h z).c=[(Jg h z).c.getD 0 0]:=fun K=>by
  have:(Jg h z).c.length=1:=by rw[kl,jE,Xd K]
  match hx:(Jg h z).c,this with
  |[n],_=>rfl
 generalize hA:Jg h z=A at*;generalize Jg h p=B at*;have M:∀{S':St},Gr S1 S'->∀e:Int,AnE v q S l r (h,0,e) (.p [.d .i64 0, .d .i64 e]) S':=fun t e=>AnE.A f (L.B t) 0 e;have ke:∀{k:Nat},A.c=[k]->kid0 [A,B]=some k:=fun K=>by unfold kid0;simp[K]
 rcases hn with rfl|rfl|rfl
 ·by_cases k4:A.a=4
  ·have K:=aa (.inl k4);generalize A.c.getD 0 0=N at K;obtain⟨u,o,d,g⟩:=JhW X (by grind);have g:ld1 (S1.A u) o=some (.d .i64 (N:Nat), .a):=by grind
   by_cases k2:B.a=2
   ·have e:Jv h [97,116] [z,p] [A,B]=(h,N,0):=by simp[Jv,Jp,k4,k2,ke K]
    rw[e];simp[XZ,r8,r9,k4,k2,d,g];exact AnE.A f L _ _
   ·have e:Jv h [97,116] [z,p] [A,B]=(h,0,17):=by simp[Jv,Jp,k4,k2]
    rw[e];simp[XZ,r8,r9,k4,k2,Xi,Zo,XE];exact M (Gr.F L.D) 17
  ·have e:Jv h [97,116] [z,p] [A,B]=(h,0,17):=by simp[Jv,Jp,k4]
   rw[e];simp[XZ,r8,k4,Xi,Zo,XE];exact M (Gr.F L.D) 17
 ·by_cases W:A.a=5
  ·have K:=aa (.inr (.inl W));generalize A.c.getD 0 0=N at K;obtain⟨u,o,d,g⟩:=JhW X (by grind);have g:ld1 (S1.A u) o=some (.d .i64 (N:Nat), .a):=by grind
   have aj:=o6 N (by grind);by_cases k3:B.a=3
   ·simp[XZ,r8,r9,W,k3,d,g,Xi,reduceCtorEq];refine Jc (atD D1 hO aj) ?_;rintro _ S2 ⟨G2,x,y,rfl,_,_⟩;by_cases O:(Jg h N).a=6
    ·have e:Jv h [103,101,116] [z,p] [A,B]=(h,0,17):=by simp[Jv,Jp,W,k3,ke K,O]
     rw[e];simp[XZ,O,Xi,Zo,XE]
     grind
    ·have e:Jv h [103,101,116] [z,p] [A,B]=layS h ⟨6,[],[],[N]⟩:=by simp[Jv,Jp,W,k3,ke K,O]
     rw[e];have r82:=G2.A r8;have ak:ld1 (S2.A u) o=some (.d .i64 (N:Nat), .a):=by
      have:S1.A u≠ .none:=fun n=>by rw[n]at g;cases g
      rw[G2.d u this];exact g
     simp[XZ,O,r82,d,ak];refine Jc (optD (D1.B G2) hO o3 K) ?_;intro w S3 hA;have hA:=AnE.B (L.B G2) hA;have hB:=hA;obtain⟨U',hV⟩:=hB;obtain rfl:=hV.a;simp[XZ];exact hA
   ·have e:Jv h [103,101,116] [z,p] [A,B]=(h,0,17):=by simp[Jv,Jp,W,k3]
    rw[e];simp[XZ,r8,r9,W,k3,Xi,Zo,XE];exact M (Gr.F L.D) 17
  ·have e:Jv h [103,101,116] [z,p] [A,B]=(h,0,17):=by simp[Jv,Jp,W]
   rw[e];simp[XZ,r8,W,Xi,Zo,XE];exact M (Gr.F L.D) 17
 ·by_cases O:A.a=6
  ·have K:=aa (.inr (.inr O));generalize A.c.getD 0 0=N at K;obtain⟨u,o,d,g⟩:=JhW X (by grind);have g:ld1 (S1.A u) o=some (.d .i64 (N:Nat), .a):=by grind
   obtain⟨q',o',Q,T⟩:=Jk4 ad (i:=1) (by simp);have Q:Jo 1 b (.d .i64 1)=some (.e q' o', .a):=Q;have T:ld1 (S1.A q') o'=some (.d .i64 (p:Nat), .a):=T;by_cases ae:p=N
   ·subst ae;have e:Jv h [111,114,101,108,115,101] [z,p] [A,B]=(h,p,0):=by simp[Jv,Jp,O,ke K]
    rw[e];simp[XZ,r8,O,d,g,Q,T,Xi,Zo,XE];exact AnE.A f L _ _
   ·have af:¬((p:Nat):Int)=(N:Nat):=by omega
    have e:Jv h [111,114,101,108,115,101] [z,p] [A,B]=(h,0,17):=by simp[Jv,Jp,O,ke K,ae]
    rw[e];simp[XZ,r8,O,d,g,Q,T,af,Xi,Zo,XE];exact M (Gr.F L.D) 17
  ·have e:Jv h [111,114,101,108,115,101] [z,p] [A,B]=(h,0,17):=by simp[Jv,Jp,O]
   rw[e];simp[XZ,r8,O,Xi,Zo,XE];exact M (Gr.F L.D) 17
theorem ownD {P:Pt->Prop}{S:St}{args:List Nat}(f:DT v S q l r h)(hO:OfF r h)(ha:z<h.a.length)(hb:p<h.a.length)(hn:m∈jl)(u:(KE m=1/\args=[z]/\p=z)\/(KE m=2/\args=[z,p]))(ad:SlAt P S b 1 (ints args))(h1:NodU c S d (Jg h z))(h2:NodU c S g (Jg h p)):
  Dz 176 [.e l 0,ofL m,b, .j d, .j g] S (AnE v q S l r (Jv h m args (args.map (Jg h)))):=by
 have hw:=f.wf;refine Jl (aT Tryz.func176 rfl) rfl ?_;have w:(m=[108,101,110])\/(m=[110,111,116])\/(m=[97,110,100]\/m=[111,114])\/(m=[101,113])\/(m=[108,116])\/(m=[97,100,100]\/m=[115,117,98]\/m=[109,117,108]\/m=[115,104,108]\/m=[115,104,114])\/(m=[105,56]\/m=[105,49,54]\/m=[105,51,50]\/m=[117,56]\/m=[117,49,54]\/m=[117,51,50])\/(m=[99,97,116])\/(m=[116,101,120,116])\/(m=[104,97,115])\/(m=[97,116]\/m=[103,101,116]\/m=[111,114,101,108,115,101]):=by
  simp[jl]at hn
  grind
 obtain⟨x1,y1,rfl,u1,v1⟩:=h1;obtain⟨x2,y2,rfl,u2,v2⟩:=h2;have c1:=u1.A;have c2:=u1.B;have c3:=v1.A;have c4:=v1.B;have d1:=u2.A;have d2:=u2.B;have d3:=v2.A;have d4:=v2.B;obtain⟨n0,aa⟩:=nxE S;simp only[CT,Tryz.f176,XY,simprocAttr];rw[Ja];simp[XY,aa,c2,c4,d2,d4];generalize ae:up 0 n0=p8;generalize af:up 1 n0=p9;refine nm2 hw aa ae af ?_;intro S1 T _ _ _ ⟨t8,r8⟩ ⟨t9,r9⟩;have D1:=f.B T;have w1:NodU c S1 [.d .i64 (Jg h z).a,ofL (Jg h z).d,x1,y1] (Jg h z):=⟨x1,y1,rfl,u1.H T,v1.H T⟩
 have w2:NodU c S1 [.d .i64 (Jg h p).a,ofL (Jg h p).d,x2,y2] (Jg h p):=⟨x2,y2,rfl,u2.H T,v2.H T⟩
 have ab:=ad.H T;generalize y:Jv h m args (args.map (Jg h))=x;have L:∀(k:Int) {fr:Fr} {Q:V->St->Prop} {ow:Option (List Nat)},x=layS h ⟨k,[],[],[]⟩->(∀(i:Nat) (e:Int) S',AnE v q S l r x (.p [.d .i64 (i:Nat), .d .i64 e]) S'->Q (.p [.d .i64 (i:Nat), .d .i64 e]) S')->J8 (tabT tabD) false ow 171 [.e l 0, .d .i64 k] fr S1 Q:=by
  rintro k fr Q ow ag hQ;refine Jc (JmM k D1) ?_;intro n S' K;have K:=AnE.B T K;rw[<-ag]at K;have hB:=K;obtain⟨U',hV⟩:=hB;obtain rfl:=hV.a
  grind
 have M:x=(h,0,17)->AnE v q S l r x (.p [.d .i64 0, .d .i64 17]) S1:=fun e=>by rw[e];exact AnE.A f T 0 17
 rcases w with w|w|w|w|w|w|w|w|w|w|w
 ·rcases w with rfl;obtain⟨_,rfl,W⟩:KE _=1/\args=[z]/\p=z:=u.resolve_right fun o=>absurd o.1 (by decide);simp at y;generalize Jg h z=A at*;by_cases k3:A.a=3
  ·simp[XZ,r8,k3,reduceCtorEq];refine L _ (by rw[<-y];simp[Jv,okS,Jp,resK, *]) ?_;intro i e S' K;simp[XZ];exact K
  by_cases k4:A.a=4
  ·simp[XZ,r8,k4,reduceCtorEq];refine L _ (by rw[<-y];simp[Jv,okS,Jp,resK, *]) ?_;intro i e S' K;simp[XZ];exact K
  by_cases k5:A.a=5
  ·simp[XZ,r8,k5,reduceCtorEq];refine L _ (by rw[<-y];simp[Jv,okS,Jp,resK, *]) ?_;intro i e S' K;simp[XZ];exact K
  simp[XZ,r8,k3,k4,k5];exact M (by rw[<-y];simp[Jv,okS,Jp, *])
 ·rcases w with rfl;obtain⟨_,rfl,W⟩:KE _=1/\args=[z]/\p=z:=u.resolve_right fun o=>absurd o.1 (by decide);simp at y;generalize Jg h z=A at*;by_cases N:A.a=1
  ·simp[XZ,r8,N,Xi,X8,reduceCtorEq];refine L _ (by rw[<-y];simp[Jv,okS,Jp,resK, *]) ?_;intro i e S' K;simp[XZ];exact K
  simp[XZ,r8,N,Xi,X8];exact M (by rw[<-y];simp[Jv,okS,Jp, *])
 ·rcases w with rfl|rfl
  all_goals
   obtain⟨_,rfl⟩:KE _=2/\args=[z,p]:=u.resolve_left fun o=>absurd o.1 (by decide);simp at y;generalize Jg h z=A at*;generalize Jg h p=B at*;by_cases N:A.a=1
   ·by_cases O:B.a=1
    ·simp[XZ,r8,r9,N,O,Xi,X8,reduceCtorEq];refine L _ (by rw[<-y];simp[Jv,okS,Jp,resK, *]) ?_;intro i e S' K;simp[XZ];exact K
    ·simp[XZ,r8,r9,N,O,Xi,X8];exact M (by rw[<-y];simp[Jv,okS,Jp, *])
   simp[XZ,r8,N,Xi,X8];exact M (by rw[<-y];simp[Jv,okS,Jp, *])
 ·rcases w with rfl;obtain⟨_,rfl⟩:KE _=2/\args=[z,p]:=u.resolve_left fun o=>absurd o.1 (by decide);simp at y;generalize Jg h z=A at*;generalize Jg h p=B at*;simp[XZ,r8,Xi,X8];refine Jc (Js8 A.a S1) ?_;rintro _ _ ⟨rfl,rfl⟩;by_cases kb:1<=A.a/\A.a<=3
  ·rw[Xo kb];by_cases O:A.a=B.a
   ·have ke:x=layS h ⟨1,[],[],[]⟩:=by
     have:A.a=1\/A.a=2\/A.a=3:=by omega
     have X:=O.symm;rcases this with k|k|k<;>rw[<-y]<;>simp[Jv,okS,Jp,resK,k,X]
    simp[XZ,r8,r9,XL O,reduceCtorEq];refine L _ ke ?_;intro i e S' K;simp[XZ];exact K
   ·have ke:x=(h,0,17):=by
     have:A.a=1\/A.a=2\/A.a=3:=by omega
     have X:∀t,A.a=t->¬B.a=t:=fun t e o=>O (by rw[e,o]);rcases this with k|k|k<;>rw[<-y]<;>simp[Jv,okS,Jp,k,X _ k]
    simp[XZ,r8,r9,O]
    grind
  ·have ke:x=(h,0,17):=by
    have n1:¬A.a=1:=by omega
    have n2:¬A.a=2:=by omega
    have n3:¬A.a=3:=by omega
    rw[<-y];simp[Jv,okS,Jp,n1,n2,n3]
   rw[Xq kb];simp[XZ]
   grind
 ·rcases w with rfl;obtain⟨_,rfl⟩:KE _=2/\args=[z,p]:=u.resolve_left fun o=>absurd o.1 (by decide);simp at y;generalize Jg h z=A at*;generalize Jg h p=B at*;by_cases N:A.a=2
  ·by_cases O:B.a=2
   ·simp[XZ,r8,r9,N,O,Xi,Zg,X8,reduceCtorEq];refine L _ (by rw[<-y];simp[Jv,okS,Jp,resK, *]) ?_;intro i e S' K;simp[XZ];exact K
   ·simp[XZ,r8,r9,N,O,Xi,Zg,X8];exact M (by rw[<-y];simp[Jv,okS,Jp, *])
  simp[XZ,r8,N,Xi,Zg,X8];exact M (by rw[<-y];simp[Jv,okS,Jp, *])
 ·rcases w with rfl|rfl|rfl|rfl|rfl
  all_goals
   obtain⟨_,rfl⟩:KE _=2/\args=[z,p]:=u.resolve_left fun o=>absurd o.1 (by decide);simp at y;generalize Jg h z=A at*;generalize Jg h p=B at*;by_cases N:A.a=2
   ·by_cases O:B.a=2
    ·simp[XZ,r8,r9,N,O,Xi,Zg,X8,reduceCtorEq];refine L _ (by rw[<-y];simp[Jv,okS,Jp,resK, *]) ?_;intro i e S' K;simp[XZ];exact K
    ·simp[XZ,r8,r9,N,O,Xi,Zg,X8];exact M (by rw[<-y];simp[Jv,okS,Jp, *])
   simp[XZ,r8,N,Xi,Zg,X8];exact M (by rw[<-y];simp[Jv,okS,Jp, *])
 ·rcases w with rfl|rfl|rfl|rfl|rfl|rfl
  all_goals
   obtain⟨_,rfl,W⟩:KE _=1/\args=[z]/\p=z:=u.resolve_right fun o=>absurd o.1 (by decide);simp at y;generalize Jg h z=A at*;by_cases N:A.a=2
   ·simp[XZ,r8,N,Xi,X8,XE,reduceCtorEq];refine L _ (by rw[<-y];simp[Jv,okS,Jp,resK, *]) ?_;intro i e S' K;simp[XZ];exact K
   simp[XZ,r8,N,Xi,X8,XE];exact M (by rw[<-y];simp[Jv,okS,Jp, *])
 ·rcases w with rfl;obtain⟨_,rfl⟩:KE _=2/\args=[z,p]:=u.resolve_left fun o=>absurd o.1 (by decide);simp at y;generalize Jg h z=A at*;generalize Jg h p=B at*;by_cases N:A.a=3
  ·by_cases O:B.a=3
   ·simp[XZ,r8,r9,N,O,Xi,X8,reduceCtorEq];refine L _ (by rw[<-y];simp[Jv,okS,Jp,resK, *]) ?_;intro i e S' K;simp[XZ];exact K
   ·simp[XZ,r8,r9,N,O,Xi,X8];exact M (by rw[<-y];simp[Jv,okS,Jp, *])
  simp[XZ,r8,N,Xi,X8];exact M (by rw[<-y];simp[Jv,okS,Jp, *])
 ·rcases w with rfl;obtain⟨_,rfl,W⟩:KE _=1/\args=[z]/\p=z:=u.resolve_right fun o=>absurd o.1 (by decide);simp at y;generalize Jg h z=A at*;by_cases O:A.a=2
  ·simp[XZ,r8,O,Xi,Zg,XE,reduceCtorEq];refine L _ (by rw[<-y];simp[Jv,okS,Jp,resK, *]) ?_;intro i e S' K;simp[XZ];exact K
  by_cases N:A.a=1
  ·simp[XZ,r8,N,Xi,Zg,XE,reduceCtorEq];refine L _ (by rw[<-y];simp[Jv,okS,Jp,resK, *]) ?_;intro i e S' K;simp[XZ];exact K
  simp[XZ,r8,O,N,Xi,Zg,XE];exact M (by rw[<-y];simp[Jv,okS,Jp, *])
 ·rcases w with rfl;obtain⟨_,rfl,W⟩:KE _=1/\args=[z]/\p=z:=u.resolve_right fun o=>absurd o.1 (by decide);simp at y;generalize Jg h z=A at*;by_cases N:A.a=6
  ·simp[XZ,r8,N,Xi,Zg,X8,reduceCtorEq];refine L _ (by rw[<-y];simp[Jv,okS,Jp,resK, *]) ?_;intro i e S' K;simp[XZ];exact K
  simp[XZ,r8,N,Xi,Zg,X8];exact M (by rw[<-y];simp[Jv,okS,Jp, *])
 ·rcases w with rfl|rfl|rfl
  all_goals
   obtain⟨_,rfl⟩:KE _=2/\args=[z,p]:=u.resolve_left fun o=>absurd o.1 (by decide);simp[XZ,r8,r9,Xi,Zg,X8,XE,reduceCtorEq];rw[<-y];refine Jc (Jt2 D1 hO ha hb (by simp) ab w1 w2) ?_;intro n S' K;have K:=AnE.B T K;have hB:=K;obtain⟨U',hV⟩:=hB;obtain rfl:=hV.a;simp[XZ];exact K
theorem ofD8 {args:List Nat}{sg:Tb->List Nat->List Nat->Nat×Int}(f:DT v k q l r h)(hO:OfF r h)(a7:r.c=[])(ad:SlAt c k b 1 (ints args))(ha:∀a∈args,a<h.a.length):
  Dz 143 [.e l 0,ofL m,b] k (AnE v q k l r (ofK sg h m args)):=by
 have hw:=f.wf;have hs:sigI h m=none:=hO.l.a m (by grind);refine Jl (aT Tryz.func143 rfl) rfl ?_;have X:=ad.G;rw[JS]at X;have l0:JU .g=some (.d .i64 0, .a):=rfl;have a2:isBi m=jl.contains m:=JgS m;simp only[CT,Tryz.f143,XY,simprocAttr];rw[Ja];simp[XY];rw[Ja];simp[XY];refine Jc (sigD f m) ?_;rintro _ S1 ⟨G1,rfl⟩;obtain⟨n1,am⟩:=nxE S1;simp[XY,am];generalize a3:up 0 n1=p8;refine nmA G1.D am a3 ?_;intro S2 G2 _ ⟨t8,r8⟩;have N:=G1.B G2;rw[Je,Ja];simp[XY];refine Jc (Jnf m S2) ?_;rintro _ _ ⟨rfl,rfl⟩;rw[<-a2];unfold ofK;by_cases hb:isBi m=true;rotate_left
 ·rw[Xa hb,hs];have a4:isBi m=false:=by grind
  rw[a4];simp[XZ];exact AnE.A f N 0 15
 rw[Xd hb,hb];simp only[XY,simprocAttr];rw[Je,Ja];simp only[XY,simprocAttr];rw[Je,Ja];simp only[XY,simprocAttr,X];refine Jc (Js7 m S2) ?_;rintro _ _ ⟨rfl,rfl⟩;by_cases hl:args.length=KE m;rotate_left
 ·rw[Xd hl];have T:¬((args.length:Nat):Int)=(KE m:Nat):=by omega
  simp[XZ,T];exact AnE.A f N 0 18
 rw[Xa fun n=>n hl];have T:((args.length:Nat):Int)=(KE m:Nat):=by omega
 have Y:KE m=1\/KE m=2:=by unfold KE;grind
 have hn:m∈jl:=by grind
 obtain⟨a,ra,ao⟩:∃a ra,args=a::ra:=by
  cases args with
  |nil=>grind
  |cons a w=>simp
 have ae:a<h.a.length:=ha a (by grind);have ab:=ad.H N;obtain⟨z,o,e1,e2⟩:=Jk4 ab (i:=0) (by omega);have e1:Jo 1 b (.d .i64 0)=some (.e z o, .a):=e1;have e2:ld1 (S2.A z) o=some (.d .i64 (a:Nat), .a):=by grind
 simp[XY,T];rw[Ja];simp[XY,e1,e2];refine Jc (atD (f.B N) hO ae) ?_;rintro _ S3 ⟨G3,x,y,rfl,ux,uy⟩;have c1:=ux.A;have c2:=ux.B;have c3:=uy.A;have c4:=uy.B;obtain⟨n3,ap⟩:=nxE S3;simp[XY,ap,c2,c4];generalize aq:up 0 n3=ar;refine nmA G3.D ap aq ?_;intro S4 G4 _ ⟨t13,r13⟩;obtain⟨n4,af⟩:=nxE S4;have a8:=fun K=>nes (Jr G4.D af (Jb r13) K);rw[Ja];simp[XY,r13,af,c2,c4];generalize au:up 0 n4=aa;refine nmA G4.D af au ?_;intro S5 G5 aw ⟨t14,r14⟩;have ax:=(G3.B G4).B G5;have ag:=N.B ax;have r135:=G5.A r13;have D5:=f.B ag;have A5:NodU (fun w=>q w\/v w) S5 [.d .i64 (Jg h a).a,ofL (Jg h a).d,x,y] (Jg h a):=⟨x,y,rfl,ux.H (G4.B G5),uy.H (G4.B G5)⟩
 have ay:=ab.H ax;have az:∀{S6:St} {L:Nat} {eb:List V} {fr:Fr} {Q:V->St->Prop},Gr k S6->L<h.a.length->((KE m=1/\args=[a]/\L=a)\/(KE m=2/\args=[a,L]))->NodU (fun w=>q w\/v w) S6 [.d .i64 (Jg h a).a,ofL (Jg h a).d,x,y] (Jg h a)->NodU (fun w=>q w\/v w) S6 eb (Jg h L)->(∀(i:Nat) (e:Int) S',AnE v q k l r (Jv h m args (args.map (Jg h))) (.p [.d .i64 (i:Nat), .d .i64 e]) S'->Q (.p [.d .i64 (i:Nat), .d .i64 e]) S')->J8 (tabT tabD) false none 176 [.e l 0,ofL m,b, .j [.d .i64 (Jg h a).a,ofL (Jg h a).d,x,y], .j eb] fr S6 Q:=by
  intro S6 L eb fr Q G6 a5 ah A6 B6 hQ;refine Jc (ownD (f.B G6) hO ae a5 hn ah (ad.H G6) A6 B6) ?_;intro M S' hA;have hA:=AnE.B G6 hA;have hB:=hA;obtain⟨U',hV⟩:=hB;obtain rfl:=hV.a
  grind
 rcases Y with Y|Y
 ·have ai:args=[a]:=by grind
  have a9:¬(1:Int)=2:=by omega
  rw[Y];rw[Je,Ja];simp[XY,X,T,Y];rw[Ja];simp[XY,r135,r14];refine az ag ae (.inl ⟨Y,ai,rfl⟩) A5 A5 ?_;intro i e S' hA;simp[XZ];exact hA
 ·obtain⟨L,ai⟩:∃L,args=[a,L]:=by
   rw[ao,Y]at hl
   match ra,hl with
   |[L],_=>grind
  have a0:L<h.a.length:=ha L (by grind);obtain⟨q',o',aj,a1⟩:=Jk4 ay (i:=1) (by omega);have aj:Jo 1 b (.d .i64 1)=some (.e q' o', .a):=aj;have a1:ld1 (S5.A q') o'=some (.d .i64 (L:Nat), .a):=by grind
  rw[Je,Ja];simp[XY,X,T,Y,aj,a1];refine Jc (atD D5 hO a0) ?_;rintro _ S6 ⟨G6,x',y',rfl,ak,al⟩;have d1:=ak.A;have d2:=ak.B;have d3:=al.A;have d4:=al.B;have r146:=G6.A r14;have r136:=G6.A r135;have a6:ar≠aa:=fun e=>Jb r13 (by grind);simp[XY,r146,d2,d4];have W:k.A aa= .none:=Ch.B (Ch.H (fun _=>False) (N.B (G3.B G4))) aw;obtain⟨S7,O⟩:=exE (S6.D aa t14 fun u=> .a u [.d .i64 (Jg h L).a,ofL (Jg h L).d,x',y']);have G7:Gr k S7:=by rw[O];exact(ag.B G6).J W (Jb r146) (by rw[r146];rfl) (Jd _)
  have k7:∀w,q w\/v w->S6.A w≠ .none->(q w\/v w)/\S7.A w=S6.A w:=fun w u e=>⟨u,by rw[O];exact Ji _ _ _ fun x=>u.elim (fun u=>(f.F W).1 (by grind)) fun u=>(f.F W).2 (by grind)⟩
  have r147:∃t,S7.A aa= .a t [.d .i64 (Jg h L).a,ofL (Jg h L).d,x',y']:=⟨_,by rw[O];exact Jk _ _ _ _⟩
  have r137:S7.A ar= .a t13 [.d .i64 (Jg h a).a,ofL (Jg h a).d,x,y]:=by rw[O,Ji _ _ _ a6];omega
  rw[<-O];clear O;obtain⟨t7,r147⟩:=r147;have A7:NodU (fun w=>q w\/v w) S7 [.d .i64 (Jg h a).a,ofL (Jg h a).d,x,y] (Jg h a):=⟨x,y,rfl,(ux.H ((G4.B G5).B G6)).D k7,(uy.H ((G4.B G5).B G6)).D k7⟩
  have B7:NodU (fun w=>q w\/v w) S7 [.d .i64 (Jg h L).a,ofL (Jg h L).d,x',y'] (Jg h L):=⟨x',y',rfl,ak.D k7,al.D k7⟩
  rw[Ja];simp[XY,r137,r147];refine az G7 a0 (.inr ⟨Y,ai⟩) A7 B7 ?_;intro i e S' hA;simp[XZ];exact hA
theorem Ki {E:EnvS}(h:EnvC v k d E):∃f g,d=[.d .i64 (E.c:Nat),f,g]/\SlAt v k f 2 (E.a.map varE)/\LstAt (NarC v k) v k g 3 E.b/\(f.B=true/\f.A=some [f])/\(g.B=true/\g.A=some [g]):=by
 obtain⟨f,g,rfl,i,j⟩:=h;exact⟨f,g,rfl,i,j,⟨i.B,i.A⟩,j.G⟩
theorem JhX {l:List (Str×Nat)}(h:SlAt v k b 2 (l.map varE)){i:Nat}(j:i<l.length):∃r q,Jo 2 b (.d .i64 (i:Nat))=some (.e r q, .a)/\ld1 (k.A r) q=some (ofL l[i].1, .a)/\ld1 (k.A r) (q+1)=some (.d .i64 (l[i].2:Nat), .a):=by
 obtain⟨r,q,m,_,_,n,c⟩:=h.I (i:=i) (by grind);have f:=c 0 (by simp[varE]);have g:=c 1 (by simp[varE]);simp[varE]at f g
 grind
theorem findD {S:St}{E:EnvS}(z:WF S)(U:EnvC v S d E)(hl:E.a.length<100000)(f:Str):
  Dz 73 [.j d,ofL f] S fun b m=>Gr S m/\b= .d .i64 (QK E f):=by
 refine Jn tabM (aT Tryz.func73 rfl) rfl z fun K h=> ?_;obtain⟨vv,nv,rfl,n,h2,W,X⟩:=Ki U;have M:=n.G;rw[XU]at M;obtain⟨Y,l⟩:=nxE S;simp only[CT,Tryz.f73,XY,simprocAttr];rw[Ja];simp[XY,l,W.1,X.1];generalize u:up 0 Y=Z;refine nm1 z l u ?_;intro S1 o _ ⟨t2,r2⟩;by_cases N:f=[]
 ·subst N;rw[Je,Ja];simp[XZ];exact h _ _ (fun r d=>o.d r d) fun _=>rfl
 have O:QK E f=match QJ E.a f with
   |some i=>(i:Int)
   |none=> -2:=by
  unfold QK KO
  grind
 rw[O]at h;clear O;have g:IntKind.i64.wrap ((E.a.length:Int)-1)=(E.a.length:Int)-1:=JV (by omega) (by omega);rw[Je,Ja];simp[XY,N];rw[Je,Ja];simp[XY,r2,M,g];refine Jy (fun j p m=>j<=E.a.length/\p 1=ofL f/\p 2= .e Z 0/\p 5= .d .i64 ((j:Int)-1)/\m=S1/\QJ E.a f=QJ (E.a.take j) f) E.a.length (by omega) ⟨Xb _,rfl,rfl,rfl,rfl,by simp⟩ ?_;rintro L hL j p m ⟨hj,w,x,s,rfl,c⟩
 cases j with
 | zero=>
   have k:¬(((0:Nat):Int)-1)≥0:=by omega
   simp[XZ,s];refine h _ _ (fun r d=>o.d r d) fun _=> ?_;rw[c];rfl
 | succ j=>
   have n:=n.H o;have k:(((j+1:Nat):Int)-1)≥0:=by omega
   have e1:(((j+1:Nat):Int)-1)=((j:Nat):Int):=by omega
   rw[e1]at s k;have g:IntKind.i64.wrap ((j:Int)-1)=(j:Int)-1:=JV (by omega) (by omega);obtain⟨r,q,Q,T,_⟩:=JhX n (i:=j) (by omega);rw[ZN,Xg (by omega)]at c;have c:QJ E.a f=QJ (E.a.take j++[E.a[j]]) f:=c;rw[Jfz,ZG,Zd (by omega)]at c;by_cases t:E.a[j].1=f
   ·rw[Xd t]at c;have y:(E.a[j].1=f)=True:=XL t;simp[XZ,w,x,s,k,r2,Q,T,y];refine h _ _ (fun r d=>o.d r d) fun _=> ?_;rw[c]
   ·rw[Xa t]at c;simp[XZ,w,x,s,k,r2,Q,T,t,g];exact⟨j,by omega,hL _ _ _ ⟨by omega,w,x,rfl,rfl,c⟩⟩
theorem Js9 {l:List Str}(h:SlAt v k b 1 (strs n))(c:SlAt q k y 1 (strs l))(Z:z<=l.length)(hl:n.length<100000):
  Dz 191 [b,y, .d .i64 (z:Nat)] k fun f t=>f= .h (decide (n=l.take z))/\k=t:=by
 refine Jl (aT Tryz.func191 rfl) rfl ?_;have w:=h.G;rw[Jw]at w;simp only[CT,Tryz.f191,XY,simprocAttr];rw[Ja];simp[XY];by_cases X:n.length=z;rotate_left
 ·have e:¬n=l.take z:=fun e=>X (by grind);have m:¬(n.length:Int)=z:=by omega
  rw[Je,Ja];simp[XZ,w,m,e]
 have m:(n.length:Int)=z:=by omega
 rw[Je,Ja];simp[XY,w,m];rw[Je,Ja];simp[XY];refine Jy (fun j s t=>∃i:Nat,j+i=z/\s 0=b/\s 1=y/\s 2= .d .i64 (z:Nat)/\s 7= .d .i64 (i:Nat)/\k=t/\decide (n=l.take z)=decide (n.drop i=(l.take z).drop i)) z (by omega) ⟨0,by omega,rfl,rfl,rfl,by rfl,rfl,rfl⟩ ?_;rintro L hL j s t ⟨i,hj,x,K,u,M,rfl,g⟩;have tl:(l.take z).length=z:=by grind
 by_cases N:i<z;rotate_left
 ·rw[Xs (by omega),Xs (by omega)]at g;simp[XZ,u,M,N,g]
 have p:=wiN (i:=i) (by omega);obtain⟨r,o,O,Q⟩:=QQ h (i:=i) (by omega);obtain⟨r',o',T,U⟩:=QQ c (i:=i) (by omega);have Y:decide (n.drop i=(l.take z).drop i)=(decide (n[i]=l[i])&&decide (n.drop (i+1)=(l.take z).drop (i+1))):=by
  rw[Xc (show i<n.length by omega),Xc (show i<(l.take z).length by omega),List.getElem_take]
  grind
 rw[Y]at g;by_cases W:n[i]=l[i]
 ·simp[XZ,x,K,u,M,N,O,Q,T,U,W,p];exact⟨z-(i+1),by omega,hL _ _ _ ⟨i+1,by omega,x,K,u,rfl,rfl,by grind⟩⟩
 ·simp[XZ,x,K,u,M,N,O,Q,T,U,W,g]
end Go.Proofs.YtmcjecniobkggaaGreat
