/- A pipeline that is a path alone. The walker over two rows. The walker at an if. Is a tr -/
import Derived.Test.YtdajkeoobbonjaaGreatQ5
set_option linter.constructorNameAsVariable false
set_option maxHeartbeats 16000000
set_option linter.unusedVariables false
set_option linter.unusedSimpArgs false
set_option linter.unusedSectionVars false
set_option maxRecDepth 100000
namespace Go.Proofs.YtdajkeoobbonjaaGreat
open Eva Go.RowKit
variable {v l:Pt->Prop}{e:List Str}{n:Tb->Cls->EnvS->List Nod->AnsR}{t:Tb->List Nat->List Nat->Nat×Int}{k q u:Nat}{z:St}{b f:List V}{d w:V}{i:EnvS}{r:Sch}{p g:Pt}{h:List Nod}{m:Tb}{j:List Nat}{a:Cls}{c:Int}
def JuH (S S':St)(x:Option (Int×List Str))(v:V):Prop:=match x with
 |some y=>∃w,v= .p [.d .i64 y.1,w, .h true]/\SlAt (fun r=>S.A r= .none) S' w 1 (strs y.2)
 |none=>v= .p [.d .i64 0, .e, .h false]
theorem JuI {E:EnvS}{p:Pipe}(hw:WF z)(hE:EnvC v z b E)(hp:PipC l z q d p)(hv:E.a.length<=100000)(hf:fitP q p):
  Dz 163 [.j b,d] z fun f S'=>Gr z S'/\JuH z S' (Yo E p) f:=by
 refine Jn tabM (aT Tryz.func163 rfl) rfl hw fun K t=> ?_;have ad:=hE;obtain⟨vv,nv,rfl,h1,h2⟩:=hE;have c1:=h1.A;have c2:=h1.B;have c3:=h2.B;obtain⟨n0,Y⟩:=nxE z;simp only[CT,Tryz.f163,XY,simprocAttr];rw[Ja];simp[XY,Y,c2,c3.1];generalize ae:up 0 n0=p4;refine nm1 hw Y ae ?_;intro S1 O ak ⟨t4,r4⟩;have Z:PipC l S1 q d p:=PipC.A hp O.H;have J:=LstAt.H Z;rw[Jd]
 cases p with
 | nil=>
   have J:J8 d=some (.d .i64 0, .a):=J;simp[XZ,J];exact t _ _ (fun r b=>O.d r b) fun _=>rfl
 |cons c pr=>
 cases pr with
 | cons c' pr=>
   have hz:¬((pr.length+2:Nat):Int)=1:=by omega
   have J:J8 d=some (.d .i64 ((pr.length+2:Nat):Int), .a):=J;have ho:Yo E (c::c'::pr)=none:=by
    cases c with
    |nil=>rfl
    |cons o r=>cases o;cases r<;>rfl
   rw[ho]at t;simp[XZ,J];exact t _ _ (fun r b=>O.d r b) fun _=>rfl
 |nil=>
 have J:J8 d=some (.d .i64 1, .a):=J;obtain⟨r1,q1,e1,U,a2,a3,a4,⟨cv,rfl,a5⟩,a6,T⟩:=LstAt.A Z (i:=0) (by simp);have U:Js 1 d (.d .i64 0)=some (.g r1 q1, .a):=U;have T:=T 0 (by simp);simp at T a5;have L:=LstAt.H a5
 cases c with
 | nil=>
   have L:J8 cv=some (.d .i64 0, .a):=L;simp[XZ,J,U,T,L];exact t _ _ (fun r b=>O.d r b) fun _=>rfl
 |cons o cr=>
 cases cr with
 | cons o' cr=>
   have hz:¬((cr.length+2:Nat):Int)=1:=by omega
   have L:J8 cv=some (.d .i64 ((cr.length+2:Nat):Int), .a):=L;have ho:Yo E [o::o'::cr]=none:=by cases o;rfl
   rw[ho]at t;simp[XZ,J,U,T,L];exact t _ _ (fun r b=>O.d r b) fun _=>rfl
 |nil=>
 have L:J8 cv=some (.d .i64 1, .a):=L;obtain⟨r2,q2,e2,b1,b2,b3,b4,b5,b6,b7⟩:=LstAt.A a5 (i:=0) (by simp);have b1:Js 7 cv (.d .i64 0)=some (.g r2 q2, .a):=b1;simp at b5
 cases q with
 |zero=>exact b5.elim
 |succ q=>
 obtain⟨k,y,u,sx,n,m,pp⟩:=o;obtain⟨af,qv,rfl,W,hq⟩:=b5;have X:=b7 0 (by simp);simp at X;by_cases hk:k=1;rotate_left
 ·have:Yo E [[.mk k y u sx n m pp]]=none:=Xa hk;rw[this]at t;simp[XZ,J,U,T,L,b1,X,hk];exact t _ _ (fun r b=>O.d r b) fun _=>rfl
 have ag:Yo E [[.mk k y u sx n m pp]]=(Qh E y).map fun f=>(f,u):=Xe hk;rw[ag]at t;subst hk;have d1:=W.A;have d2:=W.B;have d3:=hq.B.2;have d4:=hq.B.1;obtain⟨n1,aa⟩:=nxE S1;rw[Ja];simp[XY,J,U,T,L,b1,X];rw[Ja];simp[XY,U,T,b1,b4,aa,d2,d4];generalize ah:up 0 n1=p7;refine nmA O.D aa ah ?_;intro S2 G2 al ⟨t7,r7⟩;have ai:=G2.B r4;have M:=O.A G2;have aj:EnvC v S2 [.d .i64 (E.c:Nat),vv,nv] E:=ad.A M.H;rw[Ja];simp[XY,ai,r7];refine Je (JbT (Q:=fun f S'=>f=JaM E y/\S2=S') (aH (k:=183) rfl) (JfP aj hv y) ⟨rfl,rfl⟩) ?_;rintro _ _ ⟨rfl,rfl⟩
 cases N:Qh E y with
 | none=>
   rw[N]at t;simp only[JaM,N,XZ,simprocAttr];exact t _ _ (fun r b=>M.d r b) fun _=>rfl
 |some x=>
 rw[N]at t;simp only[JaM,N,XY,simprocAttr];rw[Jd,Ja];simp[XY];rw[Ja];simp[XY,r7];have ab:SlAt l S2 af 1 (strs u):=W.I G2;refine Je (Jdu (.inr rfl) (Q:=fun r=>S2.A r= .none) G2.D ab (Ya _) (by have:=(hf.2 _ (Xu ..)).2 _ (Xu ..);have:=this.1;rw[Jv];omega) (fun _ h=>h)) ?_;rintro w S3 ⟨G3,w3⟩;simp[XZ];exact t _ _ (fun r b=>(M.A G3).d r b) fun g=>⟨_,rfl,w3.D fun r p s=>⟨M.I p,rfl⟩⟩
def AnsX (U:Pt->Prop)(S:St)(w rt:Pt)(nv:V)(names:List Str)(a:Int)(x:AnsR)(v:V)(S':St):Prop:=∃U',RunW U S S' U'/\WkU S' U' w rt x.1 nv names x.2.1 (if x.2.2.1=0 then a else x.2.2.2)/\v= .d .i64 x.2.2.1
def RowH (s:Sch)(names:List Str)(m d:Nat)(row:Tb->Cls->EnvS->List Nod->AnsR):Prop:=∀(S:St) (U:Pt->Prop) (w rt:Pt) (tb:Tb) (nv:V) (cs:Cls) (a:Int) (e:List V) (E:EnvS) (lv:V) (l:List Nod),WkU S U w rt tb nv names cs a->OfF s tb->EnvC (fun r=>¬U r) S e E->EnvR tb E (sizL d l)->NodsC (fun r=>¬U r) S m d lv l->fitL (fitP m) d l->cs.length+sizL d l<100000->
 Dz 44 [.g w 0, .j e,lv] S (AnsX U S w rt nv names a (row tb cs E l))
theorem _root_.Eva.NodsC.B {f:St}(c:Kept z v f l)(e:NodsC (fun r=>¬v r) z k q d h):NodsC (fun r=>¬l r) f k q d h:=NodsC.A e fun r a b=>⟨(c r b a).2,(c r b a).1⟩
theorem Qk {E:EnvS}(h:EnvC v z b E):∃a c d,b=[a,c,d]/\(a.B=true/\a.A=some [a])/\(c.B=true/\c.A=some [c])/\(d.B=true/\d.A=some [d]):=by
 obtain⟨i,j,rfl,f,g⟩:=h;exact⟨_,_,_,rfl,⟨rfl,rfl⟩,⟨f.B,f.A⟩,g.B⟩
theorem JsV {names:List Str}(H:RowH r names k q n)(F:RowF r (fitP k) q n){P:EnvS}{T:V}{o:List Nod}(W:WkU z v p g m d names a c)(hO:OfF r m)
  (h1:EnvC (fun l=>¬v l) z b i) (h2:EnvC (fun l=>¬v l) z f P) (k1:EnvR m i (sizL q h)) (k2:EnvR m P (sizL q o)) (n1:NodsC (fun l=>¬v l) z k q w h) (n2:NodsC (fun l=>¬v l) z k q T o) (f1:fitL (fitP k) q h) (f2:fitL (fitP k) q o) (hc:a.length+(sizL q h+sizL q o)<100000):
  Dz 134 [.g p 0, .j b,w, .j f,T] z (AnsX v z p g d names c (Q6 n m a i h P o)):=by
 have hw:=W.I;refine Jl (aT Tryz.func134 rfl) rfl ?_;obtain⟨x0,x1,x2,rfl,a0,a1,a2⟩:=Qk h1;obtain⟨y0,y1,y2,rfl,b0,b1,b2⟩:=Qk h2;obtain⟨n0,K⟩:=nxE z;simp only[CT,Tryz.f134,XY,simprocAttr];rw[Ja];simp[XY,K,a0.1,a1.1,a2.1,b0.1,b1.1,b2.1];generalize X:up 0 n0=p6;generalize Y:up 1 n0=p8;refine nm2 hw K X Y ?_;intro S1 Z ae aa af ⟨t6,r6⟩ ⟨t8,r8⟩;have K1:Kept z v S1 v:=(RunW.G Z).F;have W1:=W.G Z;rw[Jd,Ja];simp[XY,r6];refine Je (H S1 v p g m d a c _ i w h W1 hO (h1.B K1) k1 (n1.B K1) f1 (by omega)) ?_;rintro _ S2 ⟨U2,R2,L,rfl⟩;have Q:=F m a i h hO k1 f1;unfold Q6;generalize n m a i h=x at Q L⊢;obtain⟨u,M,e,a'⟩:=x;have N:m.a.length<=u.a.length:=Q.g;have ab:M.length<=a.length+sizL q h:=Q.f;have y:OfF r u:=Q.d;simp at L⊢;have J:=(RunW.G Z).A R2;by_cases t:e=0;rotate_left
 ·rw[Xa t]at L;simp only[Xe t,XZ,simprocAttr,t];exact⟨U2,J,by grind,rfl⟩
 subst t;simp at L;have u8:¬v p8:=W.A aa;have ad:=((R2.F p8 (Jb r8) u8).1).trans r8;have O:=J.F;simp[XY];rw[Ja];simp[XY];rw[Ja];simp[XY,ad];refine Je (H S2 U2 p g u d M c _ P T o L y (h2.B O) (k2.A N (Xb _)) (n2.B O) f2 (by omega)) ?_;rintro _ S3 ⟨U3,R3,W3,rfl⟩;simp[XZ];exact⟨U3,J.A R3,W3,rfl⟩
theorem JuJ {names:List Str}(H:RowH r names k q n)(F:RowF r (fitP k) q n)(hq:∀o E x Z,fitP k o->Yo E o=some (x,Z)->Z.length<100000){cs:Cls}{E:EnvS}{L:Nod}{id:Nat}(hW:WkU z v p g m d names cs (-1))(hO:OfF r m)(hid:id<m.a.length)
  (hE:EnvC (fun Q=>¬v Q) z b E) (hK:EnvR m E (sizN (q+1) L)) (hn:NodC (fun Q=>¬v Q) z k (q+1) f L) (hf:fitN (fitP k) (q+1) L) (hc:cs.length+sizN (q+1) L<100000) (hk:L.k=5):
  Dz 133 [.g p 0, .j b, .j f, .d .i64 (id:Nat)] z (AnsX v z p g d names (-1) (oneS n names m cs E id L)):=by
 have hw:=hW.I;refine Jl (aT Tryz.func133 rfl) rfl ?_;obtain⟨T,at_,sx,nm,pp,Y,aa,he,cases⟩:=L;have hk:T=5:=hk;subst hk;have ae:=hE;obtain⟨x0,x1,x2,rfl,a0,a1,a2⟩:=Qk hE;obtain⟨pv,bv,ev,xv,rfl,y1,y2,y3,y4⟩:=hn;have c4:=LstAt.B y1;have c5:=y2.B;have c6:=y3.B;have c7:=y4.B;obtain⟨n0,aq⟩:=nxE z;simp only[CT,Tryz.f133,XY,simprocAttr];rw[Ja];simp[XY,aq,a0.1,a1.1,a2.1,c4.1,c5.1,c6.1,c7.1];generalize a5:up 0 n0=p5;generalize a6:up 1 n0=p6;refine nm2 hw aq a5 a6 ?_;intro S1 G1 bn bo bp ⟨t5,r5⟩ ⟨t6,r6⟩;rw[Ja];simp[XY];refine Je (nodW (hW.G G1) hO hid) ?_;rintro _ S2 ⟨G2,kx,ky,rfl,ar,ah⟩;obtain⟨_,_,_,_,o5,o6⟩:=hO.F hid;have b1:=ar.A;have b2:=ar.B;have b3:=ah.A;have b4:=ah.B;obtain⟨n2,au⟩:=nxE S2;simp[XY,au,b2,b4];generalize a7:up 0 n2=p9;refine nmA G2.D au a7 ?_;intro S3 G3 bq ⟨t9,r9⟩;have ai:=G3.B (G2.B r5);obtain⟨n3,av⟩:=nxE S3;rw[Ja];simp[XY,ai,av,a0.1,a1.1,a2.1];generalize a8:up 0 n3=pA;refine nmA G3.D av a8 ?_;intro S4 G4 a9 ⟨tA,rA⟩;have aw:=G4.B r9;rw[Jd,Ja];simp[XY,aw];have ab:=(G1.A (G2.A (G3.A G4)))
 have aj:=G4.B ai;have ak:=G4.B (G3.B (G2.B r6));have ba:sizN (q+1) (.mk 5 at_ sx nm pp Y aa he cases)=1+sizL q Y+sizL q aa+(cases.map fun c=>sizL q c.2).sum:=rfl;rw[ba]at hK hc;obtain⟨f1,_,f3,f4,_⟩:=hf;have f3:fitL (fitP k) q Y:=f3;have f4:fitL (fitP k) q aa:=f4;have ho:oneS n names m cs E id (.mk 5 at_ sx nm pp Y aa he cases)=(if(Jm m id).a=6 then match Yo E pp with
    |some (x,Z)=>Q6 n m cs (Qe E (x,Z,(Jm m id).c.getD 0 0)) Y E aa
    |none=>Q6 n m cs E Y E aa
   else if(Jm m id).a=1 then Q6 n m cs E Y E aa
   else(m,cs,17,-1)):=rfl
 rw[ho];generalize Jm m id=N at*;refine Ju (fun fr S'=>fr 0= .g p 0/\fr 5= .g p5 0/\fr 6= .g p6 0/\fr 10= .g pA 0/\∃(e1:List V) (E1:EnvS) (t:Nat),Ch0 z S'/\S'.A p5= .a t5 [x0,x1,x2]/\S'.A p6= .a t6 [.d .i64 5, .d .i64 at_,ofL sx,ofL nm,pv,bv,ev, .h he,xv]/\S'.A pA= .a t e1/\EnvC (fun Q=>¬v Q) S' e1 E1/\EnvR m E1 (sizL q Y)/\(if N.a=6 then match Yo E pp with
    |some (x,Z)=>Q6 n m cs (Qe E (x,Z,N.c.getD 0 0)) Y E aa
    |none=>Q6 n m cs E Y E aa
   else if N.a=1 then Q6 n m cs E Y E aa
   else(m,cs,17,-1))=Q6 n m cs E1 Y E aa) (fun J hJ=> ?_) ?_
 rotate_left
 ·rintro fr S5 ⟨g0,g5,g6,bb,e1,E1,t,C5,s5,s6,sA,k1,k2,ax⟩;rw[ax];obtain⟨z0,z1,z2,rfl,_⟩:=Qk k1;have R5:RunW v z S5 v:=RunW.K C5;have K5:=R5.F;rw[Ja,Ja];simp[XY,g0,g5,g6,bb,s5,s6,sA];refine Je (JsV H F (hW.O C5) hO k1 (ae.B K5) k2 (hK.A (Xb _) (by omega)) (NodsC.B K5 y2) (NodsC.B K5 y3) f3 f4 (by omega)) ?_;rintro _ S6 ⟨U6,R6,W6,rfl⟩;simp[XZ];exact⟨U6,R5.A R6,W6,rfl⟩
 have ay:EnvC (fun Q=>¬v Q) S4 [x0,x1,x2] E:=ae.A ab.H;by_cases h6:N.a=6;rotate_left
 ·rw[Xa h6]at hJ⊢;by_cases h1:N.a=1
  ·rw[Xe h1]at hJ;simp[XZ,h1];exact hJ _ _ ⟨rfl,rfl,rfl,rfl,_,E,tA,Ch.H _ ab,aj,ak,rA,ay,hK.A (Xb _) (by omega),rfl⟩
  ·rw[Xa h1];simp[XZ,h6,h1];exact⟨v,RunW.G ab,hW.G ab,rfl⟩
 rw[Xe h6]at hJ⊢;simp[XY];rw[Jd];simp[XY];rw[Jd,Jd,Ja];simp[XY,h6];rw[Ja];simp[XY,aj,ak];refine Je (JuI G4.D ay (PipC.A y1 ab.H) (by have:=hK.v;omega) f1) ?_;rintro x S5 ⟨G5,ov⟩;have ad:=ab.A G5;have al:=G5.B aj;have az:=G5.B ak;have bc:=G5.B aw;have am:=G5.B rA;have bd:EnvC (fun Q=>¬v Q) S5 [x0,x1,x2] E:=ae.A ad.H
 cases af:Yo E pp with
 | none=>
   rw[af]at ov hJ;have ov:x= .p [.d .i64 0, .e, .h false]:=ov;subst ov;simp[XY];rw[Ja];simp[XZ];exact hJ _ _ ⟨rfl,rfl,rfl,rfl,_,E,tA,Ch.H _ ad,al,az,am,bd,hK.A (Xb _) (by omega),rfl⟩
 |some y=>
 obtain⟨yv,Z⟩:=y;rw[af]at ov hJ;obtain⟨wv,rfl,wp⟩:=ov;have be:=wp.A;have br:=wp.B;have kl:N.c.length=1:=by rw[o5.a,h6];rfl
 have a3:=ah.I (G3.A (G4.A G5));have ll:=a3.G;rw[JP,kl]at ll;have ll:J8 ky=some (.d .i64 1, .a):=ll;obtain⟨W,oo,e1,e2,e3,e4⟩:=SlAt.M (xs:=N.c.map fun L:Nat=>V.d .i64 (L:Int)) (i:=0) a3 (by simp[kl]);have e1:Js 1 ky (.d .i64 0)=some (.g W oo, .a):=e1;have e4:ld1 (S5.A W) oo=some (.d .i64 (N.c.getD 0 0:Nat), .a):=by grind
 simp[XY];rw[Ja];simp[XY,bc,ll,e1,e4,al,be];have a4:NarC (fun Q=>S4.A Q= .none) S5 [.d .i64 yv,wv, .d .i64 (N.c.getD 0 0:Nat)] (yv,Z,N.c.getD 0 0):=⟨wv,rfl,wp⟩
 have bf:z.A pA= .none:=Ch.B (Ch.H (fun _=>False) (G1.A (G2.A G3))) a9;have bg:NarC (fun Q=>¬v Q/\Q≠pA) {S5 with a:=S5.t} [.d .i64 yv,wv, .d .i64 (N.c.getD 0 0:Nat)] (yv,Z,N.c.getD 0 0):=a4.A fun Q a X=>⟨⟨hW.A (ab.I a),fun b=>Jb rA (by grind)⟩,rfl⟩
 have bh:EnvC (fun Q=>¬v Q/\Q≠pA) {S5 with a:=S5.t} [x0,x1,x2] E:=ae.A fun Q a X=>⟨⟨a,fun b=>X (by grind)⟩,ad.d Q X⟩
 refine Ji (P:=fun x S'=>∃e',x= .j e'/\EnvC (fun Q=>(¬v Q/\Q≠pA)\/S5.A Q= .none) S' e' (Qe E (yv,Z,N.c.getD 0 0))) (JrT (Jq G5.D _) bh bg (by have:=hK.n;omega)) ?_;rintro _ S6 G6 ⟨e',rfl,ag⟩;have ag:EnvC (fun Q=>¬v Q/\Q≠pA) S6 e' (Qe E (yv,Z,N.c.getD 0 0)):=ag.A fun Q a X=>⟨by
  rcases a with a|a
  ·exact a
  ·exact⟨hW.A (ad.I a),fun b=>Jb am (by grind)⟩,rfl⟩
 have ao:=ag;obtain⟨u0,u1,u2,rfl,v0,v1,v2⟩:=Qk ag;have ap:=G6.B am;simp[XZ,ap,v0.1,v1.1,v2.1];have bi:=ad.A G6;have bj:=G6.B al;have bk:=G6.B az;have dp:∀{o:Pt} {t:Nat} {l:List V},S4.A o= .a t l->S3.A o≠ .none->o≠pA:=fun h T b=>T (by grind);have bl:p5≠pA:=fun b=>Jb ai (by grind);have bm:p6≠pA:=fun b=>Jb (G3.B (G2.B r6)) (by grind);have CA:Ch0 z (S6.D pA tA fun u=>Row.a u [u0,u1,u2]):=Ch0.A (Ch.H _ bi) bf ((Ch.G _ G6.D).J (Jb ap) (by rw[ap];rfl) (.inl rfl) (Jc _));refine hJ _ _ ⟨rfl,rfl,rfl,rfl,_,_,_,CA,by rw[Jj _ _ _ bl];exact bj,by rw[Jj _ _ _ bm];exact bk,Jh _ _ _ _,ao.A fun Q a X=>⟨a.1,by rw[Jj _ _ _ a.2]⟩,(hK.A (Xb _) (b':=sizL q Y+1) (by omega)).G ⟨JpY af,hq _ _ _ _ f1 af,o6 _ (by grind)⟩,rfl⟩
def ju (l:List Bool):List (List V):=(l.map V.h).map fun x=>[x]
theorem Jbf (l:List Bool):(ju l).length=l.length:=by simp[ju]
theorem JrV {l:List Bool}(h:SlAt v z d 1 (ju l))(y:l.length<100000):Dz 187 [d, .h false] z fun u m=>(∃i:Int,u= .d .i64 i/\decide (i≥0)=decide (false∈l))/\z=m:=by
 refine Jl (aT Tryz.func187 rfl) rfl ?_;have c:=h.G;rw[Jbf]at c;simp only[CT,Tryz.f187,XY,simprocAttr];rw[Ja];simp[XY];rw[Jd,Ja];simp[XY,c];refine Jo (fun j g m=>∃i:Nat,j+i=l.length/\g 0=d/\g 1= .h false/\g 7= .d .i64 (l.length:Nat)/\g 8= .d .i64 (i:Nat)/\z=m/\(false∈l<->false∈l.drop i)) l.length (by omega) ⟨0,by omega,rfl,rfl,rfl,by rfl,rfl,by simp⟩ ?_;rintro L hL j g m ⟨i,J,p,q,n,s,rfl,a⟩;by_cases x:i<l.length;rotate_left
 ·have b:¬(i:Int)<l.length:=by omega
  rw[XB (by omega)]at a;have a:¬false∈l:=fun e=>by grind
  simp only[XZ,simprocAttr,n,s,b]
  grind
 have b:(i:Int)<l.length:=by omega
 have f:=wiN (i:=i) (by omega);obtain⟨r,o,t,_,_,k⟩:=SlAt.M (xs:=l.map V.h) h (i:=i) (by grind);rw[X6]at k;rw[Xc x,Xq]at a
 cases w:l[i]with
 | false=>
   rw[w]at k a;have a:false∈l:=a.2 (.inl rfl);simp only[XZ,simprocAttr,p,q,n,s,b,t,k]
   grind
 | true=>
   rw[w]at k a;simp[XZ,p,q,n,s,b,t,k,f];exact⟨l.length-(i+1),by omega,hL _ _ _ ⟨i+1,by omega,p,q,n,rfl,rfl,by grind⟩⟩
theorem JlB {l:List Bool}(h:SlAt v z d 1 (ju l))(a:l.length<100000):Dz 169 [d, .h false] z fun u b=>u= .h (decide (false∈l))/\z=b:=by
 refine Jl (aT Tryz.func169 rfl) rfl ?_;simp only[CT,Tryz.f169,XZ,simprocAttr];refine Je (JrV h a) ?_;rintro _ _ ⟨⟨i,rfl,c⟩,rfl⟩;simp[XZ,c]
theorem JtQ {names:List Str}{ae:Tb->Cls->EnvS->List Nod->AnsR}(H:RowH r names k q ae)(F:RowF r (fitP k) q ae)(hq:∀l E o ax,fitP k l->Yo E l=some (o,ax)->ax.length<100000){cs:Cls}{E:EnvS}{n:Nod}{id:Nat}(hW:WkU z v p g m d names cs (-1))(hO:OfF r m)(hid:id<m.a.length)
  (hE:EnvC (fun u=>¬v u) z b E) (hK:EnvR m E (sizN (q+1) n)) (hn:NodC (fun u=>¬v u) z k (q+1) f n) (hf:fitN (fitP k) (q+1) n) (hc:cs.length+sizN (q+1) n<100000) (hk:n.k=8):
  Dz 136 [.g p 0, .j b, .j f, .d .i64 (id:Nat)] z (AnsX v z p g d names (-1) (oneS ae names m cs E id n)):=by
 have hw:=hW.I;refine Jl (aT Tryz.func136 rfl) rfl ?_;obtain⟨O,at_,sx,nm,pp,ay,ai,he,cases⟩:=n;have hk:O=8:=hk;subst hk;have bj:=hE;obtain⟨x0,x1,x2,rfl,a0,a1,a2⟩:=Qk hE;obtain⟨pv,bv,ev,xv,rfl,y1,y2,y3,y4⟩:=hn;have c4:=LstAt.B y1;have c5:=y2.B;have c6:=y3.B;have c7:=y4.B;obtain⟨n0,bk⟩:=nxE z;simp only[CT,Tryz.f136,XY,simprocAttr];rw[Ja];simp[XY,bk,a0.1,a1.1,a2.1,c4.1,c5.1,c6.1,c7.1];generalize cl:up 0 n0=p5;generalize cm:up 1 n0=p6;refine nm2 hw bk cl cm ?_;intro S1 G1 cn co dr ⟨t5,r5⟩ ⟨t6,r6⟩;rw[Ja];simp[XY];refine Je (nodW (hW.G G1) hO hid) ?_;rintro _ S2 ⟨G2,kx,ky,rfl,a3,a4⟩;obtain⟨_,_,_,_,o5,o6⟩:=hO.F hid;have b1:=a3.A;have b2:=a3.B;have b3:=a4.A;have b4:=a4.B;obtain⟨n2,bl⟩:=nxE S2;simp[XY,bl,b2,b4];generalize cp:up 0 n2=p9;refine nmA G2.D bl cp ?_;intro S3 G3 cq ⟨t9,r9⟩;have bm:=G3.B (G2.B r5);have bn:=G3.B (G2.B r6);have ap:=G1.A (G2.A G3);have cr:sizN (q+1) (.mk 8 at_ sx nm pp ay ai he cases)=1+sizL q ay+sizL q ai+(cases.map fun c=>sizL q c.2).sum:=rfl;rw[cr]at hK hc;obtain⟨f1,_,f3,f4,f5⟩:=hf;have f4:fitL (fitP k) q ai:=f4;have z2:¬(8:Int)=2:=by decide
 have z4:¬(8:Int)=4:=by decide
 have z5:¬(8:Int)=5:=by decide
 have z6:¬(8:Int)=6:=by decide
 have z7:¬(8:Int)=7:=by decide
 unfold oneS;simp only[Xa z2,Xa z4,Xa z5,Xa z6,Xa z7,ZS];generalize Jm m id=N at*;by_cases h8:N.a=8;rotate_left
 ·rw[Xa h8];rw[Jd];simp[XZ,r9,h8];exact⟨v,RunW.G ap,hW.G ap,rfl⟩
 rw[Xe h8];have bo:=a3.I G3;have bp:=a4.I G3;have bq:=bo.G;rw[Jv]at bq;have ds:=o5.b;have kl:N.c.length=N.b.length:=by rw[o5.a,h8];rfl
 obtain⟨n3,br⟩:=nxE S3;have ct:=Jln (st:=S3) (d:=[.h false]) (z:=1) (n:=N.b.length) (by omega) rfl;rw[Jd];simp[XY];rw[Ja];simp[XY,r9,h8];rw[Ja];simp[XY,r9,bq,ct,br];generalize cu:up 0 n3=pA;refine nm1 G3.D br cu ?_;intro S4 G4 cw ⟨tA,rA⟩;have bt:=ap.A G4;have aq:=G4.B bm;have a5:=G4.B bn;have ar:=G4.B r9;have cx:z.A pA= .none:=ap.I cw;refine Ju (fun fr S'=>fr 0= .g p 0/\fr 5= .g p5 0/\fr 6= .g p6 0/\fr 10= .m pA 0 N.b.length 1 N.b.length/\∃(U':Pt->Prop) (aa:Tb) (ab:Cls) (Z:List Nat) (t:Nat),RunW v z S' U'/\WkU S' U' p g aa d names ab (-1)/\OfF r aa/\m.a.length<=aa.a.length/\ab.length<=cs.length+(cases.map fun c=>sizL q c.2).sum/\S'.A p5= .a t5 [x0,x1,x2]/\S'.A p6= .a t6 [.d .i64 8, .d .i64 at_,ofL sx,ofL nm,pv,bv,ev, .h he,xv]/\S'.A pA= .a t (ju (wasB N.b.length Z)).flatten/\Z.Nodup/\(∀i∈Z,i<N.b.length)/\Jam ae E N m cs [] cases=((aa,ab,0,-1),Z)) (fun J hJ=> ?_) ?_;rotate_left
 ·rintro fr S5 ⟨g0,g5,g6,af,U',aa,ab,Z,t,R5,W5,aj,ak,ag,s5,s6,sA,au,a6,bu⟩;rw[bu];have a7:SlAt (fun _=>True) S5 (.m pA 0 N.b.length 1 N.b.length) 1 (ju (wasB N.b.length Z)):=by
   have hl:(ju (wasB N.b.length Z)).length=N.b.length:=by rw[Jbf,qD]
   have:=SlAt.J (P:=fun _=>True) (z:=1) sA trivial fun b he=>by
    obtain⟨x,_,rfl⟩:=Xz.1 he;rfl
   grind
  rw[Jd,Ja];simp[XY,af];refine Je (JlB a7 (by rw[qD];omega)) ?_;rintro _ _ ⟨rfl,rfl⟩;rw[Jlo au a6];have K5:=R5.F;have az:∀S6,(S6=S5)->Dz 44 [.g p 0, .j [x0,x1,x2],ev] S5 (AnsX U' S5 p g d names (-1) (ae aa ab E ai)):=fun _ _=>H S5 U' p g aa d ab (-1) _ E ev ai W5 aj (bj.B K5) (hK.A ak (by omega)) (NodsC.B K5 y3) f4 (by omega);by_cases c1:Z.length<N.b.length
  ·cases he with
   | false=>
     simp[XZ,g6,s6,Xp c1];simp[c1];exact⟨U',R5,W5,rfl⟩
   | true=>
     simp[XY,g6,s6,Xp c1];rw[Ja];simp[XY,g0,g5,g6,s5,s6];refine Je (az _ rfl) ?_;rintro _ S6 ⟨U6,R6,W6,rfl⟩;simp[XZ];exact⟨U6,R5.A R6,by omega,by rfl⟩
  ·simp[XY,Xv c1];rw[Ja];simp[XY,g0,g5,g6,s5,s6];refine Je (az _ rfl) ?_;rintro _ S6 ⟨U6,R6,W6,rfl⟩;simp[XZ];exact⟨U6,R5.A R6,by grind,by simp[c1]⟩
 have lc:=y4.H;have u6:=c7;have cy:LstAt (CasC (NodC (fun u=>¬v u) z k q) (fun u=>¬v u) z) (fun u=>¬v u) z xv 2 cases:=y4;rw[Ja];simp[XY,a5,lc];have c0:S4.A pA= .a tA (ju (wasB N.b.length [])).flatten:=by
  rw[rA,JpZ];simp[ju]
 obtain⟨dt,c2⟩:=f5;refine Jo (fun Q fr S'=>fr 0= .g p 0/\fr 5= .g p5 0/\fr 6= .g p6 0/\fr 9= .g p9 0/\fr 10= .m pA 0 N.b.length 1 N.b.length/\fr 26=xv/\fr 27= .d .i64 (cases.length:Nat)/\∃(i:Nat) (U':Pt->Prop) (aa:Tb) (ab:Cls) (Z:List Nat) (t:Nat),Q+i=cases.length/\fr 28= .d .i64 (i:Nat)/\RunW v z S' U'/\WkU S' U' p g aa d names ab (-1)/\OfF r aa/\m.a.length<=aa.a.length/\ab.length+((cases.drop i).map fun c=>sizL q c.2).sum<=cs.length+(cases.map fun c=>sizL q c.2).sum/\(∀u,S4.A u≠ .none->¬v u->u≠pA->S'.A u=S4.A u/\¬U' u)/\¬U' pA/\S'.A pA= .a t (ju (wasB N.b.length Z)).flatten/\Z.Nodup/\(∀i∈Z,i<N.b.length)/\Jam ae E N m cs [] cases=Jam ae E N aa ab Z (cases.drop i)) cases.length (by omega) ⟨rfl,rfl,rfl,rfl,rfl,rfl,rfl,0,v,m,cs,[],tA,by omega,by rfl,RunW.G bt,hW.G bt,hO,Xb _,by simp,fun u a T c=>⟨rfl,T⟩,hW.A cx,c0,Gp,fun i a=>by(cases a),by rfl⟩ ?_;rintro L hL Q fr S5 ⟨g0,g5,g6,g9,af,bw,a8,i,U',aa,ab,Z,t,du,av,R5,W5,aj,ak,ag,K5,bx,sA,au,a6,Y⟩;have bz:p5≠pA:=fun b=>Jb bm (by grind);have c3:p6≠pA:=fun b=>Jb bn (by grind);have b0:p9≠pA:=fun b=>Jb r9 (by grind);have u5:¬v p5:=hW.A cn;have u6:¬v p6:=hW.A co;have u9:¬v p9:=hW.A ((G1.A G2).I cq);have s5:=(K5 p5 (Jb aq) u5 bz).1.trans aq;have s6:=(K5 p6 (Jb a5) u6 c3).1.trans a5;have s9:=(K5 p9 (Jb ar) u9 b0).1.trans ar;by_cases hi:i<cases.length;rotate_left
 ·rw[XB (by omega)]at Y ag;simp[XZ,a8,av,hi];exact hJ _ _ ⟨g0,g5,g6,af,U',aa,ab,Z,t,R5,W5,aj,ak,by omega,s5,s6,sA,au,a6,Y⟩
 have c8:(i:Int)<cases.length:=by omega
 have ba:=wiN (i:=i) (by omega);have Kp:=R5.F;have bb:∀u,¬v u->z.A u≠ .none->(¬U' u/\u≠pA)/\S5.A u=z.A u:=fun u a T=>⟨⟨(Kp u T a).2,fun b=>T (by grind)⟩,(Kp u T a).1⟩
 have da:LstAt (CasC (NodC (fun u=>¬U' u/\u≠pA) S5 k q) (fun u=>¬U' u/\u≠pA) S5) (fun u=>¬U' u/\u≠pA) S5 xv 2 cases:=LstAt.G cy (fun _ _ h=>CasC.A h (fun _ _ h=>NodC.A bb h) bb) bb;obtain⟨r1,q1,e1,db,dv,dw,dc,⟨cv,rfl,b5⟩,dx,dy⟩:=da.A hi;have cc:=LstAt.B b5;have al:∀u,S1.A u= .none->S3.A u≠ .none->S5.A u=S3.A u:=fun u a T=>by
  rw[(K5 u (by rw[G4.d u T];exact T) (hW.A (G1.I a)) fun b=>T (by grind)).1,G4.d u T]
 have dd:SlAt (fun u=>S1.A u= .none) S5 kx 1 (strs N.b):=bo.D fun u a T=>⟨a,al u a T⟩
 have de:SlAt (fun u=>S1.A u= .none) S5 ky 1 (ints N.c):=bp.D fun u a T=>⟨a,al u a T⟩
 obtain⟨n5,b6⟩:=nxE S5;rw[Ja];simp only[XY,simprocAttr,a8,av];rw[Jd];simp only[XY,simprocAttr,c8];rw[Jd];simp only[XY,simprocAttr];rw[Ja];simp[XY,bw,av,db,dc,b6,cc.1];generalize df:up 0 n5=pC;refine nmA W5.I b6 df ?_;intro S6 G6 dz ⟨tC,rC⟩;rw[Ja];simp[XY,g9,G6.B s9,rC];refine Je (Jlz (dd.I G6) (by omega)) ?_;rintro _ _ ⟨rfl,rfl⟩;simp[XY];have b7:=G6.B s9;have bc:=(de.I G6).G;rw[JP,kl]at bc;have dg:cases.drop i=cases[i]::cases.drop (i+1):=Xc hi;rw[dg]at Y ag;have b8:=c2 cases[i] (Xh hi);have d0:sizL q cases[i].2<=(cases.map fun c=>sizL q c.2).sum:=Jp1 (fun c:Str×List Nod=>sizL q c.2) (Xh hi);generalize cases[i]=cz at*;obtain⟨be,bd⟩:=cz;rw[Jam]at Y;have R6:=R5.J G6;have W6:=W5.G G6
 cases am:fstN be N.b with
 | none=>
   rw[am]at Y;rw[Y];have ah:idxV be N.b= -1:=by unfold idxV;rw[am]
   have d1:(-1:Int)<0:=by omega
   rw[Jd];simp[XZ,ah];exact⟨U',R6,W6,rfl⟩
 |some i'=>
 have ah:idxV be N.b=(i':Int):=by unfold idxV;rw[am]
 have b9:=Jih am;have a7:SlAt (fun _=>True) S6 (.m pA 0 N.b.length 1 N.b.length) 1 (ju (wasB N.b.length Z)):=by
  have hl:(ju (wasB N.b.length Z)).length=N.b.length:=by rw[Jbf,qD]
  have:=SlAt.J (P:=fun _=>True) (z:=1) (G6.B sA) trivial fun b he=>by
   obtain⟨x,_,rfl⟩:=Xz.1 he;rfl
  grind
 obtain⟨rb,ob,w1,_,_,w4⟩:=SlAt.M (xs:=(wasB N.b.length Z).map V.h) a7 (i:=i') (by simpa[qD]using b9);rw[X6,Jig]at w4;have h0:¬(i':Int)<0:=by omega
 have ca:¬(i':Int)≥(N.b.length:Int):=by omega
 rw[am]at Y;simp only at Y;by_cases ao:i'∈Z
 ·rw[Xe ao]at Y;rw[Y];rw[Xp ao]at w4;rw[Jd];simp[XZ,ah,h0,g9,b7,bc,ca,af,w1,w4];exact⟨U',R6,W6,rfl⟩
 rw[Xa ao]at Y;rw[Xv ao]at w4;rw[Jd,Ja];simp[XY,ah,h0,g9,b7,bc,ca,af,w1,w4];have cb:=G6.B sA;have cd:(i':Int)<(N.b.length:Int):=by omega
 have ce:i'+1<=(ju (wasB N.b.length Z)).flatten.length:=by
  have:(ju (wasB N.b.length Z)).flatten.length=N.b.length:=by
   rw[Jp (z:=1) fun b he=>by
    obtain⟨x,_,rfl⟩:=Xz.1 he;rfl,Jbf,qD,ZM]
  omega
 rw[Ja];simp only[XY,simprocAttr,af,cd,cb];refine⟨by omega,ce, ?_⟩;have cf:=Jii (was:=Z) b9;rw[JK]at cf;refine nmW G6.D cb ?_;intro S7 C7 ⟨tB,rB⟩;have rB:S7.A pA= .a tB (ju (wasB N.b.length (i'::Z))).flatten:=rB.trans (congrArg _ cf);have dh:pC≠pA:=fun b=>Jb sA (by grind);have bf:Ch (fun u=>u=pA) S5 S7:=(Ch.H (fun u=>u=pA) G6).A C7 fun u b=> .inl b;have aw:∀u,z.A u≠ .none->¬v u->S7.A u=z.A u/\¬U' u:=fun u a T=>by
  have O:=Kp u a T;refine⟨?_,O.2⟩;rw[bf.d u (by grind) fun b=>a (by grind),O.1]
 have ad:∀u,S4.A u≠ .none->¬v u->u≠pA->S7.A u=S4.A u:=fun u a T c=>by
  rw[bf.d u (by grind) c,(K5 u a T c).1]
 have di:=(ad p5 (Jb aq) u5 bz).trans aq;have dj:=(ad p9 (Jb ar) u9 b0).trans ar;have dk:=(C7.d pC (Jb rC) dh).trans rC;have dl:SlAt (fun u=>S1.A u= .none) S7 ky 1 (ints N.c):=bp.D fun u a T=>⟨a,by
  rw[ad u (by rw[G4.d u T];exact T) (hW.A (G1.I a)) fun b=>T (by grind),G4.d u T]⟩
 have W7:WkU S7 U' p g aa d names ab (-1):=W6.K C7 bx (hW.j.D fun u a T=>⟨(aw u T a).2,(aw u T a).1⟩);have dm:EnvC (fun u=>¬U' u) S7 [x0,x1,x2] E:=bj.A fun u a T=>⟨(aw u T a).2,(aw u T a).1⟩
 obtain⟨qk,ok,m1,_,_,m4⟩:=SlAt.M (xs:=N.c.map fun n:Nat=>V.d .i64 (n:Int)) (i:=i') dl (by grind);have m4:ld1 (S7.A qk) ok=some (.d .i64 (N.c.getD i' 0:Nat), .a):=by grind
 rw[Ja];simp[XY,g0,g5,g9,di,dj,m1,m4];have cg:EnvC (fun u=>¬U' u) {S7 with a:=S7.t} [x0,x1,x2] E:=dm.A kR;refine Ji (P:=fun o S'=>∃e',o= .j e'/\EnvC (fun u=>¬U' u\/S7.A u= .none) S' e' (Q4 E (N.c.getD i' 0))) (JsU (Jq C7.D _) cg (by have:=hK.n;omega)) ?_;rintro _ S8 G8 ⟨e',rfl,bg⟩;have bg:EnvC (fun u=>¬U' u) S8 e' (Q4 E (N.c.getD i' 0)):=bg.A fun u a T=>⟨by
  rcases a with a|a
  ·exact a
  ·exact W7.A a,rfl⟩
 have dn:=G8.B dk;have W8:=W7.G G8;simp[XY,dn];have dp:NodsC (fun u=>¬U' u) S8 k q cv bd:=NodsC.A (show NodsC (fun u=>¬U' u/\u≠pA) S5 k q cv bd from b5) fun u a T=>⟨a.1,by
  have h1:=bf.d u T a.2;rw[G8.d u (by grind),h1]⟩
 have dq:N.c.getD i' 0<m.a.length:=o6 _ (by grind);simp only[XK,Z0]at ag;have wl:=Jq G8.D S8.t;refine KB (W:=U') G8.D ((H {S8 with a:=S8.t} U' p g aa d ab (-1) e' (Q4 E (N.c.getD i' 0)) cv bd (W8.J wl) aj (bg.A kR) ((hK.A ak (b':=sizL q bd) (by grind)).F (by omega)) (NodsC.A dp kR) b8 (by omega)).A fun o S' h=>⟨by obtain⟨U9,R9,_,_⟩:=h;exact R9.ch,h⟩) ?_;rintro _ S9 lo C9 ⟨U9,R9,W9,rfl⟩;have W9:=W9.J (lo:=lo) C9.D;have R9:RunW U' S8 {S9 with a:=lo} U9:=⟨C9,fun u a=>R9.b u a⟩
 have R7:RunW v z S7 U':=⟨R6.ch.A C7 fun u b=> .inr (by grind),R6.b⟩
 have cj:RunW v z {S9 with a:=lo} U9:=(R7.J G8).A R9;have ff:=F aa ab (Q4 E (N.c.getD i' 0)) bd aj ((hK.A ak (b':=sizL q bd) (by grind)).F (by omega)) b8;generalize ae aa ab (Q4 E (N.c.getD i' 0)) bd=X at*;obtain⟨bh,bi,e9,a9⟩:=X;simp only at Y W9;by_cases c9:e9=0;rotate_left
 ·rw[Xe c9]at Y;rw[Y];rw[Xa c9]at W9;simp[XY];rw[Ja];simp[XZ,c9];exact⟨U9,cj,by grind,by rfl⟩
 subst c9;rw[Xa (fun O=>O rfl)]at Y;have W9:WkU {S9 with a:=lo} U9 p g bh d names bi (-1):=by grind
 have K9:=R9.F;have ck:=G8.B rB;have kA:=K9 pA (Jb ck) bx;have f9:bi.length<=ab.length+sizL q bd:=ff.f;have l9:aa.a.length<=bh.a.length:=ff.g;simp[XY];rw[Ja];simp[XZ,av,ba];refine⟨cases.length-(i+1),by omega,hL _ _ _ ⟨g0,g5,g6,g9,af,bw,a8,i+1,U9,bh,bi,i'::Z,tB,by omega,rfl,cj,W9,ff.d,by omega,by omega,fun u a T c=> ?_,kA.2,kA.1.trans ck,ZK.2 ⟨ao,au⟩,fun y hy=> ?_,Y⟩⟩
 ·have h7:=ad u a T c;have h8:=G8.d u (by grind);have:=K9 u (by grind) (K5 u a T c).2
  grind
 grind
theorem AnsX.A {U:Pt->Prop}{S b c:St}{w d:Pt}{f:V}{names:List Str}{a:Int}{x:AnsR}{v:V}(g:Gr S b)(h:AnsX U b w d f names a x v c):AnsX U S w d f names a x v c:=by
 obtain⟨i,R,W,e⟩:=h;exact⟨i,(RunW.G g).A R,W,e⟩
theorem oneC {names:List Str}(H:RowH r names q u n)(F:RowF r (fitP q) u n)(hq:∀l E x ao,fitP q l->Yo E l=some (x,ao)->ao.length<100000){E:EnvS}{y:Nod}{id:Nat}(hW:WkU z v p g m d names a (-1))(hO:OfF r m)(hid:id<m.a.length)
  (hE:EnvC (fun K=>¬v K) z b E) (hK:EnvR m E (sizN (u+1) y)) (hn:NodC (fun K=>¬v K) z q (u+1) f y) (hf:fitN (fitP q) (u+1) y) (hc:a.length+sizN (u+1) y<100000) (a6:names.length<100000):
  Dz 88 [.g p 0, .j b, .j f, .d .i64 (id:Nat)] z (AnsX v z p g d names (-1) (oneS n names m a E id y)):=by
 have hw:=hW.I;refine Jl (aT Tryz.func88 rfl) rfl ?_;obtain⟨k,at_,sx,nm,pp,ad,ai,he,cases⟩:=y;have ap:=hE;have au:=hn;obtain⟨x0,x1,x2,rfl,a0,a1,a2⟩:=Qk hE;obtain⟨pv,bv,ev,xv,rfl,y1,y2,y3,y4⟩:=hn;have c4:=LstAt.B y1;have c5:=y2.B;have c6:=y3.B;have c7:=y4.B;obtain⟨n0,av⟩:=nxE z;simp only[CT,Tryz.f88,XY,simprocAttr];rw[Ja];simp[XY,av,a0.1,a1.1,a2.1,c4.1,c5.1,c6.1,c7.1];generalize a7:up 0 n0=p5;generalize a8:up 1 n0=p6;refine nm2 hw av a7 a8 ?_;intro S1 G1 bc bd be ⟨t5,r5⟩ ⟨t6,r6⟩;rw[Ja];simp[XY];refine Je (nodW (hW.G G1) hO hid) ?_;rintro _ S2 ⟨G2,kx,ky,rfl,aw,aq⟩;obtain⟨_,_,_,_,o5,o6⟩:=hO.F hid;have b1:=aw.A;have b2:=aw.B;have b3:=aq.A;have b4:=aq.B;obtain⟨n2,ax⟩:=nxE S2;simp[XY,ax,b2,b4];generalize a9:up 0 n2=p9;refine nmA G2.D ax a9 ?_;intro S3 G3 bf ⟨t9,r9⟩;have ab:=G3.B (G2.B r5);have Z:=G3.B (G2.B r6);have Y:=G1.A (G2.A G3);have ay:=aq.I G3;have ba:sizN (u+1) (.mk k at_ sx nm pp ad ai he cases)=1+sizL u ad+sizL u ai+(cases.map fun c=>sizL u c.2).sum:=rfl;have az:=hK;have a3:=hc;rw[ba]at hK hc;have a4:=hf;obtain⟨f1,_,f3,f4,f5⟩:=hf;have f3:fitL (fitP q) u ad:=f3;have f4:fitL (fitP q) u ai:=f4;have W3:=hW.G Y;have K3:Kept z v S3 v:=(RunW.G Y).F;have aj:=ap.B K3;have ar:NodC (fun K=>¬v K) S3 q (u+1) [.d .i64 k, .d .i64 at_,ofL sx,ofL nm,pv,bv,ev, .h he,xv] (.mk k at_ sx nm pp ad ai he cases):=NodC.A Y.H au;have ak:∀{S8:St} {e1:List V} {E1:EnvS} {fr:Fr} {Q:V->St->Prop},Gr z S8->EnvC (fun K=>¬v K) S8 e1 E1->EnvR m E1 (sizL u ad)->(∀x S9,AnsX v z p g d names (-1) (Q6 n m a E1 ad E ai) x S9->Q x S9)->Kh (tabT tabD) true (some []) 134 [.g p 0, .j e1,bv, .j [x0,x1,x2],ev] fr S8 Q:=by
  intro S8 e1 E1 fr Q G8 bb k1 hQ;have wl:=Jq G8.D S8.t;have kk:Kept z v S8 v:=(RunW.G G8).F;refine KB (W:=v) G8.D ((JsV H F ((hW.G G8).J wl) hO (bb.A kR) ((ap.B kk).A kR) k1 (hK.A (Xb _) (by omega)) (NodsC.A (NodsC.B kk y2) kR) (NodsC.A (NodsC.B kk y3) kR) f3 f4 (by omega)).A fun x S' h=>⟨by obtain⟨U9,R9,_,_⟩:=h;exact R9.ch,h⟩) ?_;rintro _ S9 lo C9 ⟨U9,R9,W9,rfl⟩;exact hQ _ _ ⟨U9,(RunW.G G8).A ⟨C9,fun K L=>R9.b K L⟩,W9.J (lo:=lo) C9.D,rfl⟩
 have af:∀{al:Nat} {S8:St} {fr:Fr} {Q:V->St->Prop} {ow:Option (List Nat)},Gr z S8->(∀e' S9,Gr S8 S9->EnvC (fun K=>¬v K) S9 e' (Q4 E al)->Q (.j e') S9)->Kh (tabT tabD) true ow 135 [.j [x0,x1,x2], .d .i64 (al:Nat)] fr S8 Q:=by
  intro al S8 fr Q ow G8 hQ;have kk:Kept z v S8 v:=(RunW.G G8).F;refine Ji (P:=fun x S'=>∃e',x= .j e'/\EnvC (fun K=>¬v K\/S8.A K= .none) S' e' (Q4 E al)) (JsU (Jq G8.D _) ((ap.B kk).A kR) (by have:=hK.n;omega)) ?_;rintro _ S9 G9 ⟨e',rfl,aa⟩;exact hQ _ _ G9 (aa.A fun K L O=>⟨by
   rcases L with L|L
   ·exact L
   ·exact hW.A (G8.I L),rfl⟩)
 have k0:(Jm m id).c≠[]->(Jm m id).c.getD 0 0<m.a.length:=fun hk=>by
  cases hx:(Jm m id).c with
  |nil=>grind
  |cons c K=>exact o6 c (by grind)
 have kl:=o5.a;have lk:=ay.G;rw[JP]at lk;have kid0:∀{S':St},Gr S3 S'->(Jm m id).c.length=1->∃T o,Js 1 ky (.d .i64 0)=some (.g T o, .a)/\ld1 (S'.A T) o=some (.d .i64 ((Jm m id).c.getD 0 0:Nat), .a):=fun{S'} X h=>by
  obtain⟨T,oo,e1,e2,e3,e4⟩:=SlAt.M (xs:=(Jm m id).c.map fun y:Nat=>V.d .i64 (y:Int)) (i:=0) (ay.I X) (by simp[h])
  grind
 by_cases k2:k=2
 ·subst k2;unfold oneS;simp;generalize Jm m id=N at*;have e1:(1<=N.a/\N.a<=3)\/N.a<1\/(¬N.a<1/\N.a>3):=by omega
  rcases e1 with e1|e1|⟨e1,e2⟩
  ·have n1:¬N.a<1:=by omega
   have n2:¬N.a>3:=by omega
   rw[Xe e1];simp[XZ,Z,r9,n1,n2];exact⟨v,RunW.G Y,W3,rfl⟩
  ·rw[Xa (by omega)];simp[XZ,Z,r9,e1];exact⟨v,RunW.G Y,W3,rfl⟩
  ·rw[Xa (by omega)];simp[XZ,Z,r9,e1,e2];exact⟨v,RunW.G Y,W3,rfl⟩
 by_cases k4:k=4
 ·subst k4;unfold oneS;simp[Xa k2];simp[XZ,ab,Z];refine Je (JbT (Q:=fun x S'=>x= .d .i64 (setS E nm id)/\S3=S') (aH (k:=132) rfl) (JpQ aj (by have:=hK.v;omega) (by have:=hK.n;omega) (.g p 0) nm id) ⟨rfl,rfl⟩) ?_;rintro _ _ ⟨rfl,rfl⟩;simp[XZ];exact⟨v,RunW.G Y,by grind,rfl⟩
 by_cases k5:k=5
 ·subst k5;simp[XZ,ab,Z];refine Je (JuJ H F hq W3 hO hid aj az ar a4 a3 rfl) ?_;intro x S4 hA;have hA:=AnsX.A Y hA;have hB:=hA;obtain⟨_,_,_,rfl⟩:=hB;simp[XZ];exact hA
 by_cases k6:k=6
 ·subst k6;unfold oneS;simp[Xa k4];by_cases h6:(Jm m id).a=6
  ·have l1:(Jm m id).c.length=1:=by rw[kl,h6];rfl
   rw[l1]at lk;have lk:J8 ky=some (.d .i64 1, .a):=lk;obtain⟨T,oo,e1,e4⟩:=kid0 (Gr.F Y.D) l1;have am:=k0 (by grind);rw[Xe h6];generalize Jm m id=N at*;rw[Jd,Ja];simp[XY,Z];rw[Ja];simp[XY];rw[Ja];simp[XY];rw[Ja];simp[XY];rw[Ja];simp[XY];rw[Jd,Ja];simp[XY,r9,h6,lk,e1,e4];rw[Ja];simp[XY,ab];refine af Y ?_;intro e' S4 G4 aa;have ae:=aa;obtain⟨u0,u1,u2,rfl,v0,v1,v2⟩:=Qk ae;have ag:=G4.B ab;have ah:=G4.B Z;simp[XY,ag,ah];refine ak (Y.A G4) aa ((hK.A (Xb _) (by omega)).F am) ?_;intro x S5 hA;have hB:=hA;obtain⟨_,_,_,rfl⟩:=hB;simp[XZ];exact hA
  ·rw[Xa h6];generalize Jm m id=N at*;rw[Jd,Ja];simp[XY,Z];rw[Ja];simp[XY];rw[Ja];simp[XY];rw[Ja];simp[XY];rw[Ja];simp[XY];rw[Jd,Ja];simp[XY,r9,h6];rw[Ja];simp[XY,ab];refine af Y ?_;intro e' S4 G4 aa;have ae:=aa;obtain⟨u0,u1,u2,rfl,v0,v1,v2⟩:=Qk ae;have ag:=G4.B ab;have ah:=G4.B Z;simp[XY,ag,ah];refine ak (Y.A G4) aa ((hK.A (Xb _) (by omega)).F hid) ?_;intro x S5 hA;have hB:=hA;obtain⟨_,_,_,rfl⟩:=hB;simp[XZ];exact hA
 by_cases k7:k=7
 ·subst k7;unfold oneS;simp[Xa k4];by_cases h6:(Jm m id).a=4\/(Jm m id).a=5
  ·have l1:(Jm m id).c.length=1:=by rw[kl,JaI,Xe (by omega)]
   rw[l1]at lk;have lk:J8 ky=some (.d .i64 1, .a):=lk;obtain⟨T,oo,e1,e4⟩:=kid0 (Gr.F Y.D) l1;have am:=k0 (by grind);rw[Xe h6];generalize Jm m id=N at*;rw[Jd,Ja];simp[XY,Z];rw[Ja];simp[XY];rw[Ja];simp[XY];rw[Ja];simp[XY];rw[Ja];simp[XY];rw[Ja];simp[XY];have a5:(N.a=4)=True\/((N.a=4)=False/\(N.a=5)=True):=by grind
   rcases a5 with h|⟨h,h'⟩
   ·have h':=h;rw[Jd,Ja];simp[XY,r9,lk,h];rw[Ja];simp[XY,ab,r9,e1,e4];refine af Y ?_;intro e' S4 G4 aa;have ae:=aa;obtain⟨u0,u1,u2,rfl,v0,v1,v2⟩:=Qk ae;have ag:=G4.B ab;have ah:=G4.B Z;simp[XY,ag,ah];refine ak (Y.A G4) aa ((hK.A (Xb _) (by omega)).F am) ?_;intro x S5 hA;have hB:=hA;obtain⟨_,_,_,rfl⟩:=hB;simp[XZ];exact hA
   ·rw[Jd,Ja];simp[XY,r9,lk,h,h'];rw[Ja];simp[XY,ab,r9,e1,e4];refine af Y ?_;intro e' S4 G4 aa;have ae:=aa;obtain⟨u0,u1,u2,rfl,v0,v1,v2⟩:=Qk ae;have ag:=G4.B ab;have ah:=G4.B Z;simp[XY,ag,ah];refine ak (Y.A G4) aa ((hK.A (Xb _) (by omega)).F am) ?_;intro x S5 hA;have hB:=hA;obtain⟨_,_,_,rfl⟩:=hB;simp[XZ];exact hA
  ·rw[Xa h6];generalize Jm m id=N at*;have h4:¬N.a=4:=fun c=>h6 (.inl c);have h5:¬N.a=5:=fun c=>h6 (.inr c);rw[Jd,Ja];simp[XY,Z];rw[Ja];simp[XY];rw[Ja];simp[XY];rw[Ja];simp[XY];rw[Ja];simp[XY];rw[Ja];simp[XY];rw[Jd,Ja];simp[XZ,r9,h4,h5];exact⟨v,RunW.G Y,W3,rfl⟩
 by_cases k8:k=8
 ·subst k8;simp[XZ,ab,Z];refine Je (JtQ H F hq W3 hO hid aj az ar a4 a3 rfl) ?_;intro x S4 hA;have hA:=AnsX.A Y hA;have hB:=hA;obtain⟨_,_,_,rfl⟩:=hB;simp[XZ];exact hA
 by_cases k9:k=9
 ·subst k9;unfold oneS;simp[Xa k4];simp[XZ,ab,Z];refine Je (JuG W3 aj ar a6 (by omega)) ?_;rintro _ S4 ⟨U4,R4,W4,rfl⟩;simp[XZ];refine⟨U4,(RunW.G Y).A R4, ?_⟩;have W4:WkU S4 U4 p g m d names (if nm∈names then a++[(nm,if pp=[]then E.c else id)]else a) (-1):=W4;have e1:(Nod.mk 9 at_ sx nm pp ad ai he cases).A=nm:=rfl
  grind
 unfold oneS;simp[Xa k2,Xa k4,Xa k5,Xa k6,Xa k7,Xa k8,Xa k9];simp[XZ,Z,k2,k4,k5,k6,k7,k8,k9];exact⟨v,RunW.G Y,by grind,rfl⟩
theorem _root_.Eva.WkU.B {S:St}{U:Pt->Prop}{w m:Pt}{v:Tb}{o:V}{names:List Str}{y:Cls}{a:Int}(h:WkU S U w m v o names y a):∃f t,S.A w= .a t [.g m 0,o,f, .d .i64 a]/\∀{k:St} {p:Int},Ch (fun r=>r=w) S k->(∃t,k.A w= .a t [.g m 0,o,f, .d .i64 p])->RunW U S k U/\WkU k U w m v o names y p:=by
 obtain⟨Q,f,t,T,q,X,z,L⟩:=h.i;refine⟨f,t,X,fun{k p} c ⟨Y,e⟩=>⟨⟨c.F fun r x=>by rw[x];exact h.d,fun r u=> .inl u⟩,⟨⟨Q,f,Y, ?_,q,e,z.F fun r x=>c.d r (z.A x) (L r x).2,L⟩,h.d,fun r u x=>h.b r u (c.B x),h.j.D fun r n l=>⟨n,c.d r l fun x=>n (by rw[x];exact h.d)⟩⟩⟩⟩;obtain⟨_,⟨W,F,Z,s⟩,P⟩:=T;exact⟨c.D,⟨W,F,Z.A fun r u _=>c.d r (P r (s r u)) (q r (s r u)).2.1,s⟩,fun r u=>by rw[c.d r (P r u) (q r u).2.1];grind⟩
theorem JcY :∀(p:Pipe) (E:EnvS) (v:Int) (c:List Str),fitP (k+1) p->Yo E p=some (v,c)->c.length<100000:=fun p E v c g d=>by
 unfold Yo at d
 split at d
 ·rename_i a e f s n b q
  split at d
  ·cases h:Qh E e with
   |none=>grind
   | some z=>
     rw[h]at d;injection d with d;injection d with _ d;subst d;exact((g.2 _ (Xj.2 rfl)).2 _ (Xj.2 rfl)).1
  grind
 grind
theorem JrW {names:List Str}(bc:r.c=[])(b6:names.length<100000)(H:RowH r names (k+1) q n)(F:RowF r (fitP (k+1)) q n):RowH r names (k+1) (q+1) (JaL t (oneS n names) (k+1)):=by
 intro S U w rt tb nv cs a e E lv l hW hO hE hK hl hf hc;have hw:=hW.I;refine Jl (aT Tryz.func44 rfl) rfl ?_;have b7:=hE;obtain⟨x0,x1,x2,rfl,a0,a1,a2⟩:=Qk hE;have ll:=LstAt.H hl;have ly:LstAt (NodC (fun o=>¬U o) S (k+1) (q+1)) (fun o=>¬U o) S lv 9 l:=hl;obtain⟨cz,b8⟩:=hf;obtain⟨n0,bd⟩:=nxE S;simp only[CT,Tryz.f44,XY,simprocAttr];rw[Ja];simp[XY,bd,a0.1,a1.1,a2.1];generalize b9:up 0 n0=p4;refine nm1 hw bd b9 ?_;intro S1 G1 cb ⟨t4,r4⟩;rw[Jd,Ja];simp[XY,ll];refine Jo (fun j fr S'=>fr 0= .g w 0/\fr 4= .g p4 0/\fr 12=lv/\fr 13= .d .i64 (l.length:Nat)/\∃(i:Nat) (U':Pt->Prop) (aa:Tb) (ad:Cls) (E':EnvS) (e':List V) (z:Nat),j+i=l.length/\fr 14= .d .i64 (i:Nat)/\RunW U S S' U'/\WkU S' U' w rt aa nv names ad a/\OfF r aa/\S'.A p4= .a z e'/\¬U' p4/\EnvC (fun o=>¬U' o/\o≠p4) S' e' E'/\EnvR aa E' (sizL (q+1) (l.drop i))/\ad.length+sizL (q+1) (l.drop i)<100000/\JaL t (oneS n names) (k+1) tb cs E l=JaL t (oneS n names) (k+1) aa ad E' (l.drop i)) l.length (by omega) ⟨rfl,rfl,rfl,rfl,0,U,tb,cs,E,_,t4,by omega,by rfl,RunW.G G1,hW.G G1,hO,r4,hW.A cb,b7.A fun o a b=>⟨⟨a,fun x=>b (by grind)⟩,G1.d o b⟩,by grind,by grind,by rfl⟩ ?_;rintro L hL M fr S5 ⟨g0,g4,ak,af,i,U',aa,ad,E',e',z,c0,ae,R5,W5,be,sA,az,cc,ag,bf,T⟩;have Kp:=R5.F;by_cases hi:i<l.length;rotate_left
 ·rw[XB (by omega),JaL]at T;simp[XZ,af,ae,hi];rw[T];exact⟨U',R5,W5,rfl⟩
 have cd:(i:Int)<l.length:=by omega
 have al:=wiN (i:=i) (by omega);have bg:∀o,¬U o->S.A o≠ .none->(¬U' o/\o≠p4)/\S5.A o=S.A o:=fun o a b=>⟨⟨(Kp o b a).2,fun e=>b (by grind)⟩,(Kp o b a).1⟩
 have ce:LstAt (NodC (fun o=>¬U' o/\o≠p4) S5 (k+1) (q+1)) (fun o=>¬U' o/\o≠p4) S5 lv 9 l:=LstAt.G ly (fun _ _ h=>NodC.A bg h) bg;obtain⟨r1,q1,en,cf,c2,c3,cg,hn,c8,da⟩:=ce.A hi;have cj:l.drop i=l[i]::l.drop (i+1):=Xc hi;rw[cj]at T ag bf;have fn:=b8 l[i] (Xh hi);generalize db:l[i]=O at*;obtain⟨P,at_,sx,nm,pp,X,Y,he,cases⟩:=O;have bh:=hn;obtain⟨pv,bv,ev,xv,rfl,y1,y2,y3,y4⟩:=hn;have c4:=LstAt.B y1;have c5:=y2.B;have c6:=y3.B;have c7:=y4.B;have lp:=LstAt.H y1;have ck:sizL (q+1) (Nod.mk P at_ sx nm pp X Y he cases::l.drop (i+1))=sizN (q+1) (.mk P at_ sx nm pp X Y he cases)+sizL (q+1) (l.drop (i+1)):=rfl;rw[ck]at ag bf;obtain⟨n5,bi⟩:=nxE S5;rw[Ja];simp only[XY,simprocAttr,af,ae];rw[Jd];simp only[XY,simprocAttr,cd];rw[Jd];simp only[XY,simprocAttr];rw[Ja];simp[XY,ak,ae,cf,cg,bi,c4.1,c5.1,c6.1,c7.1];generalize cl:up 0 n5=p8;refine nmA W5.I bi cl ?_;intro S6 G6 cm ⟨t8,r8⟩;rw[Ja];simp[XY];have hT:=Jke (SgOK.A (sg:=t) bc) (m:=k+1) be ag.k (.mk P at_ sx nm pp X Y he cases);rw[JaL]at T;have Z:typS t (k+1) E' aa (.mk P at_ sx nm pp X Y he cases)=if P≠1/\(P≠9\/pp≠[])then ofS t (k+1) E' aa pp else(aa,0,0):=rfl;generalize hx:typS t (k+1) E' aa (.mk P at_ sx nm pp X Y he cases)=x at*;have W6:=W5.G G6;have a3:EnvC (fun o=>¬U' o/\o≠p4) S6 e' E':=cc.A G6.H;have am:=G6.B sA;have cn:NodC (fun o=>¬U' o/\o≠p4) S6 (k+1) (q+1) [.d .i64 P, .d .i64 at_,ofL sx,ofL nm,pv,bv,ev, .h he,xv] (.mk P at_ sx nm pp X Y he cases):=NodC.A G6.H bh;have dc:p8≠p4:=fun e=>Jb sA (by grind);have u8:¬U' p8:=W5.A cm;obtain⟨z0,z1,z2,rfl,v0,v1,v2⟩:=Qk a3;refine Ju (fun fr S'=>fr 0= .g w 0/\fr 4= .g p4 0/\fr 8= .g p8 0/\fr 12=lv/\fr 13= .d .i64 (l.length:Nat)/\fr 14= .d .i64 (i:Nat)/\fr 9= .d .i64 (x.2.1:Nat)/\fr 10= .d .i64 x.2.2/\∃U1,RunW U' S6 S' U1/\WkU S' U1 w rt x.1 nv names ad a) (fun J hJ=> ?_) ?_
 ·obtain⟨dd,t6,w6,_⟩:=W6.B;have ax:∀{fr:Fr} {Q:V->St->Prop},(∀S' U1,RunW U' S6 S' U1->WkU S' U1 w rt (ofS t (k+1) E' aa pp).1 nv names ad a->Q (.p [.d .i64 ((ofS t (k+1) E' aa pp).2.1:Nat), .d .i64 (ofS t (k+1) E' aa pp).2.2]) S')->Kh (tabT tabD) true (some []) 87 [.g rt 0, .j [z0,z1,z2],pv] fr S6 Q:=by
   intro fr Q hQ;obtain⟨U0,T6,u6,bj⟩:=W6.N;have wl:=Jq G6.D S6.t;refine KB (W:=U0) G6.D ((JuF (sg:=t) (m:=k+1) bc (Qz T6 wl) be (a3.A fun o a b=>⟨u6 o a.1,rfl⟩) ag.k (PipC.A y1 fun o a b=>⟨u6 o a.1,G6.d o b⟩) fn.1).A fun v S' h=>⟨h.1,h⟩) ?_;rintro v S' lo C hA;obtain⟨U2,RA,rfl⟩:=Ans.B hA;have T2:=Qz (lo:=lo) RA.tab ⟨C.D.a,C.D.t⟩;obtain⟨U1,R1,W1⟩:=bj ⟨C,T2,RA.a⟩
   grind
  by_cases k1:P=1
  ·rw[Xa (fun h=>h.1 k1)]at Z;subst Z;subst k1;simp[XZ,r8];exact hJ _ _ ⟨g0,g4,rfl,ak,af,ae,by rfl,rfl,U',RunW.I W6,W6⟩
  by_cases k9:P=9
  ·cases pp with
   | nil=>
     have lp:J8 pv=some (.d .i64 0, .a):=lp;rw[Xa (fun h=>h.2.elim (fun h=>h k9) fun h=>h rfl)]at Z;subst Z;subst k9;simp[XZ,r8,lp];exact hJ _ _ ⟨g0,g4,rfl,ak,af,ae,by rfl,rfl,U',RunW.I W6,W6⟩
   | cons b o=>
     have hz:((o.length+1:Nat):Int)>0:=by omega
     have lp:J8 pv=some (.d .i64 ((o.length+1:Nat):Int), .a):=lp;rw[Xe ⟨k1, .inr (by simp)⟩]at Z;subst Z;subst k9;simp[XZ,r8,lp,g0,g4,w6,am];refine ax ?_;intro S7 U1 R7 W7;simp[XZ];exact hJ _ _ ⟨g0,g4,rfl,ak,af,ae,by rfl,rfl,U1,R7,W7⟩
  ·rw[Xe ⟨k1, .inl k9⟩]at Z;subst Z;simp[XZ,r8,k1,k9,g0,g4,w6,am];refine ax ?_;intro S7 U1 R7 W7;simp[XZ];exact hJ _ _ ⟨g0,g4,rfl,ak,af,ae,by rfl,rfl,U1,R7,W7⟩
 clear Z hx;rintro fr S7 ⟨f0,f4,f8,bk,bl,bm,f9,ao,U1,R7,W7⟩;obtain⟨ah,id,er⟩:=x;have o1:OfF r ah:=hT.b;have co:aa.a.length<=ah.a.length:=hT.f;simp only at f9 ao W7 T;have K7:=R7.F;have bn:=(K7 p8 (Jb r8) u8).1.trans r8;have bo:=(K7 p4 (Jb am) az).1.trans am;have cp:=(K7 p8 (Jb r8) u8).2;have bp:=(K7 p4 (Jb am) az).2;have bq:∀o,(¬U' o/\o≠p4)->S6.A o≠ .none->(¬U1 o/\o≠p4)/\S7.A o=S6.A o:=fun o a b=>⟨⟨(K7 o b a.1).2,a.2⟩,(K7 o b a.1).1⟩
 have cq:=a3.A bq;have cr:=NodC.A bq cn;have a4:p8≠w:=fun e=>u8 (by rw[e];exact W5.d);have br:p4≠w:=fun e=>az (by rw[e];exact W5.d);have ct:RunW U S S7 U1:=(R5.J G6).A R7;obtain⟨de,t7,w7,bt⟩:=W7.B;rw[Ja];simp[XY,f0,w7];rw[Ja];simp[XY,f0,w7];refine nmW W7.I w7 ?_;intro S8 C8 w8;obtain⟨R8,W8⟩:=bt C8 w8;obtain⟨df,w8⟩:=w8;have bu:∀o,(¬U1 o/\o≠p4)->S7.A o≠ .none->(¬U1 o/\o≠p4)/\S8.A o=S7.A o:=fun o a b=>⟨a,C8.d o b fun e=>a.1 (by rw[e];exact W7.d)⟩
 have bw:=cq.A bu;have cu:=NodC.A bu cr;have ap:=(C8.d p8 (Jb bn) a4).trans bn;have aq:=(C8.d p4 (Jb bo) br).trans bo;have bx:=ct.A R8;by_cases c1:er=0;rotate_left
 ·rw[Xe c1]at T;have dg:(-1:Int)<0:=by omega
  rw[Jd,Ja];simp[XY,ao,c1];rw[Jd,Ja];simp[XY,ao,c1];rw[Jd,Ja];simp[XY,f0,w8,f8,ap];refine nmW W8.I w8 ?_;intro S9 C9 w9;obtain⟨dh,cx,ab,bz⟩:=W8.B;rw[w8]at ab;injection ab with _ ab;injection ab with _ ab;injection ab with _ ab;injection ab with ab _;subst ab;obtain⟨R9,W9⟩:=bz C9 w9;simp[XZ,ao];rw[T];exact⟨U1,bx.A R9,by rw[Xa c1];exact W9,rfl⟩
 subst c1;have hid:id<ah.a.length:=hT.g rfl;rw[Xa (fun P=>P rfl)]at T;have a5:EnvR ah E' (sizN (q+1) (.mk P at_ sx nm pp X Y he cases)+sizL (q+1) (l.drop (i+1))):=ag.A co (Xb _);have ff:=Jkd F (names:=names) (cs:=ad) JcY o1 hid (a5.A (Xb _) (HX _ _)) fn;rw[Jd,Ja];simp[XY,ao];simp[XY,f0,f4,f8,f9,ap,aq];refine Je (oneC H F JcY W8 o1 hid (bw.A fun o a b=>⟨a.1,rfl⟩) (a5.A (Xb _) (HX _ _)) (NodC.A (fun o a b=>⟨a.1,rfl⟩) cu) fn (by omega) b6) ?_;rintro _ S9 ⟨U9,R9,W9,rfl⟩;generalize oneS n names ah ad E' id (.mk P at_ sx nm pp X Y he cases)=y at*;obtain⟨ai,ar,e9,a9⟩:=y;have o9:OfF r ai:=ff.d;have b0:ah.a.length<=ai.a.length:=ff.g;have di:ar.length<=ad.length+sizN (q+1) (.mk P at_ sx nm pp X Y he cases):=ff.f;simp only at W9 T;have K9:=R9.F;have a6:=(K9 p8 (Jb ap) cp).1.trans ap;have b1:=(K9 p4 (Jb aq) bp).1.trans aq;have a7:=(K9 p4 (Jb aq) bp).2;have a8:=bx.A R9;obtain⟨dj,t9,w9,ay⟩:=W9.B;by_cases c9:e9=0;rotate_left
 ·rw[Xa c9]at W9 w9;rw[Xe c9]at T;by_cases ca:a9<0
  ·rw[Xe ca]at T;simp[XY];rw[Jd,Ja];simp[XY,c9];rw[Jd,Ja];simp[XY,f0,f8,w9,ca,a6];refine nmW W9.I w9 ?_;intro SA CA wA;obtain⟨RA,WA⟩:=ay CA wA;simp[XZ];rw[T];exact⟨U9,a8.A RA,by rw[Xa c9];exact WA,rfl⟩
  ·rw[Xa ca]at T;simp[XY];rw[Jd,Ja];simp[XY,c9];rw[Jd,Ja];simp[XZ,f0,w9,ca];rw[T];exact⟨U9,a8,by grind,rfl⟩
 subst c9;rw[Xe rfl]at W9 w9;rw[Xa (fun P=>P rfl)]at T;simp[XY];rw[Jd,Ja];simp[XY];rw[Ja];simp[XY,f0,w9];refine nmW W9.I w9 ?_;intro SA CA wA;obtain⟨RA,WA⟩:=ay CA wA;have cy:p8≠w:=a4;have b2:=(CA.d p8 (Jb a6) a4).trans a6;have au:=(CA.d p4 (Jb b1) br).trans b1;have ba:=a8.A RA;have cv:∀o,(¬U1 o/\o≠p4)->S8.A o≠ .none->(¬U9 o/\o≠p4)/\SA.A o=S8.A o:=fun o a b=>by
  have h:=K9 o b a.1;exact⟨⟨h.2,a.2⟩,by rw[CA.d o (by grind) fun e=>h.2 (by rw[e];exact W9.d),h.1]⟩
 have b3:=bw.A cv;have cw:EnvR ai E' (sizN (q+1) (.mk P at_ sx nm pp X Y he cases)+sizL (q+1) (l.drop (i+1))):=a5.A b0 (Xb _);have av:=Jkf cw fn (Zs hid b0);by_cases k3:P=3;rotate_left
 ·have e3:(if(Nod.mk P at_ sx nm pp X Y he cases).k=3 then varS E' (Nod.mk P at_ sx nm pp X Y he cases).A id else E')=E':=Xa k3;rw[e3]at T av;rw[Ja];simp[XZ,f8,b2,k3,bm,al];exact⟨l.length-(i+1),by omega,hL _ _ _ ⟨f0,f4,bk,bl,i+1,U9,ai,ar,E',_,z,by omega,rfl,ba,WA,o9,au,a7,b3,av,by omega,T⟩⟩
 have e3:(if(Nod.mk P at_ sx nm pp X Y he cases).k=3 then varS E' (Nod.mk P at_ sx nm pp X Y he cases).A id else E')=varS E' nm id:=Xe k3;rw[e3]at T av;subst k3;rw[Ja];simp[XY,f8,b2,f4,au,f9];refine Je (JnQ WA.I b3 (by have:=ag.v;omega)) ?_;rintro _ SB ⟨GB,e2,rfl,aj⟩;have aj:=aj;have bb:=GB.B au;have aj:EnvC (fun o=>¬U9 o/\o≠p4) SB e2 (varS E' nm id):=aj.A fun o a b=>⟨by
  rcases a with a|a
  ·exact a
  ·exact⟨WA.A a,fun e=>Jb au (by grind)⟩,rfl⟩
 have b4:=aj;obtain⟨q0,b5,q2,rfl,s0,s1,s2⟩:=Qk b4;simp[XZ,f4,bb,s0.1,s1.1,s2.1,bm,al];obtain⟨SC,aw⟩:=exE (SB.D p4 z fun u=> .a u [q0,b5,q2]);have CC:Ch (fun o=>o=p4) SB SC:=by rw[aw];exact(Ch.G _ GB.D).J (Jb bb) (by rw[bb];rfl) (.inl rfl) (Jc _)
 obtain⟨tC,rC⟩:∃z,SC.A p4= .a z [q0,b5,q2]:=⟨_,by rw[aw];exact Jh _ _ _ _⟩
 rw[<-aw];clear aw;have WB:=WA.G GB;have RB:RunW U S SB U9:=ba.J GB;have WC:WkU SC U9 w rt ai nv names ar a:=WB.K CC a7 (hW.j.D fun o a b=>by
  have h:=ba.J GB|>.F o b a;exact⟨h.2,by rw[CC.d o (by grind) fun e=>b (by grind),h.1]⟩)
 have RC:RunW U S SC U9:=⟨RB.ch.A CC fun o e=> .inr (by grind),RB.b⟩
 refine⟨l.length-(i+1),by omega,hL _ _ _ ⟨f0,f4,bk,bl,i+1,U9,ai,ar,varS E' nm id,_,tC,by omega,rfl,RC,WC,o9,rC,a7,aj.A fun o a b=>⟨a,CC.d o b a.2⟩,av,by omega,T⟩⟩
theorem JtR {names:List Str}:RowH r names k 0 (rowS t names k 0):=by
 intro S U w X Y Z cs a e E h l j hO q hK o hf hc;have u:=j.I;obtain rfl:l=[]:=by
  cases l with
  |nil=>rfl
  | cons n b=>
    have v:LstAt (NodC (fun b=>¬U b) S k 0) (fun b=>¬U b) S h 9 (n::b):=o;obtain⟨r1,q1,en,x,y,z,J,K,L,M⟩:=v.A (i:=0) (by simp);exact K.elim
 refine Jl (aT Tryz.func44 rfl) rfl ?_;obtain⟨x0,x1,x2,rfl,N,O,P⟩:=Qk q;have Q:J8 h=some (.d .i64 0, .a):=LstAt.H o;obtain⟨T,c⟩:=nxE S;simp only[CT,Tryz.f44,XY,simprocAttr];rw[Ja];simp[XY,c,N.1,O.1,P.1];generalize f:up 0 T=p4;refine nm1 u c f ?_;intro S1 p W ⟨t4,r4⟩;have g:¬(0:Int)<0:=by omega
 rw[Jd,Ja];simp[XY,Q];refine Jct (by omega) ?_;simp[XZ,g];exact⟨U,RunW.G p,j.G p,rfl⟩
theorem rowH {s:Sch}{names:List Str}{m:Nat}{sg:Tb->List Nat->List Nat->Nat×Int}(a:s.c=[])(b:names.length<100000):∀d,RowH s names (m+1) d (rowS sg names (m+1) d)
 |0=>JtR
 |d+1=>JrW a b (rowH a b d) (JfT (SgOK.A a) JcY d)
def BodP (U:Pt->Prop)(S:St)(rt:Pt)(x:AnsR)(v:V)(S':St):Prop:=∃U',Ch U S S'/\(∀r,U' r->U r\/S.A r= .none)/\TabU S' U' rt x.1/\((x.2.2.1≠0/\v= .p [.e, .d .i64 x.2.2.2, .d .i64 x.2.2.1])\/(x.2.2.1=0/\∃cv,v= .p [cv, .d .i64 0, .d .i64 0]/\KV S' cv 2 (clsE x.2.1)/\∀r,rowOf cv=some r->¬U' r/\(U r\/S.A r= .none)))
theorem JuK {names:List Str}{m d:Nat}{sg:Tb->List Nat->List Nat->Nat×Int}(P:r.c=[])(Q:names.length<100000){o:Tb}{M:V}(J:TabU z v p o)(hO:OfF r o)(q:SlAt (fun f=>¬v f) z w 1 (strs names))(T:k<o.a.length)
  (hb:NodsC (fun f=>¬v f) z (m+1) d M h) (hf:fitL (fitP (m+1)) d h) (hz:sizL d h<90000):
  Dz 26 [.g p 0,w, .d .i64 (k:Nat),M] z (BodP v z p (rowS sg names (m+1) d o [] ⟨k,[],[]⟩ h)):=by
 have hw:=J.1;refine Jl (aT Tryz.func26 rfl) rfl ?_;have c1:=q.A;have c2:=q.B;obtain⟨n0,L⟩:=nxE z;simp only[CT,Tryz.f26,XY,simprocAttr];rw[Ja];simp[XY];rw[Ja];simp[XY,L,c1,c2];generalize W:up 0 n0=j;refine nm1 hw L W ?_;intro N y wn ⟨tw,X⟩;have uw:¬v j:=J.G wn;have W1:WkU N (fun f=>v f\/f=j) j p o w names [] (-1):=⟨⟨v, .e,tw,J.A y,fun f u=>⟨.inl u,fun e=>uw (by grind),fun e=>by cases e⟩,X,KV.I _ _,fun f e=>by cases e⟩, .inr rfl,fun f u=>by
  rcases u with u|u
  ·rw[y.d f (J.2.2 f u)];exact J.2.2 f u
  grind,q.D fun f n e=>⟨fun u=>u.elim n fun x=>e (by grind),y.d f e⟩⟩
 have kB:NodsC (fun f=>¬(v f\/f=j)) N (m+1) d M h:=NodsC.A hb fun f n e=>⟨fun u=>u.elim n fun x=>e (by grind),y.d f e⟩
 have hE:EnvC (fun f=>¬(v f\/f=j)) N [.d .i64 (k:Nat), .e, .e] ⟨k,[],[]⟩:=⟨.e, .e,rfl,SlAt.K _ _ _,LstAt.F⟩
 have hK:EnvR o ⟨k,[],[]⟩ (sizL d h):=⟨⟨T,(fun x a=>by cases a),(fun x a=>by cases a),by simp,by simp⟩,by grind,by grind⟩
 rw[Jd,Ja];simp[XY];refine Je (rowH (sg:=sg) (m:=m) P Q d N _ j p o w [] (-1) _ _ M h W1 hO hE hK kB hf (by grind)) ?_;rintro _ S2 ⟨U2,Y,W2,rfl⟩;generalize rowS sg names (m+1) d o [] ⟨k,[],[]⟩ h=x at*;obtain⟨aa,cs,e,a⟩:=x;simp at W2⊢;obtain⟨Z,cv,t,T0,k2,O,k4,k5⟩:=W2.i;have C:Ch v z S2:=(Ch.H v y).A Y.ch fun f u=>u.elim .inl fun x=> .inr (by grind);have sb:∀f,Z f->v f\/z.A f= .none:=fun f u=>by
  rcases Y.b f (k2 f u).1 with l|l
  ·grind
  ·exact .inr (y.I l)
 by_cases c:e=0
 ·rw[Xe c]at O;subst c;have c3:=k4.G.A;have c4:=k4.G.B;simp[XZ,O];refine⟨Z,C,sb,T0, .inr ⟨rfl,cv,rfl,k4,fun f e=>⟨fun u=>(k2 f u).2.2 e, ?_⟩⟩⟩;rcases Y.b f (k5 f e).1 with l|l
  ·grind
  ·exact .inr (y.I l)
 ·rw[Xa c]at O;simp[XZ,O,c];exact⟨Z,C,sb,T0, .inl ⟨c,rfl⟩⟩
section
variable {Z U U' : Pt -> Prop} {S S' : St} {ru : Pt} {s : Sch} {tb : Tb}
theorem atD {id:Nat}(h:DT Z S U ru s tb)(Y:OfF s tb)(hid:id<tb.a.length):
  Dz 125 [.g ru 0, .d .i64 (id:Nat)] S fun v S'=>Gr S S'/\∃x y,v= .j [.d .i64 (Jm tb id).a,ofL (Jm tb id).d,x,y]/\SlAt (fun r=>U r\/Z r) S' x 1 (strs (Jm tb id).b)/\SlAt (fun r=>U r\/Z r) S' y 1 (ints (Jm tb id).c):=by
 have hw:=h.wf;refine Jn tabM (aT Tryz.func125 rfl) rfl hw fun K w=> ?_;obtain⟨o1,o2,o3,o4,o5,o6⟩:=Y.F hid;obtain⟨T,lv,tv,dv,nv,kv,sv,aa,O,tr,ab,N,b1,b2,b3,b4,b5⟩:=h.i;obtain⟨t,hc⟩:=N.a.d;obtain⟨es,l1,l2,l3⟩:=N.a.l;obtain⟨n0,f⟩:=nxE S;simp only[CT,Tryz.f125,XY,simprocAttr];rw[Ja];simp[XY,f];generalize z:up 0 n0=J;refine nm1 hw f z ?_;intro L k ad ⟨t4,r4⟩;obtain⟨ae,P⟩:=(h.B k).F Y.l;rw[Ja];simp[XY];refine Je (JtG P o1) ?_;rintro _ _ ⟨rfl,rfl⟩;have Q:=k.B hc;generalize (Ks tb (tb.a.length+1) id).1=o at o2 o3;obtain⟨r,q,a1,_,_,a4,_⟩:=(l1.G k).D.H (i:=o) (by omega);obtain⟨W,X,he,n,p⟩:=l3 o (by omega) o2;have hN:tb.a[o]=Jm tb id:=by grind
 rw[hN]at he n p;generalize Jm tb id=M at*;rw[he]at a4;have c1:=n.A;have c2:=n.B;have c3:=p.A;have c4:=p.B;simp[XY];rw[Ja];simp[XZ,Q,a1,a4,r4,c2,c4];have g3:∀r,r≠J->(L.D J t4 fun u=>Row.a u [.d .i64 M.a,ofL M.d,W,X]).A r=L.A r:=fun r e=>Jj _ _ _ e;have m:∀r,O r->S.A r≠ .none->(U r\/Z r)/\(L.D J t4 fun u=>Row.a u [.d .i64 M.a,ofL M.d,W,X]).A r=S.A r:=fun r o e=>⟨b5 r o,by rw[g3 r fun x=>e (by grind),k.d r e]⟩
 exact w _ _ (fun r e=>by rw[g3 r fun c=>e (by grind),k.d r e]) fun _=>⟨W,X,rfl,n.D m,p.D m⟩
end
def kidV (nm:Str)(ns:List Str)(ks:List Nat):V:=match fstN nm ns with
 |some j=> .p [.d .i64 (ks.getD j 0:Nat), .h true]
 |none=> .p [.d .i64 0, .h false]
theorem JnR {a:Str}{ks:List Nat}(h:fstN a e=none):kidV a e ks= .p [.d .i64 0, .h false]:=by unfold kidV;rw[h]
theorem JnS {a:Str}{ks:List Nat}(h:fstN a e=some k):kidV a e ks= .p [.d .i64 (ks.getD k 0:Nat), .h true]:=by unfold kidV;rw[h]
theorem kidD {nn:Str}{l:Str}(hw:WF z)(o:SlAt v z d 1 (strs e))(r:SlAt v z w 1 (ints j))(hl:e.length<=j.length)(h8:e.length<=8):
  Dz 208 [.j [.d .i64 c,ofL nn,d,w],ofL l] z fun a S'=>Gr z S'/\a=kidV l e j:=by
 unfold kidV;have Q:fstN l e=idxN l e 0:=by rw[Jkg];simp
 rw[Q];refine Jn tabM (aT Tryz.func208 rfl) rfl hw fun K s=> ?_;obtain⟨n0,t⟩:=nxE z;have s1:=o.B;have s2:=r.B;have s3:=o.A;have s4:=r.A;have u:=o.G;rw[Jv]at u;simp only[CT,Tryz.f208,XY,simprocAttr];rw[Ja];simp[XY,t,s1,s2];generalize hp:up 0 n0=p;refine nm1 hw t hp ?_;intro S1 y _ ⟨t1,T⟩;have o:=o.I y;have r:=r.I y;obtain⟨L,hL⟩:=loE fun b J z=>∃(i:Nat),z=S1/\b+i=e.length/\J 1=ofL l/\J 2= .g p 0/\J 6= .d .i64 i/\idxN l e 0=idxN l (e.drop i) i;rw[Jd,Ja];simp[XY];refine JD L e.length (by omega) ((hL _ _ _).2 ⟨0,rfl,by omega,rfl,rfl,by rfl,rfl⟩) ?_;intro b J S' U;obtain⟨i,rfl,hj,W,N,X,h⟩:=(hL _ _ _).1 U;by_cases O:i<e.length
 ·have m:=wiN (i:=i) (by omega);obtain⟨q,qo,a1,a2,a3,Y⟩:=o.M (xs:=e.map ofL) (i:=i) (by grind);simp at Y;obtain⟨q',aa,b1,b2,b3,b4⟩:=r.M (xs:=j.map fun n:Nat=>V.d .i64 (n:Int)) (i:=i) (by grind);simp at b4;rw[Xc O,idxN]at h;by_cases f:l=e[i]
  ·rw[Xe f]at h;have Z:(e[i]=l)=True:=Zn f.symm;simp[XZ,W,N,X,T,u,O,a1,Y,b1,b4,Z];refine s _ _ (fun q f=>y.d q f) fun _=> ?_
   grind
  ·rw[Xa f]at h;have Z:(e[i]=l)=False:=Zi fun x=>f x.symm;simp[XZ,W,N,X,T,u,O,a1,Y,Z,m];exact⟨e.length-(i+1),by omega,(hL _ _ _).2 ⟨i+1,rfl,by omega,W,N,rfl,h⟩⟩
 ·rw[Xm (by omega),idxN]at h;simp[XZ,N,X,T,u,O];refine s _ _ (fun q f=>y.d q f) fun _=> ?_;rw[h]
theorem K8 {E:EnvS}(h:EnvC v z b E):∃f g,b=[.d .i64 (E.c:Nat),f,g]/\SlAt v z f 2 (E.a.map varE)/\LstAt (NarC v z) v z g 3 E.b/\(f.B=true/\f.A=some [f])/\(g.B=true/\g.A=some [g]):=by
 obtain⟨f,g,rfl,i,j⟩:=h;exact⟨f,g,rfl,i,j,⟨i.B,i.A⟩,j.B⟩
theorem JlC {l:List (Str×Nat)}(h:SlAt v z d 2 (l.map varE)){i:Nat}(f:i<l.length):∃r q,Js 2 d (.d .i64 (i:Nat))=some (.g r q, .a)/\ld1 (z.A r) q=some (ofL l[i].1, .a)/\ld1 (z.A r) (q+1)=some (.d .i64 (l[i].2:Nat), .a):=by
 obtain⟨r,q,j,_,_,k,b⟩:=h.H (i:=i) (by grind);have c:=b 0 (by simp[varE]);have e:=b 1 (by simp[varE]);simp[varE]at c e
 grind
theorem findD {E:EnvS}(O:WF z)(Y:EnvC v z b E)(hl:E.a.length<100000)(h:Str):
  Dz 117 [.j b,ofL h] z fun c o=>Gr z o/\c= .d .i64 (kE E h):=by
 refine Jn tabM (aT Tryz.func117 rfl) rfl O fun K l=> ?_;obtain⟨vv,nv,rfl,p,h2,Z,c2⟩:=K8 Y;have Q:=p.G;rw[Xr]at Q;obtain⟨n0,n⟩:=nxE z;simp only[CT,Tryz.f117,XY,simprocAttr];rw[Ja];simp[XY,n,Z.1,c2.1];generalize x:up 0 n0=p2;refine nm1 O n x ?_;intro S1 s _ ⟨t2,y⟩;by_cases T:h=[]
 ·subst T;rw[Jd,Ja];simp[XZ];exact l _ _ (fun r b=>s.d r b) fun _=>rfl
 have U:kE E h=match Q3 E.a h with
   |some i=>(i:Int)
   |none=> -2:=by
  unfold kE Qh
  grind
 rw[U]at l;clear U;have k:IntKind.i64.wrap ((E.a.length:Int)-1)=(E.a.length:Int)-1:=JX (by omega) (by omega);rw[Jd,Ja];simp[XY,T];rw[Jd,Ja];simp[XY,y,Q,k];refine Jo (fun j t o=>j<=E.a.length/\t 1=ofL h/\t 2= .g p2 0/\t 5= .d .i64 ((j:Int)-1)/\o=S1/\Q3 E.a h=Q3 (E.a.take j) h) E.a.length (by omega) ⟨Xb _,rfl,rfl,rfl,rfl,by simp⟩ ?_;rintro L hL j t o ⟨hj,J,M,u,rfl,f⟩
 cases j with
 | zero=>
   have m:¬(((0:Nat):Int)-1)≥0:=by omega
   simp[XZ,u];refine l _ _ (fun r b=>s.d r b) fun _=> ?_;rw[f];rfl
 | succ j=>
   have p:=p.I s;have m:(((j+1:Nat):Int)-1)≥0:=by omega
   have e1:(((j+1:Nat):Int)-1)=((j:Nat):Int):=by omega
   rw[e1]at u m;have k:IntKind.i64.wrap ((j:Int)-1)=(j:Int)-1:=JX (by omega) (by omega);obtain⟨r,q,W,X,_⟩:=JlC p (i:=j) (by omega);rw[Zy,Xg (by omega)]at f;have f:Q3 E.a h=Q3 (E.a.take j++[E.a[j]]) h:=f;rw[JfW,XS,Zd (by omega)]at f;by_cases w:E.a[j].1=h
   ·rw[Xe w]at f;have N:(E.a[j].1=h)=True:=Zn w;simp[XZ,J,M,u,m,y,W,X,N];refine l _ _ (fun r b=>s.d r b) fun _=> ?_;rw[f]
   ·rw[Xa w]at f;simp[XZ,J,M,u,m,y,W,X,w,k];exact⟨j,by omega,hL _ _ _ ⟨by omega,J,M,rfl,rfl,f⟩⟩
theorem JtS {p:List Str}(h:SlAt v z d 1 (strs e))(c:SlAt l z w 1 (strs p))(Z:k<=p.length)(hl:e.length<100000):
  Dz 207 [d,w, .d .i64 (k:Nat)] z fun f u=>f= .h (decide (e=p.take k))/\z=u:=by
 refine Jl (aT Tryz.func207 rfl) rfl ?_;have y:=h.G;rw[Jv]at y;simp only[CT,Tryz.f207,XY,simprocAttr];rw[Ja];simp[XY];by_cases X:e.length=k;rotate_left
 ·have g:¬e=p.take k:=fun g=>X (by grind);have q:¬(e.length:Int)=k:=by omega
  rw[Jd,Ja];simp[XZ,y,q,g]
 have q:(e.length:Int)=k:=by omega
 rw[Jd,Ja];simp[XY,y,q];rw[Jd,Ja];simp[XY];refine Jo (fun j t u=>∃i:Nat,j+i=k/\t 0=d/\t 1=w/\t 2= .d .i64 (k:Nat)/\t 7= .d .i64 (i:Nat)/\z=u/\decide (e=p.take k)=decide (e.drop i=(p.take k).drop i)) k (by omega) ⟨0,by omega,rfl,rfl,rfl,by rfl,rfl,rfl⟩ ?_;rintro L hL j t u ⟨i,hj,J,K,x,M,rfl,m⟩;have tl:(p.take k).length=k:=by grind
 by_cases N:i<k;rotate_left
 ·rw[XB (by omega),XB (by omega)]at m;simp[XZ,x,M,N,m]
 have s:=wiN (i:=i) (by omega);obtain⟨r,o,O,Q⟩:=Q7 h (i:=i) (by omega);obtain⟨r',o',T,U⟩:=Q7 c (i:=i) (by omega);have Y:decide (e.drop i=(p.take k).drop i)=(decide (e[i]=p[i])&&decide (e.drop (i+1)=(p.take k).drop (i+1))):=by
  rw[Xc (show i<e.length by omega),Xc (show i<(p.take k).length by omega),List.getElem_take]
  grind
 rw[Y]at m;by_cases W:e[i]=p[i]
 ·simp[XZ,J,K,x,M,N,O,Q,T,U,W,s];exact⟨k-(i+1),by omega,hL _ _ _ ⟨i+1,by omega,J,K,x,rfl,rfl,by grind⟩⟩
 ·simp[XZ,J,K,x,M,N,O,Q,T,U,W,m]
end Go.Proofs.YtdajkeoobbonjaaGreat
