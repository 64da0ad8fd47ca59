/- Nodes of a table, opened. A type opened. An Opt's number. What is wrong with a type, an -/
import Derived.Test.YtmcjecniobkggaaGreatQ2
set_option linter.constructorNameAsVariable false
set_option maxHeartbeats 8000000
set_option linter.unusedVariables false
set_option linter.unusedSimpArgs false
set_option linter.unusedSectionVars false
set_option maxRecDepth 100000
namespace Go.Proofs.YtmcjecniobkggaaGreat
open Eva Go.RowKit
variable {s P:Pt->Prop}{v:St}{e:List (Str×Ty)}{n b:List V}{t:Nat}{k i:Pt}{z:Sch}{d:Tb}{r:Ty}{q:V}
theorem addTop {F P:Pt->Prop}(L:WF v)(Q:Tab s F v k d)(q:TyC P v n r)(S:∀b,P b->¬s b):
  Dz 29 [.e k 0, .j n] v fun c l=>Ch s v l/\(∃x N:Pt->Prop,(∀b,s b->x b)/\(∀b,x b->s b\/v.A b= .none)/\(∀b,N b->F b\/v.A b= .none)/\Tab x N l k (addT r 400 d).1)/\c= .p [.d .i64 ((addT r 400 d).2.1:Nat), .d .i64 (addT r 400 d).2.2.1]:=by
 refine Jl (aT Tryz.func29 rfl) rfl ?_;obtain⟨f,h⟩:=nxE v;have O:=q.G;have y:n.take 4=n:=by rw[<-O,Zf]
 have T:4<=n.length:=by omega
 have z:JF [V.d .i64 0] 0 [.d .i64 400]=[.d .i64 400]:=rfl;simp only[CT,Tryz.f29,XM,simprocAttr,h,q.J,O,y,z];have i:Gr v (((v.B fun t=> .a t n).B fun t=> .a t [.d .i64 0]).D (up 1 f) (v.B fun t=> .a t n).t fun u=> .a u [.d .i64 400]):=(Gr.G L (Jd _)).M (by simp only[Y7,h,Y6,ZD]) (Jd _) (Jd _);obtain⟨U,X,Y,Z,es,sv,m⟩:=Q.B;have K:Tab s (fun b=>F b/\v.A b≠ .none) _ k d:=Tab.G ⟨U,X,Y,Z,es,sv,m⟩ i;have o:=nx0 L h 1;refine Jc (add _ r (XK _) s _ (fun b=>P b/\v.A b≠ .none) _ k (up 1 f) d n 400 _ i.D K ((q.A fun b p n=>⟨⟨p,n⟩,rfl⟩).H i) (fun b p=>⟨S b p.1,fun g=>p.2 (by rw[g];exact o)⟩) (by rw[Jk]) (fun w=>m.u _ w o) (fun w=>w.2 o) (by decide) (by decide)) ?_;rintro _ S2 ⟨⟨c2,⟨W2,F2,b1,b2,b3,T2⟩,_⟩,rfl⟩;simp only[XZ,simprocAttr];refine⟨(Ch.H s i).A c2 fun b w=> ?_,W2,F2,b1,fun b w=> ?_,fun b w=> ?_,T2⟩
 ·rcases w with w|w
  ·exact .inl w
  ·exact .inr (by rw[w];exact o)
 ·rcases b2 b w with w|w;exact .inl w;exact .inr (Ch.B (Ch.H s i) w)
 ·rcases b3 b w with w|w;exact .inl w.1;exact .inr (Ch.B (Ch.H s i) w)
theorem JtL {F Q:Pt->Prop}{id:Nat}(N:WF v)(m:Tab s F v k d)(hi:id<d.a.length)(hQ:∀r,v.A r= .none->Q r):
  Dz 130 [.e k 0, .d .i64 id] v fun b O=>Gr v O/\∃e,b= .p [.j e, .h true]/\NdC Q O e d.a[id]:=by
 refine Jn tabM (aT Tryz.func130 rfl) rfl N fun K aa=> ?_;obtain⟨lv,ra,rn,rs,es,sv,m⟩:=m;obtain⟨n,i⟩:=nxE v;have P:=fun r (h:v.A r≠ .none)=>jM N i h;obtain⟨t,c⟩:=m.s;have T:id<es.length:=by rw[m.D];exact hi
 obtain⟨q,qo,a1,a2,a3,a4,a5,a6⟩:=m.I T;have U:=m.H id T hi;have o:=m.J _ (Xh hi);obtain⟨E,hE⟩:∃E,E=es[id]:=⟨_,rfl⟩
 rw[<-hE]at a5 U;obtain⟨X,Y,rfl,h1,h2⟩:=U;have ab:=fun f=>nes (Jr N i m.B f);have oq:=fun f=>nes (Jr N i a2 f);have i0:¬(id:Int)<0:=by omega
 have i1:¬(d.a.length:Int)<=(id:Int):=by omega
 have y:Gr v (((v.B fun t=> .a t [.d .i64 0,ofL [], .g, .g]).B fun t=> .a t [.d .i64 0,ofL [], .g, .g]).D (up 1 n) (v.B fun t=> .a t [.d .i64 0,ofL [], .g, .g]).t fun u=> .a u [.d .i64 d.a[id].a,ofL d.a[id].d,X,Y]):=(Gr.G N (Jd _)).M (by simp only[Y7,i,Y6,ZD]) (Jd _) (Jd _);have r0:St.A (((v.B fun t=> .a t [.d .i64 0,ofL [], .g, .g]).B fun t=> .a t [.d .i64 0,ofL [], .g, .g]).D (up 1 n) (v.B fun t=> .a t [.d .i64 0,ofL [], .g, .g]).t fun u=> .a u [.d .i64 d.a[id].a,ofL d.a[id].d,X,Y]) (up 0 n)= .a v.t [.d .i64 0,ofL [], .g, .g]:=by simp only[XZ,simprocAttr,i]
 have r1:St.A (((v.B fun t=> .a t [.d .i64 0,ofL [], .g, .g]).B fun t=> .a t [.d .i64 0,ofL [], .g, .g]).D (up 1 n) (v.B fun t=> .a t [.d .i64 0,ofL [], .g, .g]).t fun u=> .a u [.d .i64 d.a[id].a,ofL d.a[id].d,X,Y]) (up 1 n)= .a _ [.d .i64 d.a[id].a,ofL d.a[id].d,X,Y]:=Jk _ _ _ _;simp only[CT,Tryz.f130,XZ,simprocAttr,i,ab,oq,c,m.l.B,i0,i1,a1,a5,h1.A,h2.A,h1.B,h2.B];refine Jj (JfJ (.inr rfl) (Q:=fun r=>v.A r= .none/\r≠up 0 n/\r≠up 1 n) (Js y.D _) ((h1.H y).L _) (Yp _) (by rw[Jw];have:=o.1;omega) ?_) ?_
 ·exact fun r w=>⟨Ch.B (Ch.H (fun _=>False) y) w,(fun e=>Jb r0 ((congrArg (St.A _) e).symm.trans w)),(fun e=>Jb r1 ((congrArg (St.A _) e).symm.trans w))⟩
 rintro ad S2 z x;have x:=x.S;have Z:S2.A (up 1 n)= .a _ [.d .i64 d.a[id].a,ofL d.a[id].d,X,Y]:=z.A r1;have b0:S2.A (up 0 n)= .a _ [.d .i64 0,ofL [], .g, .g]:=z.A r0;simp only[XZ,simprocAttr,Z];refine Jj (JfJ (.inl rfl) (Q:=fun r=>v.A r= .none/\r≠up 0 n/\r≠up 1 n) (Js z.D _) (((h2.H y).H z).L _) (JdT _) (by rw[JS];have:=o.2;omega) ?_) ?_
 ·exact fun r w=>⟨Ch.B (Ch.H (fun _=>False) (y.B z)) w,fun e=>Jb b0 (by rw[<-e];exact w),fun e=>Jb Z (by rw[<-e];exact w)⟩
 rintro ae S3 g3 c3;have c3:=c3.S;have x:=x.H g3;have Z:=g3.A Z;have b0:=g3.A b0;have G3:=(y.B z).B g3;simp only[XZ,simprocAttr,Z,b0,x.A,c3.A,x.B,c3.B];refine aa _ _ (fun r e=>by simp only[J6,P r e,X2];exact G3.d r e) fun _=>⟨_,rfl,ad,ae,rfl,x.D fun r p e=>⟨hQ r p.1, ?_⟩,c3.D fun r p e=>⟨hQ r p.1, ?_⟩⟩
 ·simp only[J6,p.2.1,p.2.2,X2]
 ·simp only[J6,p.2.1,p.2.2,X2]
def Jc7 (tb:Tb)(z:Int):Nat×Bool:=if z<0 then(0,false)else Ku tb (tb.a.length+1) z.toNat
theorem JtM {F:Pt->Prop}{id:Int}(hw:WF v)(u:Tab s F v k d):
  Dz 129 [.e k 0, .d .i64 id] v fun f ad=>f= .p [.d .i64 ((Jc7 d id).1:Nat), .h (Jc7 d id).2]/\v=ad:=by
 refine Jl (aT Tryz.func129 rfl) rfl ?_;obtain⟨lv,ra,rn,rs,es,sv,u⟩:=u;obtain⟨t,c⟩:=u.s;have U:IntKind.i64.wrap ((d.a.length:Int)+1)=((d.a.length+1:Nat):Int):=by have:=u.N;rw[JV (by omega) (by omega)];rfl
 simp only[CT,Tryz.f129,XZ,simprocAttr,c,u.l.B,U];obtain⟨K,hK⟩:∃K:V->St->Prop,∀f S,K f S<->(f= .p [.d .i64 ((Jc7 d id).1:Nat), .h (Jc7 d id).2]/\v=S):=⟨_,fun _ _=>Iff.rfl⟩
 simp[<-hK];obtain⟨L,hL⟩:=loE fun j X S=>∃(i:Nat) (z:Int),S=v/\j+i=d.a.length+1/\X 0= .e k 0/\X 1= .d .i64 z/\X 13= .d .i64 ((d.a.length+1:Nat):Int)/\X 14= .d .i64 i/\Jc7 d id=if z<0 then(0,false)else Ku d (d.a.length+1-i) z.toNat;have:=u.N;refine JC L (d.a.length+1) (by omega) ((hL _ _ _).2 ⟨0,id,rfl,by omega,rfl,rfl,rfl,by rfl,rfl⟩) ?_;intro j X S ae;obtain⟨i,z,rfl,hj,Q,Y,m,w,g⟩:=(hL _ _ _).1 ae;by_cases hi:i<d.a.length+1
 ·have r:(i:Int)<((d.a.length+1:Nat):Int):=by omega
  by_cases Z:z<0
  ·simp only[XZ,simprocAttr,Y,m,w,r,Z]
   grind
  obtain⟨a,rfl⟩:∃a:Nat,z=a:=⟨z.toNat,by omega⟩
  rw[Xa (by omega),show d.a.length+1-i=(d.a.length-i)+1 by omega]at g;simp at g;by_cases z1:d.a.length<=a
  ·have x:(d.a.length:Int)<=(a:Int):=by omega
   rw[qG z1]at g;simp only[XZ,simprocAttr,Q,Y,m,w,r,Z,c,u.l.B,x]
   grind
  have x:¬(d.a.length:Int)<=(a:Int):=by omega
  have ha:a<d.a.length:=by omega
  have M:a<es.length:=by rw[u.D];exact ha
  obtain⟨q,qo,a1,a2,a3,a4,a5,a6⟩:=u.I M;have aa:=u.H a M ha;have P:=a6 0;have T:=a6 1;obtain⟨E,hE⟩:∃E,E=es[a]:=⟨_,rfl⟩
  simp[<-hE]at aa P T;obtain⟨nv,kv,rfl,h1,h2⟩:=aa;have P:=P (by simp);have T:=T (by simp);simp at P T;by_cases k9:d.a[a].a=9
  ·have O:(d.a[a].a=9)=True:=XL k9;have n:=kP (e:= .a .s) u.o (.d .i64 0) true d.a[a].d (YR _ _) rfl;rw[Jmc]at n;have y:=wiN (i:=i) (by omega);have ab:defI d d.a[a].d=(d.c.find? fun p=>d.a[a].d=p.1).map (·.2):=rfl;rw[<-ab]at n
   cases hd:defI d d.a[a].d with
   | none=>
     rw[Jds ha k9 hd]at g;rw[hd]at n;simp[ansL]at n;simp only[XZ,simprocAttr,Q,Y,m,w,r,Z,c,u.l.B,x,a1,P,T,O,n,y];exact⟨d.a.length+1-(i+1),by omega,(hL _ _ _).2 ⟨i+1,-1,rfl,by omega,Q,rfl,m,rfl,by grind⟩⟩
   | some b=>
     rw[j7 ha k9 hd]at g;rw[hd]at n;simp[ansL]at n;simp only[XZ,simprocAttr,Q,Y,m,w,r,Z,c,u.l.B,x,a1,P,T,O,n,y];exact⟨d.a.length+1-(i+1),by omega,(hL _ _ _).2 ⟨i+1,b,rfl,by omega,Q,rfl,m,rfl,by grind⟩⟩
  ·have O:(d.a[a].a=9)=False:=XF k9;rw[qH ha k9]at g;simp only[XZ,simprocAttr,Q,Y,m,w,r,Z,c,u.l.B,x,a1,P,O]
   grind
 ·have r:¬(i:Int)<((d.a.length+1:Nat):Int):=by omega
  have M:i=d.a.length+1:=by omega
  simp only[XZ,simprocAttr,m,w,r];rw[hK,g,M,Nat.sub_self];refine⟨?_,rfl⟩
  split<;>rfl
theorem JtN {F:Pt->Prop}{id:Nat}(f:WF v)(g:Tab s F v k d):
  Dz 129 [.e k 0, .d .i64 id] v fun b c=>b= .p [.d .i64 ((Ku d (d.a.length+1) id).1:Nat), .h (Ku d (d.a.length+1) id).2]/\v=c:=by
 have e:Jc7 d (id:Int)=Ku d (d.a.length+1) id:=by rfl
 rw[<-e];exact JtM f g
theorem optC {F:Pt->Prop}(id:Nat)(j:WF v)(l:Tab s F v k d):
  Dz 200 [.e k 0, .d .i64 id] v fun b c=>Ch s v c/\(∃h i:Pt->Prop,(∀r,s r->h r)/\(∀r,h r->s r\/v.A r= .none)/\(∀r,i r->F r\/v.A r= .none)/\Tab h i c k (layS d ⟨6,[],[],[id]⟩).1)/\b= .p [.d .i64 ((layS d ⟨6,[],[],[id]⟩).2.1:Nat), .d .i64 (layS d ⟨6,[],[],[id]⟩).2.2]:=by
 refine Jl (aT Tryz.func200 rfl) rfl ?_;obtain⟨n,f⟩:=nxE v;simp only[CT,Tryz.f200,XZ,simprocAttr,f];have g:Gr v (v.B fun u=> .a u [.d .i64 (id:Int)]):=Gr.G j (Jd _);refine Jc (lay (P:=fun _=>True) (nd:=⟨6,[],[],[id]⟩) g.D (l.G g) ⟨.g, .m (up 0 n) 0 1 1 1,rfl,SlAt.K _ _ _, ?_⟩ ⟨XC _,by simp⟩) ?_
 ·refine⟨Jb5 _, .inr ⟨up 0 n,0,trivial, .inr ⟨1,Xb _,rfl⟩,[.d .i64 (id:Int)], .inl ⟨v.t,by simp[XZ,f]⟩,Xb _,rfl⟩⟩
 ·rintro _ N ⟨o,⟨q,x,y,z,L,M⟩,rfl⟩;simp only[XZ,simprocAttr];exact⟨(Ch.H s g).A o fun r w=> .inl w,q,x,y,fun r w=>by rcases z r w with w|w;exact .inl w;exact .inr (Ch.B (Ch.H s g) w),fun r w=>by rcases L r w with w|w;exact .inl w;exact .inr (Ch.B (Ch.H s g) w),M⟩
def zty :V:= .j [.d .i64 0,ofL [], .g, .g]
theorem mayC :∀(m:Nat) (ty:Ty),tsz ty<m->∀(P:Pt->Prop) (z:St) (O Y:Pt) (l:List (Str×Ty)) (e:List V) (f o tk:Nat),WF z->Jdu P z Y l->TyC P z e ty->(∀r,P r->r≠O)->Y≠O->z.A O= .a tk [.q Y, .d .i64 o]->f<=13->o<=400->
  Dz 65 [.e O 0, .j e, .d .i64 f] z fun v ba=>Ch (fun r=>r=O) z ba/\(∃t,ba.A O= .a t [.q Y, .d .i64 ((mayS (hasN l) ty f o).2:Nat)])/\v= .d .i64 (mayS (hasN l) ty f o).1
 |0,_,h=>absurd h (by omega)
 | m+1, .mk k x Q y,hm=>by
   intro P z O Y l e f o tk hw hM hx hP ai aj bh bz;refine JeV tabM (aT Tryz.func65 rfl) rfl hw fun K au=> ?_;obtain⟨n,Z⟩:=nxE z;have b0:=fun r (h:z.A r≠ .none)=>jM hw Z h;obtain⟨nv,kv,es,rfl,x1,x2,x3,x4⟩:=hx.D;have l1:=x1.G;have l2:=x2.G;rw[Jw]at l1;rw[x3]at l2;have hS:=qI (hasN l) k x Q y f o;obtain⟨zv,hz,ak⟩:=hM.B zty x;have bi:∃c,zv= .j c/\c.length=4/\Kk c=true:=by
    cases hd:defN l x with
    |none=>rw[hd]at ak;exact⟨_,ak,rfl,rfl⟩
    |some t=>rw[hd]at ak;obtain⟨c,a,b⟩:=ak;exact⟨c,a,b.G,b.J⟩
   obtain⟨zc,rfl,bj,bk⟩:=bi;have b7:(4:Nat)<=4:=Xb 4;have av:=wiN (i:=o) (by omega);have al:=fun k=>nes (Jr hw Z (Jb aj) k);have ae:z.A Y≠ .none:=by obtain⟨_,h,_⟩:=hM;exact h.A
   have bl:=fun k=>nes (Jr hw Z ae k);have bm:=nes ai;have bn:∀S:St,S.A Y=z.A Y->jz S (.a .s) (.j [.d .i64 0,ofL [], .g, .g]) true (.q Y) (ofL x)=some (.p [.j zc, .h (hasN l x)], .a):=fun S hS=>hz true S hS;have bo:JF [V.d .i64 0,ofL [], .g, .g] 0 zc=zc:=YI (by grind);have b8:JF [.q Y, .d .i64 (o:Int)] 1 [.d .i64 ((o+1:Nat):Int)]=[.q Y, .d .i64 ((o+1:Nat):Int)]:=rfl;have g0:Gr z (z.B fun t=> .a t [.d .i64 k,ofL x,nv,kv]):=Gr.G hw (Jd _);obtain⟨S1,am⟩:∃S1,S1=(((z.B fun t=>Row.a t [V.d IntKind.i64 k,ofL x,nv,kv]).D O tk fun u=>Row.a u [V.q Y,V.d IntKind.i64 ((o+1:Nat):Int)]).B fun t=>Row.a t [V.d IntKind.i64 0,ofL [],V.g,V.g]).D (up 1 n) ((z.B fun t=>Row.a t [V.d IntKind.i64 k,ofL x,nv,kv]).D O tk fun u=>Row.a u [V.q Y,V.d IntKind.i64 ((o+1:Nat):Int)]).t fun u=>Row.a u zc:=⟨_,rfl⟩
   have c1:Ch (fun r=>r=O) z S1:=by
    rw[am];exact((Ch.H (fun r=>r=O) g0).J (Jb (g0.A aj)) (by rw[g0.A aj];rfl) (.inl rfl) (Jd _)).L (p:=up 1 n) (by simp[Jac,Y7,Z,Y6]) (Jd _) (Jd _)
   have aa:S1.A O= .a (z.t+1) [.q Y, .d .i64 ((o+1:Nat):Int)]:=by rw[am];simp only[XZ,simprocAttr,Z,al];rfl
   have W:S1.A (up 0 n)= .a z.t [.d .i64 k,ofL x,nv,kv]:=by rw[am];simp only[XZ,simprocAttr,Z,al]
   have bb:TyC P S1 [.d .i64 k,ofL x,nv,kv] (.mk k x Q y):=hx.A fun r p e=>⟨p,c1.d r e (hP r p)⟩
   have done:∀(S:St) (e:Int),Ch (fun r=>r=O) z S->(∃t,S.A O= .a t [.q Y, .d .i64 ((o+1:Nat):Int)])->mayS (hasN l) (.mk k x Q y) f o=(e,o+1)->K (.d .i64 e) S:=fun S e h1 h2 h3=>by
    refine au _ _ (fun r a b=>h1.d r a b) fun _=> ?_
    grind
   simp only[CT,Tryz.f65,XY,simprocAttr];rw[Ja];simp only[XY,simprocAttr,Z,x1.B,x2.B];rw[Ja];simp only[XY,simprocAttr,Z,al,aj,av];rw[Ja];simp only[XN,simprocAttr,Z,al,bn,bl,bm,bj,bk,bo];simp only[<-am];refine YQ (fun N S=>S1=S/\N 0= .e O 0/\N 2= .d .i64 f/\N 4= .e (up 0 n) 0/\N 8= .h (hasN l x)/\N 9= .h (decide (k=7\/k=8))) ?_ ?_
   ·by_cases c7:k=7
    ·simp only[XZ,simprocAttr,W,c7];simp
    ·by_cases c8:k=8
     ·simp only[XZ,simprocAttr,W,c8];simp
     ·simp only[XZ,simprocAttr,W,c7,c8];simp
   rintro N _ ⟨rfl,f0,f2,U,f8,f9⟩;by_cases d1:400<o+1
   ·have ad:(400:Int)<((o+1:Nat):Int):=by omega
    simp only[XZ,simprocAttr,f0,aa,ad]
    grind
   have ad:¬(400:Int)<((o+1:Nat):Int):=by omega
   rw[Xa d1]at hS;by_cases d2:12<f
   ·have af:(12:Int)<(f:Int):=by omega
    simp only[XZ,simprocAttr,f0,f2,aa,ad,af]
    grind
   have af:¬(12:Int)<(f:Int):=by omega
   rw[Xa d2]at hS;by_cases d3:k<1\/9<k
   ·rw[Xd d3]at hS;by_cases ao:k<1
    ·simp only[XZ,simprocAttr,f0,f2,U,aa,W,ad,af,ao]
     grind
    ·have aw:9<k:=by omega
     simp only[XZ,simprocAttr,f0,f2,U,aa,W,ad,af,ao,aw]
     grind
   have ao:¬k<1:=by omega
   have aw:¬9<k:=by omega
   rw[Xa d3]at hS;refine Jz (fun N S=>((¬(y.length≠KX (.mk k x Q y)\/(x≠[]/\k≠9)\/(0<Q.length/\¬(k=7\/k=8)))/\¬(k=9/\hasN l x=false))/\Gr S1 S/\N 0= .e O 0/\N 2= .d .i64 f/\N 4= .e (up 0 n) 0)) (fun J hJ=> ?_) ?_
   ·simp only[XY,simprocAttr];rw[Ja];simp only[XY,simprocAttr,f0,aa,ad];rw[Ja];simp only[XY,simprocAttr,f2,af];rw[Ja];simp only[XY,simprocAttr,U,W,ao,aw];obtain⟨B,hB⟩:∃B:Prop,B=(y.length≠KX (.mk k x Q y)\/(x≠[]/\k≠9)\/(0<Q.length/\¬(k=7\/k=8))):=⟨_,rfl⟩
    refine Ji7 (fun N S=>(Gr S1 S/\N 0= .e O 0/\N 2= .d .i64 f/\N 4= .e (up 0 n) 0/\N 8= .h (hasN l x)/\∃b:Bool,N 57= .h b/\(b=true<->B))) (fun I hI=> ?_) ?_
    ·simp only[XZ,simprocAttr,U,W,l2];refine Jj (JtE (Js c1.D _) (bb.I _)) ?_;rintro _ S2 X rfl;have b2:=X.A W;by_cases e1:(y.length:Int)=(KX (.mk k x Q y):Nat)
     ·by_cases e2:x=[]
      ·by_cases e4:(0:Int)<Q.length
       ·simp only[XZ,simprocAttr,U,f9,b2,l1,e1,e2,e4];refine hI _ _ ⟨X,f0,f2,U,f8, ?b1,by rfl, ?_⟩
        grind
       ·simp only[XZ,simprocAttr,U,b2,l1,e1,e2,e4];refine hI _ _ ⟨X,f0,f2,U,f8, ?b2,by rfl, ?_⟩
        grind
      ·by_cases e3:k=9
       ·by_cases e4:(0:Int)<Q.length
        ·simp only[XZ,simprocAttr,U,f9,b2,l1,e1,e2,e3,e4];refine hI _ _ ⟨X,f0,f2,U,f8, ?b3,by rfl, ?_⟩
         grind
        ·simp only[XZ,simprocAttr,U,b2,l1,e1,e2,e3,e4];refine hI _ _ ⟨X,f0,f2,U,f8, ?b4,by rfl, ?_⟩
         grind
       ·simp[XZ,U,b2,e1,e2,e3];refine hI _ _ ⟨X,f0,f2,U,f8, ?b5,by rfl, ?_⟩
        grind
     ·simp[XZ,e1];refine hI _ _ ⟨X,f0,f2,U,f8, ?b6,by rfl, ?_⟩
      grind
    rintro N S2 ⟨X,f0,f2,U,f8,b,ap,hb⟩;rw[hB]at hb;have b2:=X.A W;have cS:Ch (fun r=>r=O) z S2:=c1.I X
    cases b with
    | true=>
      simp[XZ,ap];exact done _ _ cS ⟨_,X.A aa⟩ (by grind)
    | false=>
      have ax:¬(y.length≠KX (.mk k x Q y)\/(x≠[]/\k≠9)\/(0<Q.length/\¬(k=7\/k=8))):=fun h=>by grind
      rw[Xa ax]at hS;by_cases e9:k=9
      ·have aq:(k=9)=True:=XL e9
       cases hh:hasN l x with
       | false=>
         rw[hh]at f8;simp[XZ,ap,U,f8,b2,aq];exact done _ _ cS ⟨_,X.A aa⟩ (by grind)
       | true=>
         rw[hh]at f8;simp[XZ,ap,U,f8,b2,aq];exact hJ _ _ ⟨⟨ax,fun h=>by grind⟩,X,f0,f2,U⟩
      ·have aq:(k=9)=False:=XF e9;simp[XZ,ap,U,b2,aq];exact hJ _ _ ⟨⟨ax,fun h=>e9 h.1⟩,X,f0,f2,U⟩
   ·rintro N S2 ⟨⟨bc,bp⟩,X,f0,f2,U⟩;rw[Xa bc,Xa bp]at hS;have b2:=X.A W;have cS:Ch (fun r=>r=O) z S2:=c1.I X;simp[XZ,U,b2];refine Jc (JqY X.D (bb.H X)) ?_;rintro _ S3 ⟨g3,rfl⟩;by_cases ef:KH (.mk k x Q y)=0
    ·have ay:(KH (.mk k x Q y)=0)=True:=XL ef;simp[XZ,ay,U,g3.A b2,l2];rw[Xa (by omega)]at hS;have G3:=cS.I g3;have bq:=g3.A (X.A aa);obtain⟨L,hL⟩:=loE fun j N S=>∃i mi ti,j+i=y.length/\N 0= .e O 0/\N 2= .d .i64 f/\N 98=kv/\N 99= .d .i64 y.length/\N 100= .d .i64 (i:Nat)/\Ch (fun r=>r=O) z S/\S.A O= .a ti [.q Y, .d .i64 (mi:Nat)]/\mi<=400/\JD (hasN l) y (f+1) (o+1)=JD (hasN l) (y.drop i) (f+1) mi;have b9:Q.length<=8:=by
      have h:(if 8<Q.length then(3:Int)else if Km none Q≠0 then Km none Q else if k=8/\Q=[]then 12 else 0)=0:=ef;omega
     have br:y.length<1000000:=by
      have e1:y.length=KX (.mk k x Q y):=Xf fun e=>bc (.inl e);have e2:KX (.mk k x Q y)<=8:=by
       show(if k=4\/k=5\/k=6 then 1 else if k=7\/k=8 then Q.length else 0)<=8
       grind
      omega
     refine JC L y.length br ((hL _ _ _).2 ⟨0,o+1,_,by omega,f0,f2,rfl,rfl,by rfl,G3,bq,by omega,rfl⟩) ?_;intro j N S bt;obtain⟨i,mi,ti,hj,f0,f2,bd,az,ag,hC,rk,be,ab⟩:=(hL _ _ _).1 bt;have wS:=hC.D;obtain⟨nS,a0⟩:=nxE S;by_cases hi:i<y.length
     ·have ar:i<es.length:=by omega
      have a6:∀r,P r->z.A r≠ .none->S.A r=z.A r:=fun r p e=>hC.d r e (hP r p);obtain⟨q,qo,a1,a2,a3,a4,a5⟩:=(x2.D fun r p e=>⟨p,a6 r p e⟩:SlAt P S kv 4 es).I ar;have oq:=fun k=>nes (Jr wS a0 a3 k);have ah:=x4 i ar hi;obtain⟨E,hE⟩:∃E,E=es[i]:=⟨_,rfl⟩
      obtain⟨T,hT⟩:∃T,T=y[i]:=⟨_,rfl⟩
      rw[<-hE]at a4 ah;rw[<-hT]at ah;have bu:tsz T<m:=by rw[hT];have:=YP (k:=k) (n:=x) (ns:=Q) hi;omega
      have e4:=ah.G;have bv:=ah.J;have bf:JF [.d .i64 0,ofL [], .g, .g] 0 E=E:=YI (by grind);have bw:E.take 4=E:=by grind
      have ca:4<=E.length:=by omega
      have bx:=wiN (i:=f) (by omega);have a7:=wiN (i:=i) (by omega);simp[XM,f0,f2,bd,az,ag,hi,a1,a4,a0,e4,bv,bf,bw,bx];have gS:Gr S ((S.B fun t=> .a t [.d .i64 0,ofL [], .g, .g]).D (up 0 nS) S.t fun u=> .a u E):=(Gr.F wS).M a0 (Jd _) (Jd _);refine Jc (mayC m T bu P _ O Y l E (f+1) mi ti gS.D (hM.A (by rw[gS.d Y (by rw[hC.d Y ae ai];omega),hC.d Y ae ai]) fun r p e=>⟨p,by rw[gS.d r (by grind),a6 r p e]⟩) ((ah.A fun r p e=>⟨p,a6 r p e⟩).H gS) hP ai (gS.A rk) (by omega) be) ?_;rintro _ S4 ⟨c4,⟨t4,r4⟩,rfl⟩;rw[Xc hi,Kg,<-hT]at ab;have a8:=QN (hasN l) T (f+1) mi be;have bg:Ch (fun r=>r=O) z S4:=(hC.I gS).A c4 fun r w=> .inl w;by_cases he:(mayS (hasN l) T (f+1) mi).1=0
      ·rw[Xa (by omega)]at ab;have a9:((mayS (hasN l) T (f+1) mi).1=0)=True:=XL he;simp[XZ,a9,ag,a7];exact⟨y.length-(i+1),by omega,(hL _ _ _).2 ⟨i+1,_,t4,by omega,f0,f2,bd,az,rfl,bg,r4,a8.2 he,ab⟩⟩
      ·rw[Xd (by omega)]at ab;have a9:((mayS (hasN l) T (f+1) mi).1=0)=False:=XF he;simp[XZ,a9];refine au _ _ (fun r a b=>bg.d r a b) fun _=> ?_
       grind
     ·have ar:i=y.length:=by omega
      rw[ar,Z3,QU]at ab;simp[XZ,az,ag,hi];refine au _ _ (fun r a b=>hC.d r a b) fun _=> ?_
      grind
    ·have ay:(KH (.mk k x Q y)=0)=False:=XF ef;simp[XZ,ay];exact done _ _ (cS.I g3) ⟨_,g3.A (X.A aa)⟩ (by grind)
structure KF (P:Pt->Prop) (st:St) (kr rm:Pt) (l:List (Str×Ty)) (met:Nat):Prop where
 b:Jdu P st rm l
 a:∃t,st.A kr= .a t [.q rm, .d .i64 met]
 d:∀r,P r->r≠kr
 f:rm≠kr
theorem KF.A {P:Pt->Prop}{st:St}{g e:Pt}{l:List (Str×Ty)}{c:Nat}(h:KF P st g e l c):st.A e≠ .none:=by
 obtain⟨_,h,_⟩:=h.b;exact h.A
theorem KF.B (h:KF s v k i e t):v.A k≠ .none:=by
 obtain⟨_,h⟩:=h.a
 grind
theorem KF.F {m:St}{n:Pt}{l:List (Str×Ty)}{j:Nat}(h:KF s v i n l t)(c:Ch (fun r=>r=i) v m)(k:∃g,m.A i= .a g [.q n, .d .i64 j]):KF s m i n l j:=
 ⟨h.b.A (c.d n h.A h.f) fun r p e=>⟨p,c.d r e (h.d r p)⟩,k,h.d,h.f⟩
theorem KF.D {st':St}{l:List (Str×Ty)}(h:KF s v k i l t)(g:Gr v st'):KF s st' k i l t:=
 h.F (Ch.H _ g) (by obtain⟨c,e⟩:=h.a;exact⟨c,g.A e⟩)
theorem mayD {deep:Nat}(q:WF v)(hL:KF s v k i e t)(u:TyC s v n r)(w:deep<=13)(p:t<=400):
  Dz 65 [.e k 0, .j n, .d .i64 deep] v fun g o=>Ch (fun h=>h=k) v o/\KF s o k i e (mayS (hasN e) r deep t).2/\g= .d .i64 (mayS (hasN e) r deep t).1:=by
 obtain⟨m,x⟩:=hL.a;exact(mayC _ r (XK _) s v k i e n deep t m q hL.b u hL.d hL.f x w p).A fun g o ⟨a,b,c⟩=>⟨a,hL.F a b,c⟩
theorem JkZ {f:List Ty}(p:Ty->Bool)(O:WF v)(h:LstAt (TyC s v) s v q 4 f)(W:f.length<1000000)
  (X:∀i (l:i<f.length) (S:St) (e:List V),Gr v S->TyC s S e f[i]->Dz t (n++[.j e]++b) S fun q Y=>Gr S Y/\q= .h (p f[i])):
  Dz 121 [q, .D t n b] v fun Z w=>Gr v w/\Z= .d .i64 (match qL p f 0 with|some j=>(j:Int)|none=> -1):=by
 refine Jn tabM (aT Tryz.func121 rfl) rfl O fun K o=> ?_;have l1:=h.H;simp only[CT,Tryz.f121,XZ,simprocAttr,l1];refine Jy (fun j u S=>∃(i:Nat),Gr v S/\j+i=f.length/\u 0=q/\u 1= .D t n b/\u 7= .d .i64 f.length/\u 8= .d .i64 i/\qL p f 0=qL p (f.drop i) i) f.length W ⟨0,Gr.F O,by omega,rfl,rfl,rfl,by rfl,rfl⟩ ?_;rintro L hL j u S ⟨i,m,hj,Q,T,y,z,c⟩;by_cases l:i<f.length
 ·obtain⟨a,qo,E,a1,a2,a3,a4,M,e4,a5⟩:=(h.B (fun e x h=>h.H m) m.H:LstAt (TyC s S) s S q 4 f).A l;have k:=wiN (i:=i) (by omega);simp[XZ,Q,T,y,z,l,a1,a4];refine Jc (by simpa using X i l S E m M) ?_;rintro _ S2 ⟨U,rfl⟩;rw[Xc l,qL]at c
  cases hp:p f[i]with
  | true=>
    rw[Xd hp]at c;simp[XZ];refine o _ _ (fun r e=>(m.B U).d r e) fun _=> ?_;rw[c]
  | false=>
    rw[Xa (by grind)]at c;simp[XZ,z,k];exact⟨f.length-(i+1),by omega,hL _ _ _ ⟨i+1,m.B U,by omega,Q,T,y,rfl,c⟩⟩
 ·have N:i=f.length:=by omega
  rw[N,Z3,qL]at c;simp[XZ,y,z,l];refine o _ _ (fun r e=>m.d r e) fun _=> ?_;rw[c]
theorem YS {a:List Ty}{fa fb:List V}(p:Ty->Bool)(f:WF v)(h:LstAt (TyC s v) s v q 4 a)(n:a.length<1000000)
  (o:∀i (y:i<a.length) (S:St) (e:List V),Gr v S->TyC s S e a[i]->Dz t (fa++[.j e]++fb) S fun q u=>Gr S u/\q= .h (p a[i])):
  Dz 68 [q, .D t fa fb] v fun w c=>Gr v c/\w= .h (a.any p):=by
 refine Jn tabM (aT Tryz.func68 rfl) rfl f fun K b=> ?_;simp only[CT,Tryz.f68,XZ,simprocAttr];refine Jc (JkZ p f h n o) ?_;rintro _ z ⟨k,rfl⟩;have l:=JeY p a 0
 cases m:qL p a 0 with
 | none=>
   rw[m]at l;simp[XZ];refine b _ _ (fun r e=>k.d r e) fun _=> ?_
   grind
 | some j=>
   rw[m]at l;have x:(0:Int)<=(j:Int):=by omega
   simp[XZ,x];refine b _ _ (fun r e=>k.d r e) fun _=> ?_
   grind
theorem Jr5 :∀(m:Nat) (ty:Ty),tsz ty<m->∀(P:Pt->Prop) (o:St) (kr y:Pt) (l:List (Str×Ty)) (af:Nat) (e:List V),WF o->KF P o kr y l af->TyC P o e ty->l.length<1000000->cntT ty<1000000->
  Dz 70 [.e kr 0, .j e] o fun v a0=>Gr o a0/\v= .h (Jba l ty)
 |0,_,h=>absurd h (by omega)
 | m+1, .mk k X ns z,hm=>by
   intro P o kr y l af e Z hL hx hl a6;refine Jn tabM (aT Tryz.func70 rfl) rfl Z fun K am=> ?_;obtain⟨n,f⟩:=nxE o;obtain⟨nv,kv,es,rfl,x1,x2,x3,x4⟩:=hx.D;have l2:=x2.G;rw[x3]at l2;have hS:=Ji9 l k X ns z;have g0:Gr o (o.B fun t=> .a t [.d .i64 k,ofL X,nv,kv]):=Gr.G Z (Jd _);have a7:=fun k=>nes (Jr Z f hL.B k);have a8:=fun k=>nes (Jr Z f hL.A k);have ao:z.length<1000000:=by have h1:=Jb7 z;rw[Ys]at a6;omega
   have a9:(z.length=1)->((z.length:Int)=1)=True:=fun h=>XL (by omega);have ba:¬(z.length=1)->((z.length:Int)=1)=False:=fun h=>XF (by omega);have ap:LstAt (TyC P o) P o kv 4 z:=⟨es,x2,x3,x4⟩
   obtain⟨B,Y⟩:∃B:Bool,B=(if k=6/\z.length=1 then decide ((KP l l.length (z.headD QF)).A=6)else false):=⟨_,rfl⟩
   rw[<-Y]at hS;obtain⟨I,hI⟩:=opE fun fr S=>(Gr o S/\fr 0= .e kr 0/\fr 3= .e (up 0 n) 0/\S.A (up 0 n)= .a o.t [.d .i64 k,ofL X,nv,kv]/\B=false)
   simp only[CT,Tryz.f70,XY,simprocAttr];rw[Ja];simp[XY,f,x1.B,x2.B];have r0:(o.B fun t=> .a t [.d .i64 k,ofL X,nv,kv]).A (up 0 n)= .a o.t [.d .i64 k,ofL X,nv,kv]:=by simp[XZ,f]
   refine QE I ?_ ?_
   ·by_cases k6:k=6
    ·have aa:(k=6)=True:=XL k6;by_cases c1:z.length=1
     ·rw[Xd ⟨k6,c1⟩]at Y;have bb:0<z.length:=by omega
      obtain⟨x,bt⟩:∃x,z=[x]:=Hc.1 c1;obtain⟨q,qo,E,a1,a2,a3,a4,ag,e4,a5⟩:=ap.A bb;have a1:Jo 4 kv (.d .i64 0)=some (.e q qo, .a):=a1;have ag:TyC P o E x:=by grind
      have ah:z.headD QF=x:=by grind
      rw[ah]at Y;have oq:=fun k=>nes (Jr Z f a3 k);have bc:=ag.J;have aq:JF [.d .i64 0,ofL [], .g, .g] 0 E=E:=YI (by grind);obtain⟨tk,ck⟩:=hL.a;obtain⟨em,ab,bu,_⟩:=hL.b;obtain⟨tm,ab⟩:=ab;have ae:((em.map fun p=>(p.1,V.j p.2)).map fun p=>(ofL p.1,p.2)).length=l.length:=by grind
      have ar:∀S:St,S.A y=o.A y->Jlk S (.q y)=some (.e S.b 0, .b fun t=> .d t (some y) l.length 0):=fun S hS=>by rw[Jqw (hS.trans ab),ae]
      simp[XM,f,l2,aa,a9 c1,a1,oq,a4,e4,bc,aq,a7,ck,Jqv,Jsz,ar,a8];obtain⟨L,ad⟩:=loE fun j fr S=>∃(i t1 t2:Nat) (c:List V),j+i=l.length/\Gr o S/\fr 0= .e kr 0/\fr 3= .e (up 0 n) 0/\fr 5= .e (up 1 n) 0/\fr 23= .e (up 2 n) 0/\S.A (up 0 n)= .a o.t [.d .i64 k,ofL X,nv,kv]/\S.A (up 1 n)= .a t1 c/\TyC (fun r=>P r/\o.A r≠ .none) S c (KP l i x)/\S.A (up 2 n)= .d t2 (some y) l.length i;have gS:Gr o ((((o.B fun t=> .a t [.d .i64 k,ofL X,nv,kv]).B fun t=> .a t [.d .i64 0,ofL [], .g, .g]).D (up 1 n) (o.B fun t=> .a t [.d .i64 k,ofL X,nv,kv]).t fun u=> .a u E).B fun t=> .d t (some y) l.length 0):=(g0.M (by simp[Y7,f,Y6]) (Jd _) (Jd _)).L fun u=>⟨rfl,fun e=>by cases e⟩
      refine JC L l.length hl ((ad _ _ _).2 ⟨0,_,_,E,by omega,gS,rfl,rfl,rfl,rfl,by simp[XZ,f],by simp[XZ,f];rfl,(ag.A fun r p e=>⟨⟨p,e⟩,rfl⟩:TyC (fun r=>P r/\o.A r≠ .none) o E x).H gS,by simp[XZ,f];rfl⟩) ?_;intro j fr S bd;obtain⟨i,t1,t2,c,hj,U,f0,f3,f5,N,r0,r1,hc,r2⟩:=(ad _ _ _).1 bd;have au:S.A y= .b tm ((em.map fun p=>(p.1,V.j p.2)).map fun p=>(ofL p.1,p.2)):=(U.d y hL.A).trans ab;have be:=U.A ck;have c4:=hc.G;obtain⟨T,hT⟩:∃T,T=KP l i x:=⟨_,rfl⟩
      rw[<-hT]at hc;have w:=je l i x;rw[<-hT]at w;obtain⟨Q,n',bf,bg⟩:=T;have w:KP l (i+1) x=if Q=9 then(defN l n').getD QF else .mk Q n' bf bg:=w;obtain⟨ai,aj,bv,rfl,y1,y2,y3,y4⟩:=hc.D;have av:=nx0 Z f;have br:=Jl5 2 1 n;by_cases hi:i<l.length
      ·have O:=JkC (st:=S) (q:=up 2 n) (r:=y) (n:=i) (t:=t2) (es:=((em.map fun p=>(p.1,V.j p.2)).map fun p=>(ofL p.1,p.2))) (by grind) au (by omega);rw[ae]at O;have g2:Gr o (S.D (up 2 n) t2 fun u=> .d u (some y) l.length (i+1)):=U.J (av 2) (by grind) (by rw[r2];rfl) fun u=>⟨rfl,fun e=>by cases e⟩
       have bh:=nes (Jr Z f hL.A 2);have bi:=nes (Jr Z f hL.B 2);by_cases k9:Q=9
       ·have ak:(Q=9)=True:=XL k9;obtain⟨zv,hz,aw⟩:=hL.b.B (.j [.d .i64 0,ofL [], .g, .g]) n';have bj:∃c',zv= .j c'/\TyC P o c' ((defN l n').getD QF):=by
         cases hd:defN l n' with
         |none=>rw[hd]at aw;exact⟨_,aw,JoJ P o⟩
         |some t=>grind
        obtain⟨c',rfl,al⟩:=bj;have bk:∀S':St,S'.A y=S.A y->jz S' (.a .s) (.j [.d .i64 0,ofL [], .g, .g]) false (.q y) (ofL n')=some (.j c', .a):=fun S' bw=>by grind
        have bl:=al.G;have ax:=al.J;have bm:JF [.d .i64 Q,ofL n',ai,aj] 0 c'=c':=YI (by omega);simp[XM,f0,f5,N,Jb6,JdV,O,r1,ak,be,bk,bh,bi,bl,ax,bm];have ay:(S.D (up 2 n) t2 fun u=> .d u (some y) l.length (i+1)).A (up 1 n)= .a t1 [.d .i64 Q,ofL n',ai,aj]:=by rw[J6,Xa (by grind)];exact r1
        have g3:Gr o ((S.D (up 2 n) t2 fun u=> .d u (some y) l.length (i+1)).D (up 1 n) t1 fun u=> .a u c'):=g2.J (av 1) (Jb ay) (by rw[ay];rfl) (Jd _);refine⟨l.length-(i+1),by omega,(ad _ _ _).2 ⟨i+1,_,_,c',by omega,g3,f0,f3,f5,N,by simp[XZ];exact r0,by simp[XZ]<;>rfl, ?_,by simp[XZ]<;>rfl⟩⟩;rw[w,Xd k9];exact(al.A fun r p e=>⟨⟨p,e⟩,rfl⟩:TyC (fun r=>P r/\o.A r≠ .none) o c' _).H g3
       ·have ak:(Q=9)=False:=XF k9;simp[XZ,f5,N,Jb6,JdV,O,r1,ak];refine⟨l.length-(i+1),by omega,(ad _ _ _).2 ⟨i+1,t1,_,[.d .i64 Q,ofL n',ai,aj],by omega,g2,f0,f3,f5,N,by simp[XZ];exact r0,by simp[XZ];exact r1, ?_,by simp[XZ]<;>rfl⟩⟩;rw[w,Xa k9];exact hc.A fun r p e=>⟨p,Ji _ _ _ (Jr Z f p.2 2)⟩
      ·have bn:i=l.length:=by omega
       have O:=JkD (st:=S) (q:=up 2 n) (r:=y) (n:=i) (t:=t2) (es:=((em.map fun p=>(p.1,V.j p.2)).map fun p=>(ofL p.1,p.2))) (by grind) au (by omega);rw[<-bn,<-hT]at Y;have Y:B=decide (Q=6):=Y;by_cases az:Q=6
       ·have W:(Q=6)=True:=XL az;simp[XZ,f5,N,Jb6,JdV,O,r1,W];refine am _ _ (fun r e=>U.d r e) fun _=> ?_
        grind
       ·have W:(Q=6)=False:=XF az;simp[XZ,f5,N,Jb6,JdV,O,r1,W];exact(hI _ _).2 ⟨U,f0,f3,r0,by grind⟩
     ·rw[Xa (fun h=>c1 h.2)]at Y;simp[XZ,f,l2,aa,ba c1];exact(hI _ _).2 ⟨g0,rfl,rfl,r0,Y⟩
    ·have aa:(k=6)=False:=XF k6;rw[Xa (fun h=>k6 h.1)]at Y;simp[XZ,f,aa];exact(hI _ _).2 ⟨g0,rfl,rfl,r0,Y⟩
   ·intro fr S bo;obtain⟨U,f0,f3,r0,bp⟩:=(hI _ _).1 bo;simp[XZ,f0,f3,r0];refine Jc (YS (fa:=[.e kr 0]) (fb:=[]) (Jba l) U.D (ap.B (fun e x h=>h.H U) U.H) ao fun i hi S' E' g' bq=> ?_) ?_
    ·have h1:=jB hi;have h2:=Ys k X ns z;exact Jr5 m z[i] (by have:=YP (k:=k) (n:=X) (ns:=ns) hi;omega) P S' kr y l af E' g'.D (hL.D (U.B g')) bq hl (by omega)
    ·rintro _ S2 ⟨g2,rfl⟩;simp[XZ];refine am _ _ (fun r e=>(U.B g2).d r e) fun _=> ?_;rw[hS,bp,qK];rfl
theorem JsX {Q:Pt->Prop}(hw:WF v)(h:SchC P v n z)(al:z.a.length<=1000)(h0:z.c=[])(hQ:∀r,P r->Q r)(hN:∀r,v.A r= .none->Q r):
  Dz 69 [.j n] v fun v' aa=>Gr v aa/\LstAt (TyC Q aa) Q aa v' 4 (Qk z):=by
 refine Jn tabM (aT Tryz.func69 rfl) rfl hw fun K ag=> ?_;obtain⟨f,ah⟩:=nxE v;obtain⟨c,tv,sv,rfl,h1,h2,h3⟩:=h;obtain⟨M,hM⟩:∃M,M=z.b:=⟨_,rfl⟩
 obtain⟨l,hl⟩:∃l,l=z.a:=⟨_,rfl⟩
 obtain⟨X,ai⟩:∃l,l=z.c:=⟨_,rfl⟩
 have am:Qk z=l.map Prod.snd++[M]++qd X:=by rw[hM,hl,ai];rfl
 rw[am]at ag;rw[<-hM]at h1;rw[<-hl]at h2 al;rw[<-ai]at h3 h0;obtain⟨nv,kv,es,rfl,x1,x2,x3,x4⟩:=h1.B;have ao:TyC P v [.d .i64 M.A,ofL M.B,nv,kv] M:=h1;have l1:=h2.H;have l2:=h3.H;simp only[CT,Tryz.f69,XY,simprocAttr];rw[Ja];simp[XY,ah,x1.B,x2.B,h2.G.1,h3.G.1];obtain⟨p,O⟩:=exE (v.B fun t=> .a t [.d .i64 M.A,ofL M.B,nv,kv,tv,sv]);have Y:Gr v p:=by rw[O];exact Gr.G hw (Jd _)
 obtain⟨t0,r0⟩:∃t,p.A (up 0 f)= .a t [.d .i64 M.A,ofL M.B,nv,kv,tv,sv]:=⟨_,by rw[O];simp[XZ,ah];rfl⟩
 rw[<-O];clear O;have ap:TyC P p [.d .i64 M.A,ofL M.B,nv,kv] M:=ao.H Y;have h2:LstAt (NmC P p) P p tv 5 l:=h2.B (fun n x h=>h.A Y.H) Y.H;have h3:LstAt (SgC P p) P p sv 6 X:=h3.B (fun n x h=>h.A Y.H) Y.H;have hN:∀r,p.A r= .none->Q r:=fun r h=>hN r (Y.I h);have c1:=x1.A;have c2:=x1.B;have c3:=x2.A;have c4:=x2.B;rw[Ja];simp[XY];refine Jz (fun o S=>(∃m,o 1= .e (up 0 f) 0/\o 3=m/\Gr p S/\TysF P p S m (l.map Prod.snd))) (fun J hJ=> ?_) ?_
 ·rw[Ja];simp[XY,r0,l1];refine Jy (fun j o S=>∃(i:Nat) (m:V),j+i=l.length/\o 1= .e (up 0 f) 0/\o 3=m/\o 9=tv/\o 10= .d .i64 l.length/\o 11= .d .i64 i/\Gr p S/\TysF P p S m ((l.take i).map Prod.snd)) l.length (by omega) ⟨0, .g,by omega,rfl,rfl,rfl,rfl,by rfl,Gr.F Y.D,TysF.F _ _ _⟩ ?_;rintro I hI j o S ⟨i,m,hj,f1,Z,f9,ab,U,y,L⟩;by_cases hi:i<l.length
  ·obtain⟨r,q,n,a1,a2,a3,a4,⟨c,he,hc⟩,a6,a7⟩:=h2.A hi;have aj:=hc;obtain⟨ad,ae,ay,rfl,y1,y2,y3,y4⟩:=hc.B;subst he;rw[<-y.d r a3]at a4;have d1:=y1.A;have d2:=y1.B;have d3:=y2.A;have d4:=y2.B;have wS:=y.D;obtain⟨nS,w⟩:=nxE S;have aq:S.A r≠ .none:=by rw[y.d r a3];exact a3
   have oq:=fun k=>nes (Jr wS w aq k);have af:=wiN (i:=i) (by omega);have ak:(l.take (i+1)).map Prod.snd=(l.take i).map Prod.snd++[l[i].2]:=by rw[XD hi,ZA];rfl
   obtain⟨N,ar⟩:∃N,N=l[i].1:=⟨_,rfl⟩
   obtain⟨T,hT⟩:∃T,T=l[i].2:=⟨_,rfl⟩
   rw[<-hT]at aj ak;rw[<-ar,<-hT]at a4;rw[Ja];simp[XY,ab,U,hi];rw[Je];simp[XY];rw[Je];simp[XY];rw[Ja];simp[XY,f9,U,a1,a4,w,d2,d4];obtain⟨S1,W⟩:=exE ((S.B fun t=> .a t [ofL [], .d .i64 0,ofL [], .g, .g]).D (up 0 nS) S.t fun u=> .a u [ofL N, .d .i64 T.A,ofL T.B,ad,ae]);have g1:Gr S S1:=by rw[W];exact(Gr.F wS).M w (Jd _) (Jd _)
   obtain⟨t1,r1⟩:∃t,S1.A (up 0 nS)= .a t [ofL N, .d .i64 T.A,ofL T.B,ad,ae]:=⟨_,by rw[W];simp[XZ];rfl⟩
   rw[<-W];have w1:=g1.D;have au:S1.b=up 1 nS:=by rw[W];simp[XZ,w]
   simp[Z];have gn:Gr S1 (S1.B fun t=> .a t [.d .i64 T.A,ofL T.B,ad,ae]):=Gr.G w1 (Jd _);refine JdY (ts':=[T]) ((y.B g1).B gn) ((L.A g1).A gn) (JhH au aj.G) rfl (fun i a b=>by
    grind) (by simp) (by grind) ?_
   intro S2 v2 g2 h5 rv kp;rw[<-ak]at h5;simp[XZ,U,af];exact⟨l.length-(i+1),by omega,hI _ _ _ ⟨i+1,v2,by omega,f1,rfl,f9,ab,rfl,g2,h5⟩⟩
  ·simp[XZ,ab,U,hi];rw[Xr (by omega)]at L;exact hJ _ _ ⟨m,f1,Z,y,L⟩
 rintro o S ⟨m,f1,Z,y,L⟩;have r1:=y.A r0;have wS:=y.D;obtain⟨nS,w⟩:=nxE S;rw[Ja];simp[XY,f1,Z,r1,w,c2,c4];have gn:Gr S (S.B fun t=> .a t [.d .i64 M.A,ofL M.B,nv,kv]):=Gr.G wS (Jd _);refine JdY (ts':=[M]) (y.B gn) (L.A gn) (JhH w ap.G) rfl (fun i a b=>by
  grind) (by simp) (by grind) ?_
 intro S2 v2 g2 h5 _ _;have r2:=g2.A r0;simp[XY];refine Jz (fun o S=>(∃m,o 3=m/\Gr p S/\TysF P p S m (l.map Prod.snd++[M]++qd X))) (fun J2 av=> ?_) ?_
 ·rw[Ja];simp[XY,f1,r2,l2];refine Jy (fun j o S=>∃(i:Nat) (m:V),j+i=X.length/\o 3=m/\o 27=sv/\o 28= .d .i64 X.length/\o 29= .d .i64 i/\Gr p S/\TysF P p S m (l.map Prod.snd++[M]++qd (X.take i))) X.length (by grind) ⟨0,v2,by omega,rfl,rfl,rfl,by rfl,g2,by rw[GJ];unfold qd;grind⟩ ?_;rintro I hI j o S ⟨i,m,hj,Z,az,aw,ax,y,L⟩;by_cases hi:i<X.length
  ·rw[h0]at hi;cases hi
  ·simp[XZ,aw,ax,hi];rw[Xr (by omega)]at L;exact av _ _ ⟨m,Z,y,L⟩
 rintro o S ⟨m,Z,y,L⟩;simp[XZ,Z];exact ag _ _ (fun r n=>(Y.B y).d r n) fun _=>L.D y hQ hN
theorem JjX {p:Option Str}{n:Str}{r:List Str}(a:Ya n=false)(b:Ky p n=false):Kb p (n::r)=Kb (some n) r:=by
 rw[Kb,Xa (by grind),Xa (by grind)]
theorem JsY (hw:WF v)(h:LstAt (NmC P v) P v q 5 e)(z:e.length<=1000):Dz 63 [q] v fun v' L=>Gr v L/\v'= .d .i64 (Kb none (e.map Prod.fst)):=by
 refine Jn tabM (aT Tryz.func63 rfl) rfl hw fun K s=> ?_;have l1:=h.H;simp only[CT,Tryz.f63,XY,simprocAttr];rw[Ja];simp[XY];rw[Je,Ja];simp[XY,l1];refine Jy (fun j X S=>∃(i:Nat) (p:Option Str),j+i=e.length/\X 0=q/\X 5=q/\X 6= .d .i64 e.length/\X 7= .d .i64 i/\Gr v S/\Kb none (e.map Prod.fst)=Kb p ((e.map Prod.fst).drop i)/\(p=if i=0 then none else(e.map Prod.fst)[i-1]?)) e.length (by omega) ⟨0,none,by omega,rfl,rfl,rfl,by rfl,Gr.F hw,rfl,rfl⟩ ?_;rintro I hI j X S ⟨i,p,hj,f0,f5,f6,Y,Z,m,hp⟩;by_cases hi:i<e.length
 ·have hS:LstAt (NmC P S) P S q 5 e:=h.B (fun b x h=>h.A Z.H) Z.H;obtain⟨r,f,b,a1,a2,a3,a4,⟨c,he,hc⟩,a6,a7⟩:=hS.A hi;obtain⟨nv,kv,es,rfl,x1,x2,x3,x4⟩:=hc.B;subst he;have d1:=x1.A;have d2:=x1.B;have d3:=x2.A;have d4:=x2.B;have wS:=Z.D;obtain⟨nS,O⟩:=nxE S;have oq:=fun k=>nes (Jr wS O a3 k);obtain⟨N,hN⟩:∃N,N=e[i].1:=⟨_,rfl⟩
  obtain⟨T,hT⟩:∃T,T=e[i].2:=⟨_,rfl⟩
  rw[<-hN,<-hT]at a4;have hd:(e.map Prod.fst).drop i=N::(e.map Prod.fst).drop (i+1):=by
   rw[Xc (by grind),Zv,<-hN]
  rw[hd]at m;have o:=wiN (i:=i) (by omega);rw[Ja];simp[XY,f6,Y,hi];rw[Je];simp[XY];rw[Je];simp[XY];rw[Ja];simp[XY,f5,Y,a1,a4,O,d2,d4];obtain⟨S1,U⟩:=exE ((S.B fun t=> .a t [ofL [], .d .i64 0,ofL [], .g, .g]).D (up 0 nS) S.t fun u=> .a u [ofL N, .d .i64 T.A,ofL T.B,nv,kv]);have g1:Gr S S1:=by rw[U];exact(Gr.F wS).M O (Jd _) (Jd _)
  obtain⟨t1,r1⟩:∃t,S1.A (up 0 nS)= .a t [ofL N, .d .i64 T.A,ofL T.B,nv,kv]:=⟨_,by rw[U];simp[XZ];rfl⟩
  rw[<-U];rw[Ja];simp[XY,r1];refine Jc (JkY N _ g1.D) ?_;rintro _ S2 ⟨g2,rfl⟩;have W:=(Z.B g1).B g2;have r2:=g2.A r1;have ag:∀S3,Gr v S3->S3.A (up 0 nS)= .a t1 [ofL N, .d .i64 T.A,ofL T.B,nv,kv]->True:=fun _ _ _=>trivial;have aa:Ya N=true->Kb none (e.map Prod.fst)=15:=fun hb=>by rw[m,Kb,Xd hb]
  cases hid:Ks N with
  | false=>
    simp[XZ];refine s _ _ (fun r b=>W.d r b) fun _=> ?_;rw[aa (by unfold Ya;grind)]
  | true=>
    have ah:=JeW hid;simp[XY,r2];refine⟨by omega,by omega, ?_⟩;refine Jc (JcL (Q:=fun q L=>q= .h (Lib.contains words (32::(N++[32])))/\S2=L) (aH (k:=115) rfl) (Jdt words (32::(N++[32])) (by decide)) ⟨rfl,rfl⟩) ?_;rintro _ _ ⟨rfl,rfl⟩
    cases ai:Lib.contains words (32::(N++[32]))with
    | true=>
      simp[XZ];refine s _ _ (fun r b=>W.d r b) fun _=> ?_;rw[aa (by unfold Ya;grind)]
    | false=>
      have ad:Ya N=false:=by unfold Ya;grind
      have next:∀{n:Fr},Ky p N=false->n 0=q->n 5=q->n 6= .d .i64 e.length->n 7= .d .i64 ((i+1:Nat):Int)->∃j',j'<j/\I j' n S2:=fun{n} z e0 e5 e6 e7=>
       ⟨e.length-(i+1),by omega,hI _ _ _ ⟨i+1,some N,by omega,e0,e5,e6,e7,W,by rw[m,JjX ad z],by grind⟩⟩
      by_cases h0:i=0
      ·have w:¬(0:Int)<(i:Int):=by omega
       simp only[XZ,simprocAttr,Y,w,o];refine next (by rw[hp,Xd h0];rfl) ?_ ?_ ?_ ?_<;>simp only[XZ,simprocAttr,f0,f5,f6]
      ·have w:(0:Int)<(i:Int):=by omega
       have y:IntKind.i64.wrap ((i:Int)-1)=((i-1:Nat):Int):=by rw[JV (by omega) (by omega)];omega
       have ae:LstAt (NmC P S2) P S2 q 5 e:=h.B (fun b x h=>h.A W.H) W.H;have af:i-1<e.length:=by omega
       obtain⟨r',q',e',b1,b2,b3,b4,⟨c',hb,aj⟩,b6,b7⟩:=ae.A af;subst hb;have b8:=b7 0 (by simp);have b8:ld1 (S2.A r') q'=some (ofL e[i-1].1, .a):=b8;have ab:p=some e[i-1].1:=by grind
       cases z:Op.bytesLess e[i-1].1 N with
       | false=>
         simp only[XZ,simprocAttr,f0,w,r2,y,b1,b8,z];refine s _ _ (fun r b=>W.d r b) fun _=> ?_;rw[m,Kb,Xa (by grind),Xd (by rw[ab,Ky,z];rfl)]
       | true=>
         simp only[XZ,simprocAttr,f0,Y,w,r2,y,b1,b8,z,o];refine next (by rw[ab,Ky,z];rfl) ?_ ?_ ?_ ?_<;>simp only[XZ,simprocAttr,f0,f5,f6]
 ·simp[XZ,f6,Y,hi];refine s _ _ (fun r b=>Z.d r b) fun _=> ?_;rw[m,Xm (by grind),Kb]
theorem JtO {f:List Sg}(j:WF v)(hL:KF s v k i e t)(h:LstAt (SgC s v) s v q 6 f)(m:f=[]):
  Dz 66 [.e k 0,q] v fun n c=>Ch (fun r=>r=k) v c/\KF s c k i e (Qs (hasN e) none f t).2/\n= .d .i64 (Qs (hasN e) none f t).1:=by
 refine JeV tabM (aT Tryz.func66 rfl) rfl j fun K g=> ?_;have l1:=h.H;subst m;simp only[CT,Tryz.f66,XY,simprocAttr];rw[Ja];simp[XY];rw[Je,Ja];simp[XY,l1];refine j9 (by decide) ?_;simp[XZ];exact g _ _ (fun r a b=>rfl) fun _=>⟨hL,rfl⟩
theorem JmH {α:Type}[DecidableEq α]{k:α}{v:V}:∀{b:List (α×V)},(∀p∈b,k≠p.1)->Ja0 k v b=b++[(k,v)]
 |[],_=>rfl
 | (a,w)::r,h=>by
   rw[Ja0,Xa (h (a,w) (by simp)),JmH fun p c=>h p (Xl _ c)];rfl
theorem JpG (hw:WF v)(h:SchC P v n z)(hl:z.a.length<=1000)(hd:(z.a.map Prod.fst).Nodup):Dz 64 [.j n] v fun v' aa=>Gr v aa/\∃r,v'= .q r/\v.A r= .none/\Jdu P aa r z.a:=by
 refine Jn tabM (aT Tryz.func64 rfl) rfl hw fun K ab=> ?_;obtain⟨f,m⟩:=nxE v;obtain⟨c,tv,sv,rfl,h1,h2,h3⟩:=h;obtain⟨l,ad⟩:∃l,l=z.a:=⟨_,rfl⟩
 rw[<-ad]at h2 hl hd;simp[<-ad]at ab;obtain⟨M,hM⟩:∃M,M=z.b:=⟨_,rfl⟩
 rw[<-hM]at h1;obtain⟨k,nm,ns,ks⟩:=M;obtain⟨nv,kv,es,rfl,x1,x2,x3,x4⟩:=h1.D;have l1:=h2.H;simp only[CT,Tryz.f64,XY,simprocAttr];rw[Ja];simp[XY,m,x1.B,x2.B,h2.G.1,h3.G.1];rw[Ja];simp[XY,m];obtain⟨S0,o⟩:=exE ((v.B fun t=> .a t [.d .i64 k,ofL nm,nv,kv,tv,sv]).B fun t=> .b t []);have g0:Gr v S0:=by rw[o];exact(Gr.G hw (Jd _)).L (Q4 _)
 obtain⟨t0,r0⟩:∃t,S0.A (up 0 f)= .a t [.d .i64 k,ofL nm,nv,kv,tv,sv]:=⟨_,by rw[o];simp[XZ,m];rfl⟩
 obtain⟨tm,m0⟩:∃t,S0.A (up 1 f)= .b t []:=⟨_,by rw[o];simp[XZ,m];rfl⟩
 obtain⟨U,W⟩:=exE (up 1 f);have q0:v.A U= .none:=by rw[W];exact nx0 hw m 1
 rw[<-o,<-W];rw[<-W]at m0;clear o;rw[Je,Ja];simp[XY,r0,l1];refine Jy (fun j fr S=>∃(i:Nat) (w:List (Str×List V)),j+i=l.length/\fr 3= .q U/\fr 8=tv/\fr 9= .d .i64 l.length/\fr 10= .d .i64 i/\Gr v S/\(∃t,S.A U= .b t (w.map fun p=>(ofL p.1,V.j p.2)))/\w.length=i/\∀j (h:j<w.length) (h':j<l.length),w[j].1=l[j].1/\TyC P v w[j].2 l[j].2) l.length (by omega) ⟨0,[],by omega,rfl,rfl,rfl,by rfl,g0,⟨tm,m0⟩,rfl,fun j h=>absurd h (by simp)⟩ ?_;rintro I hI j fr S ⟨i,w,hj,f3,f8,f9,x,hg,⟨t,hm⟩,ao,X⟩;by_cases hi:i<l.length
 ·obtain⟨r,q,n,a1,a2,a3,a4,⟨c,he,hc⟩,a6,a7⟩:=h2.A hi;have ah:=hc;obtain⟨y,O,ap,rfl,y1,y2,y3,y4⟩:=hc.B;subst he;rw[<-hg.d r a3]at a4;have d1:=y1.A;have d2:=y1.B;have d3:=y2.A;have d4:=y2.B;have wS:=hg.D;obtain⟨nS,Q⟩:=nxE S;have ai:S.A r≠ .none:=by rw[hg.d r a3];exact a3
  have oq:=fun k=>nes (Jr wS Q ai k);have ae:S.A U≠ .none:=by grind
  have om:=fun k=>nes (Jr wS Q ae k);obtain⟨N,hN⟩:∃N,N=l[i].1:=⟨_,rfl⟩
  obtain⟨T,hT⟩:∃T,T=l[i].2:=⟨_,rfl⟩
  rw[<-hT]at ah;rw[<-hN,<-hT]at a4;have Y:=wiN (i:=i) (by omega);rw[Ja];simp[XY,f9,x,hi];rw[Je];simp[XY];rw[Je];simp[XY];rw[Ja];simp[XY,f8,x,a1,a4,Q,d2,d4];obtain⟨S1,Z⟩:=exE ((S.B fun t=> .a t [ofL [], .d .i64 0,ofL [], .g, .g]).D (up 0 nS) S.t fun u=> .a u [ofL N, .d .i64 T.A,ofL T.B,y,O]);have g1:Gr S S1:=by rw[Z];exact(Gr.F wS).M Q (Jd _) (Jd _)
  obtain⟨t1,r1⟩:∃t,S1.A (up 0 nS)= .a t [ofL N, .d .i64 T.A,ofL T.B,y,O]:=⟨_,by rw[Z];simp[XZ];rfl⟩
  have m1:S1.A U= .b t (w.map fun p=>(ofL p.1,V.j p.2)):=by rw[g1.d U ae,hm]
  rw[<-Z];have af:∀p∈w.map (fun p=>(p.1,V.j p.2)),N≠p.1:=fun p hp n=>by
   obtain⟨p0,aj,rfl⟩:=XA.1 hp;obtain⟨j,ak,rfl⟩:=ZM.1 aj;have al:j<l.length:=by omega
   have e1:=(X j ak al).1;have e2:(l.map Prod.fst)[j]'(by grind)=(l.map Prod.fst)[i]'(by grind):=by grind
   exact List.pairwise_iff_getElem.1 hd j i (by grind) (by grind) (by omega) e2
  have am:S1.A U= .b t ((w.map fun p=>(p.1,V.j p.2)).map fun p=>(ofL p.1,p.2)):=by simp_all
  have ag:=JaK (enc:=ofL) (e:= .a .s) am N (.j [.d .i64 T.A,ofL T.B,y,O]) (YR N _) rfl;rw[JmH af]at ag;simp[XZ,f3,ag,Y,x];refine⟨l.length-(i+1),by omega,hI _ _ _ ⟨i+1,w++[(N,[.d .i64 T.A,ofL T.B,y,O])],by omega,f3,f8,f9,rfl, ?_, ?_,by grind,fun j h h'=> ?_⟩⟩
  ·exact(hg.B g1).J q0 (by grind) (by rw[m1];rfl) (Q4 _)
  ·exact⟨_,by rw[Jk];simp;rfl⟩
  grind
 ·simp[XZ,f3,f9,x,hi];refine ab _ _ (fun r n=>hg.d r n) fun G=>⟨U,rfl,q0,w,⟨t,by simp_all⟩,by omega,fun j h h'=>⟨(X j h h').1,(X j h h').2.H hg⟩⟩
theorem JpH (b:Str->Bool)(k:Int)(n:Str)(d:List Str)(c:List Ty)(a:Nat):Qd b (.mk k n d c) a=if 12<a then false else if k=9 then b n else if k=8 then kH b c (a+1)else if k=7 then kI b c (a+1)else true:=by rfl
theorem JdL (b:Str->Bool)(a:Nat):∀ks:List Ty,kH b ks a=ks.any fun t=>Qd b t a
 |[]=>by rfl
 |t::r=>by rw[kH,JdL b a r];rfl
theorem JdM (b:Str->Bool)(a:Nat):∀ks:List Ty,kI b ks a= !(ks.any fun t=> !Qd b t a)
 |[]=>by rfl
 |t::r=>by rw[kI,JdM b a r];simp
def hasE (has:List (Str×Bool)):List (Str×V):=has.map fun p=>(p.1,V.h p.2)
theorem Jk0 (n:Str):∀c:List (Str×Bool),ansL (.h false) false (at_ n (hasE c))= .h (gB n c)
 |[]=>rfl
 | (a,b)::r=>by
   have d:=Jk0 n r;unfold hasE at d⊢;rw[XV,at_,gB];by_cases e:n=a
   ·rw[Xd e,Xd e];rfl
   grind
theorem JpI :∀(m:Nat) (ty:Ty),tsz ty<m->∀(P:Pt->Prop) (N:St) (p:Pt) (g:List (Str×Bool)) (e:List V) (c:Nat),WF N->qZ N p ofL (hasE g)->TyC P N e ty->c<=13->cntT ty<1000000->
  Dz 120 [.j e, .q p, .d .i64 c] N fun v ah=>Gr N ah/\v= .h (Qd (fun x=>gB x g) ty c)
 |0,_,h=>absurd h (by omega)
 | m+1, .mk k nm ns O,hm=>by
   intro P N p g e c hw f hx ai aj;refine Jn tabM (aT Tryz.func120 rfl) rfl hw fun K l=> ?_;obtain⟨n,T⟩:=nxE N;obtain⟨nv,kv,es,rfl,x1,x2,x3,x4⟩:=hx.D;have y:=JpH (fun x=>gB x g) k nm ns O c;have U:O.length<1000000:=by have h1:=Jb7 O;rw[Ys]at aj;omega
   have ak:LstAt (TyC P N) P N kv 4 O:=⟨es,x2,x3,x4⟩
   have c1:=x1.A;have c2:=x1.B;have c3:=x2.A;have c4:=x2.B;obtain⟨I,hI⟩:=opE fun fr S=>(Gr N S/\fr 3= .e (up 0 n) 0/\fr 4= .e (up 1 n) 0/\fr 5= .e (up 2 n) 0/\(∃t,S.A (up 0 n)= .a t [.d .i64 k,ofL nm,nv,kv])/\(∃t,S.A (up 1 n)= .a t [.q p])/\(∃t,S.A (up 2 n)= .a t [.d .i64 c]))
   simp only[CT,Tryz.f120,XY,simprocAttr];refine YQ I ?_ ?_
   ·simp[XZ,T,c2,c4];exact(hI _ _).2 ⟨((Gr.G hw (Jd _)).L (Jd _)).L (Jd _),rfl,rfl,rfl,⟨_,by simp[XZ,T];rfl⟩,⟨_,by simp[XZ,T];rfl⟩,⟨_,by simp[XZ,T];rfl⟩⟩
   intro fr S al;obtain⟨hg,f3,f4,f5,⟨t0,r0⟩,⟨t1,r1⟩,⟨t2,r2⟩⟩:=(hI _ _).1 al;by_cases hd:12<c
   ·have W:(12:Int)<(c:Int):=by omega
    rw[Je,Ja];simp[XZ,f5,r2,W];refine l _ _ (fun r e=>hg.d r e) fun _=> ?_
    grind
   have W:¬(12:Int)<(c:Int):=by omega
   rw[Xa hd]at y;rw[Je,Ja];simp[XY,f5,r2,W];have wS:=hg.D;obtain⟨nS,ab⟩:=nxE S;rw[Ja];simp[XY,f4,f5,ab];obtain⟨S1,X⟩:=exE ((S.B fun t=> .a t [.x]).D (up 0 nS) S.t fun u=> .a u [.D 157 [] [.e (up 1 n) 0, .e (up 2 n) 0]]);have g1:Gr S S1:=by rw[X];exact(Gr.F wS).M ab (Jd _) (Jd _)
   obtain⟨t3,r3⟩:∃t,S1.A (up 0 nS)= .a t [.D 157 [] [.e (up 1 n) 0, .e (up 2 n) 0]]:=⟨_,by rw[X];simp[XZ];rfl⟩
   rw[<-X];have w:=hg.B g1;have r0:=g1.A r0;have r1:=g1.A r1;have r2:=g1.A r2;have ad:LstAt (TyC P S1) P S1 kv 4 O:=ak.B (fun e x h=>h.H w) w.H;have ae:∀(i:Nat) (hi:i<O.length) (S':St) (e:List V),Gr S1 S'->TyC P S' e O[i]->Dz 157 ([]++[.j e]++[.e (up 1 n) 0, .e (up 2 n) 0]) S' fun v am=>Gr S' am/\v= .h (Qd (fun x=>gB x g) O[i] (c+1)):=fun i hi S' e Q o=>by
    have h1:=jB hi;have h2:=Ys k nm ns O;have w':=Q.D;obtain⟨n',Y⟩:∃n,S'.b=up 0 n:=⟨_,up0 _⟩
    have e4:=o.G;have Z:=o.J;have aa:e.take 4=e:=by grind
    refine Jn tabM (aT Tryz.func157 rfl) rfl w' fun K l=> ?_;have af:=wiN (i:=c) (by omega);have b1:=Q.A r1;have b2:=Q.A r2;have z:Gr S' (S'.B fun t=> .a t e):=Gr.G w' (Jd _);have b1:=z.A b1;have b2:=z.A b2;simp only[CT,Tryz.f157,XZ,simprocAttr,Y,e4,Z,aa,b1,b2,af];refine Jc (JpI m O[i] (by have:=YP (k:=k) (n:=nm) (ns:=ns) hi;omega) P _ p g e (c+1) z.D ?_ (o.H z) (by omega) (by omega)) ?_
    ·exact f.B (by rw[z.d p (by rw[Q.d p (by rw[w.d p f.A];exact f.A),w.d p f.A];exact f.A),Q.d p (by rw[w.d p f.A];exact f.A),w.d p f.A])
    rintro _ S2 ⟨g2,rfl⟩;simp[XZ];exact l _ _ (fun r e=>(z.B g2).d r e) fun _=>rfl
   by_cases k9:k=9
   ·have ao:qZ S1 p ofL (hasE g):=f.B (w.d p f.A);have ag:=kP (enc:=ofL) (e:= .a .s) ao (.h false) false nm (YR nm _) rfl;rw[Jk0]at ag;rw[Xd k9]at y;simp[XZ,f3,f4,r0,r1,k9,ag];refine l _ _ (fun r e=>w.d r e) fun _=> ?_;rw[y]
   rw[Xa k9]at y;by_cases k8:k=8
   ·rw[Xd k8,JdL]at y;simp[XZ,f3,r0,r3,k8];refine Jc (YS (fa:=[]) (fb:=[.e (up 1 n) 0, .e (up 2 n) 0]) (fun t=>Qd (fun x=>gB x g) t (c+1)) w.D ad U ae) ?_;rintro _ S2 ⟨g2,rfl⟩;simp[XZ];refine l _ _ (fun r e=>(w.B g2).d r e) fun _=> ?_;rw[y]
   rw[Xa k8]at y;by_cases k7:k=7
   ·rw[Xd k7,JdM]at y;simp[XZ,f3,r0,k7];refine Jc (YS (fa:=[]) (fb:=[.e (up 0 nS) 0]) (fun t=> !Qd (fun x=>gB x g) t (c+1)) w.D ad U fun i hi S' e Q o=> ?_) ?_
    ·refine Jn tabM (aT Tryz.func158 rfl) rfl Q.D fun K l=> ?_;obtain⟨n',Y⟩:∃n,S'.b=up 0 n:=⟨_,up0 _⟩
     have e4:=o.G;have Z:=o.J;have aa:e.take 4=e:=by grind
     have z:Gr S' (S'.B fun t=> .a t e):=Gr.G Q.D (Jd _);have b3:=z.A (Q.A r3);simp only[CT,Tryz.f158,XZ,simprocAttr,Y,e4,Z,aa,b3];refine Jc (by simpa using ae i hi _ e (Q.B z) (o.H z)) ?_;rintro _ S2 ⟨g2,rfl⟩;simp[XZ];exact l _ _ (fun r e=>(z.B g2).d r e) fun _=>rfl
    rintro _ S2 ⟨g2,rfl⟩;simp[XZ];refine l _ _ (fun r e=>(w.B g2).d r e) fun _=> ?_;rw[y]
   rw[Xa k7]at y;simp[XZ,f3,r0,k9,k8,k7];refine l _ _ (fun r e=>w.d r e) fun _=> ?_;rw[y]
theorem JhU (n:Str)(b:Bool):∀d:List (Str×Bool),Ja0 n (V.h b) (hasE d)=hasE (sB n b d)
 |[]=>rfl
 | (a,c)::r=>by
   have e:=JhU n b r;unfold hasE at e⊢;rw[XV,Ja0,sB]
   grind
theorem Jd3 {S:St}(h:LstAt (NmC s v) s v q 5 e)(u:∀r,v.A r≠ .none->S.A r=v.A r)(K:t<e.length):
  ∃r b g k,Jo 5 q (.d .i64 t)=some (.e r b, .a)/\S.A r≠ .none/\ldn (S.A r) b 5=some (.j [ofL e[t].1, .d .i64 e[t].2.A,ofL e[t].2.B,g,k], .a)/\TyC s S [.d .i64 e[t].2.A,ofL e[t].2.B,g,k] e[t].2/\(g.A=some [g]/\g.B=true/\k.A=some [k]/\k.B=true):=by
 obtain⟨r,b,f,L,Q,M,w,⟨c,N,x⟩,T,U⟩:=h.A K;have m:=x;obtain⟨n,o,O,rfl,y,z,W,X⟩:=x.B;subst N;rw[<-u r M]at w;exact⟨r,b,n,o,L,by grind,w,m.A fun r p f=>⟨p,u r f⟩,y.A,y.B,z.A,z.B⟩
theorem JhV (l:List (Str×Ty))(k:Nat)(a:List (Str×Bool)):Ko l (k+1) a=Ko l k (K8 l a):=by rfl
theorem JjY (p:Str×Ty)(r:List (Str×Ty))(a:List (Str×Bool)):K8 (p::r) a=K8 r (sB p.1 (gB p.1 a||Qd (fun x=>gB x a) p.2 1) a):=by rfl
theorem Jq4 (hw:WF v)(h:SchC P v n z)(ht:TyC P v b r)(hP:∀f,P f->v.A f≠ .none)(hl:z.a.length<=1000)(hd:(z.a.map Prod.fst).Nodup):
  Dz 67 [.j n, .j b] v fun v' bw=>Gr v bw/\v'= .h (finS z.a r):=by
 refine Jn tabM (aT Tryz.func67 rfl) rfl hw fun K ai=> ?_;obtain⟨m,a5⟩:=nxE v;have bh:=h;obtain⟨c,tv,sv,rfl,h1,h2,h3⟩:=h;obtain⟨M,hM⟩:∃M,M=z.b:=⟨_,rfl⟩
 obtain⟨l,bi⟩:∃l,l=z.a:=⟨_,rfl⟩
 rw[<-hM]at h1;rw[<-bi]at h2 hl ai;obtain⟨nv,kv,es,rfl,x1,x2,x3,x4⟩:=h1.B;have bj:=ht;obtain⟨bx,bz,cg,rfl,y1,y2,y3,y4⟩:=ht.B;have l1:=h2.H;have ch:=x1.A;have b0:=x1.B;have cj:=x2.A;have b1:=x2.B;have ck:=y1.A;have b2:=y1.B;have cl:=y2.A;have b3:=y2.B;have b4:=h2.G;have b5:=h3.G;simp only[CT,Tryz.f67,XY,simprocAttr];obtain⟨I,hI⟩:=opE fun y S=>(Gr v S/\y 2= .e (up 0 m) 0/\y 3= .e (up 1 m) 0/\(∃u,S.A (up 0 m)= .a u [.d .i64 M.A,ofL M.B,nv,kv,tv,sv])/\(∃u,S.A (up 1 m)= .a u [.d .i64 r.A,ofL r.B,bx,bz]))
 refine YQ I ?_ ?_
 ·simp[XZ,a5,b0,b1,b2,b3,b4.1,b5.1];exact(hI _ _).2 ⟨(Gr.G hw (Jd _)).L (Jd _),rfl,rfl,⟨_,by simp[XZ,a5];rfl⟩,⟨_,by simp[XZ,a5];rfl⟩⟩
 intro y S bk;obtain⟨g0,Q,U,⟨t0,r0⟩,⟨t1,r1⟩⟩:=(hI _ _).1 bk;rw[Ja];simp[XY,Q,r0];refine Jc (JpG (P:=P) g0.D (bh.A g0.H) (by grind) hd) ?_;rintro _ S1 ⟨g1,rm,rfl,cm,a6⟩;rw[<-bi]at a6;have r0:=g1.A r0;have r1:=g1.A r1;have G1:=g0.B g1;have w1:=g1.D;obtain⟨n1,a7⟩:=nxE S1;have cn:JF [.w, .d .i64 0] 0 [.q rm]=[.q rm, .d .i64 0]:=rfl;simp[XY,a7];obtain⟨S2,av⟩:=exE (S1.B fun r=> .a r [.q rm, .d .i64 0]);have g2:Gr S1 S2:=by rw[av];exact Gr.G w1 (Jd _)
 obtain⟨kr,a8⟩:=exE (up 0 n1);obtain⟨tk,rk⟩:∃u,S2.A kr= .a u [.q rm, .d .i64 0]:=⟨_,by rw[av,a8];simp[XZ,a7];rfl⟩
 have b6:S1.A kr= .none:=by rw[a8];exact nx0 w1 a7 0
 rw[<-av,<-a8];clear av;have G2:=G1.B g2;have b7:up 0 m≠kr:=fun h=>by grind
 have bl:up 1 m≠kr:=fun h=>by grind
 have r0:=g2.A r0;have r1:=g2.A r1;have bm:S1.A rm≠ .none:=by obtain⟨_,h,_⟩:=a6;exact h.A
 have qk:v.A kr= .none:=G1.I b6;have aj:∀f,v.A f≠ .none->f≠kr:=fun f e h=>e (by grind);have L2:KF P S2 kr rm l 0:=
  ⟨a6.A (g2.d rm bm) g2.H,⟨tk,rk⟩,fun f p=>aj f (hP f p),fun e=>bm (by grind)⟩
 have keep:∀{S':St},Ch (fun f=>f=kr) S2 S'->∀f,v.A f≠ .none->S'.A f=v.A f:=fun c f e=>by rw[c.d f (by rw[G2.d f e];exact e) (aj f e),G2.d f e]
 have ad:∀{S':St} {p:Pt} {u:Nat} {x:List V},Ch (fun f=>f=kr) S2 S'->S2.A p= .a u x->p≠kr->S'.A p= .a u x:=fun c e m=>by rw[c.d _ (Jb e) m,e]
 refine Jz (fun y S=>(∃aa,y 2= .e (up 0 m) 0/\y 3= .e (up 1 m) 0/\y 5= .e kr 0/\Ch (fun f=>f=kr) S2 S/\KF P S kr rm l aa/\(JD (hasN l) (l.map Prod.snd) 1 0).1=0)) (fun J1 b8=> ?_) ?_
 ·rw[Ja];simp[XY,Q,r0,l1];obtain⟨I,hI⟩:=loE fun j y S=>∃(i aa:Nat),j+i=l.length/\y 2= .e (up 0 m) 0/\y 3= .e (up 1 m) 0/\y 5= .e kr 0/\y 16=tv/\y 17= .d .i64 l.length/\y 18= .d .i64 i/\Ch (fun f=>f=kr) S2 S/\KF P S kr rm l aa/\aa<=400/\JD (hasN l) (l.map Prod.snd) 1 0=JD (hasN l) ((l.map Prod.snd).drop i) 1 aa;refine JC I l.length (by omega) ((hI _ _ _).2 ⟨0,0,by omega,Q,U,rfl,rfl,rfl,by rfl,Ch.G _ g2.D,L2,by omega,rfl⟩) ?_;clear Q U;intro j y S ak;obtain⟨i,aa,hj,Q,U,f5,bn,a9,aw,hC,hL,a2,O⟩:=(hI _ _ _).1 ak;by_cases hi:i<l.length
  ·obtain⟨f,q,al,am,a1,a3,a4,ao,d1,d2,d3,d4⟩:=Jd3 h2 (keep hC) hi;obtain⟨N,ba⟩:∃N,N=l[i].1:=⟨_,rfl⟩
   obtain⟨T,hT⟩:∃T,T=l[i].2:=⟨_,rfl⟩
   rw[<-hT]at ao;rw[<-ba,<-hT]at a4;have hd:(l.map Prod.snd).drop i=T::(l.map Prod.snd).drop (i+1):=by
    rw[Xc (by grind),Zv,<-hT]
   rw[hd,Kg]at O;have wS:=hC.D;obtain⟨nS,ae⟩:=nxE S;have oq:=fun k=>nes (Jr wS ae a3 k);have af:=wiN (i:=i) (by omega);rw[Ja];simp[XY,a9,aw,hi];rw[Je];simp[XY];rw[Je];simp[XY];rw[Ja];simp[XY,bn,aw,a1,a4,ae,d2,d4];obtain⟨S3,ag⟩:=exE ((S.B fun r=> .a r [ofL [], .d .i64 0,ofL [], .g, .g]).D (up 0 nS) S.t fun u=> .a u [ofL N, .d .i64 T.A,ofL T.B,al,am]);have g3:Gr S S3:=by rw[ag];exact(Gr.F wS).M ae (Jd _) (Jd _)
   obtain⟨t3,r3⟩:∃r,S3.A (up 0 nS)= .a r [ofL N, .d .i64 T.A,ofL T.B,al,am]:=⟨_,by rw[ag];simp[XZ];rfl⟩
   rw[<-ag];rw[Ja];simp[XY,f5,r3];refine Jc (mayD (deep:=1) g3.D (hL.D g3) (ao.H g3) (by decide) a2) ?_;rintro _ S4 ⟨c4,L4,rfl⟩;have C4:Ch (fun f=>f=kr) S2 S4:=(hC.A (Ch.H _ g3) fun f w=> .inl w).A c4 fun f w=> .inl w;have b9:=QN (hasN l) T 1 aa a2;by_cases he:(mayS (hasN l) T 1 aa).1=0
   ·rw[Xa (by omega)]at O;simp[XZ,he,aw,af];exact⟨l.length-(i+1),by omega,(hI _ _ _).2 ⟨i+1,_,by omega,Q,U,f5,bn,a9,rfl,C4,L4,b9.2 he,O⟩⟩
   ·rw[Xd (by omega)]at O;simp[XZ,he];refine ai _ _ (keep C4) fun _=> ?_;unfold finS
    grind
  ·rw[Xm (by grind),QU]at O;simp[XZ,a9,aw,hi];exact b8 _ _ ⟨aa,Q,U,f5,hC,hL,by rw[O]⟩
 clear Q U bk hI;rintro y S ⟨aa,Q,U,f5,hC,hL,bo⟩;have co:=kQ (hasN l) (l.map Prod.snd) 1 0 bo;have cp:=(YJ (hasN l) (l.map Prod.snd) 1 0 (by decide)).2 bo;obtain⟨ca,bb⟩:=hL.a;rw[Ja];simp[XY,f5,bb];obtain⟨S3,ag⟩:=exE (S.D kr ca fun u=> .a u [.q rm, .d .i64 0]);have c3:Ch (fun f=>f=kr) S S3:=by rw[ag];exact(Ch.G _ hC.D).J (Jb bb) (by rw[bb];rfl) (.inl rfl) (Jd _)
 have L3:KF P S3 kr rm l 0:=hL.F c3 ⟨_,by rw[ag];exact Jk _ _ _ _⟩;have C3:Ch (fun f=>f=kr) S2 S3:=hC.A c3 fun f w=> .inl w;rw[<-ag];have bc:=ad C3 r1 bl;rw[Je,Ja];simp[XY,U,f5,bc];refine Jc (mayD (deep:=1) C3.D L3 (bj.A fun f p e=>⟨p,keep C3 f e⟩) (by decide) (by decide)) ?_;rintro _ S4 ⟨c4,L4,rfl⟩;have C4:Ch (fun f=>f=kr) S2 S4:=C3.A c4 fun f w=> .inl w;by_cases he:(mayS (hasN l) r 1 0).1=0;rotate_left
 ·simp[XZ,he];refine ai _ _ (keep C4) fun _=> ?_;unfold finS
  grind
 have cq:=Jao (hasN l) r 1 0 he;have cf:=(QN (hasN l) r 1 0 (by decide)).2 he;have bp:finS l r=Qd (fun x=>gB x (Ko l l.length [])) r 1:=by
  unfold finS
  grind
 rw[bp]at ai;have bq:=ad C4 r0 b7;have bc:=ad C4 r1 bl;have w4:=C4.D;obtain⟨n4,bd⟩:=nxE S4;simp[XY,he];rw[Ja];simp[XY,bd];obtain⟨S5,ax⟩:=exE (S4.B fun r=> .b r []);have g5:Gr S4 S5:=by rw[ax];exact Gr.G w4 (Q4 _)
 obtain⟨rh,be⟩:=exE (up 0 n4);have qh:S4.A rh= .none:=by rw[be];exact nx0 w4 bd 0
 obtain⟨th,mh⟩:∃u,S5.A rh= .b u ((hasE []).map fun p=>(ofL p.1,p.2)):=⟨_,by rw[ax,be];simp only[XZ,simprocAttr,bd];rfl⟩
 rw[<-ax,<-be];clear ax;have ah:∀{S':St},Gr S4 S'->∀f,v.A f≠ .none->S'.A f=v.A f:=fun g f e=>by rw[g.d f (by grind),keep C4 f e]
 refine Jz (fun y S=>(y 3= .e (up 1 m) 0/\y 8= .q rh/\Gr S4 S/\∃u,S.A rh= .b u ((hasE (Ko l l.length [])).map fun p=>(ofL p.1,p.2)))) (fun J2 cb=> ?_) ?_
 ·have br:=g5.A bq;rw[Ja];simp[XY,Q,br,l1];obtain⟨I,hI⟩:=loE fun j y S=>∃(i:Nat) (ab:List (Str×Bool)),j+i=l.length/\y 2= .e (up 0 m) 0/\y 3= .e (up 1 m) 0/\y 8= .q rh/\y 38= .d .i64 l.length/\y 39= .d .i64 i/\Gr S4 S/\(∃u,S.A rh= .b u ((hasE ab).map fun p=>(ofL p.1,p.2)))/\Ko l l.length []=Ko l (l.length-i) ab;refine JC I l.length (by omega) ((hI _ _ _).2 ⟨0,[],by omega,Q,U,rfl,rfl,by rfl,g5,⟨th,mh⟩,rfl⟩) ?_;clear Q U f5;intro j y S ak;obtain⟨i,ab,hj,Q,U,f8,W,X,hg,Y,O⟩:=(hI _ _ _).1 ak;by_cases hi:i<l.length
  ·have af:=wiN (i:=i) (by omega);have rS:=hg.A bq;have cc:l.length-i=(l.length-(i+1))+1:=by omega
   rw[cc,JhV]at O;rw[Ja];simp[XY,W,X,hi];rw[Je];simp[XY];refine Jz (fun y S=>(y 2= .e (up 0 m) 0/\y 3= .e (up 1 m) 0/\y 8= .q rh/\y 38= .d .i64 l.length/\y 39= .d .i64 i/\Gr S4 S/\∃u,S.A rh= .b u ((hasE (K8 l ab)).map fun p=>(ofL p.1,p.2)))) (fun J3 cd=> ?_) ?_
   ·simp[XY];rw[Ja];simp[XY,Q,rS,l1];obtain⟨I2,ay⟩:=loE fun j y S=>∃(k:Nat) (hk:List (Str×Bool)),j+k=l.length/\y 2= .e (up 0 m) 0/\y 3= .e (up 1 m) 0/\y 8= .q rh/\y 38= .d .i64 l.length/\y 39= .d .i64 i/\y 42=tv/\y 43= .d .i64 l.length/\y 44= .d .i64 k/\Gr S4 S/\(∃u,S.A rh= .b u ((hasE hk).map fun p=>(ofL p.1,p.2)))/\K8 l ab=K8 (l.drop k) hk;refine JC I2 l.length (by omega) ((ay _ _ _).2 ⟨0,ab,by omega,Q,U,f8,W,X,rfl,rfl,by rfl,hg,Y,rfl⟩) ?_;clear Q U f8 W X;intro j2 y S ak;obtain⟨k,hk,cr,Q,U,f8,W,X,bf,az,ap,hg,⟨th,Y⟩,Z⟩:=(ay _ _ _).1 ak;by_cases a0:k<l.length
    ·have aq:=wiN (i:=k) (by omega);obtain⟨f,q,al,am,a1,a3,a4,ao,d1,d2,d3,d4⟩:=Jd3 h2 (ah hg) a0;have bt:cntT l[k].2<1000000:=by
      have:=jB (ks:=l.map Prod.snd) (i:=k) (by grind)
      grind
     rw[Xc a0,JjY]at Z;obtain⟨N,ba⟩:∃N,N=l[k].1:=⟨_,rfl⟩
     obtain⟨T,hT⟩:∃T,T=l[k].2:=⟨_,rfl⟩
     rw[<-hT]at ao bt;rw[<-ba,<-hT]at a4 Z;have wS:=hg.D;obtain⟨nS,ae⟩:=nxE S;have oq:=fun k=>nes (Jr wS ae a3 k);rw[Ja];simp[XY,az,ap,a0];rw[Je];simp[XY];rw[Je];simp[XY];rw[Ja];simp[XY,bf,ap,a1,a4,ae,d2,d4];obtain⟨S1,bg⟩:=exE ((S.B fun r=> .a r [ofL [], .d .i64 0,ofL [], .g, .g]).D (up 0 nS) S.t fun u=> .a u [ofL N, .d .i64 T.A,ofL T.B,al,am]);have g1:Gr S S1:=by rw[bg];exact(Gr.F wS).M ae (Jd _) (Jd _)
     obtain⟨t1,rb⟩:∃r,S1.A (up 0 nS)= .a r [ofL N, .d .i64 T.A,ofL T.B,al,am]:=⟨_,by rw[bg];simp[XZ];rfl⟩
     rw[<-bg];have bu:S.A rh≠ .none:=by grind
     have m1:S1.A rh= .b th ((hasE hk).map fun p=>(ofL p.1,p.2)):=by rw[g1.d rh bu,Y]
     have ar:=kP (enc:=ofL) (e:= .a .s) ⟨th,m1⟩ (.h false) false N (YR N _) rfl;rw[Jk0]at ar;have G1:=hg.B g1;have bv:∀(S6:St) (o:Bool),Gr S1 S6->o=(gB N hk||Qd (fun x=>gB x hk) T 1)->Gr S4 (S6.D rh th fun u=> .b u ((hasE (sB N o hk)).map fun p=>(ofL p.1,p.2)))/\(∃u,(S6.D rh th fun u=> .b u ((hasE (sB N o hk)).map fun p=>(ofL p.1,p.2))).A rh= .b u ((hasE (sB N o hk)).map fun p=>(ofL p.1,p.2)))/\K8 l ab=K8 (l.drop (k+1)) (sB N o hk):=fun S6 o g hb=>by
      have m6:S6.A rh= .b th ((hasE hk).map fun p=>(ofL p.1,p.2)):=by rw[g.d rh (by grind),m1]
      exact⟨(G1.B g).J qh (by grind) (by rw[m6];rfl) (Q4 _),⟨_,Jk _ _ _ _⟩,by grind⟩
     cases hb:gB N hk with
     | true=>
       have au:=JaK (enc:=ofL) (e:= .a .s) m1 N (.h true) (YR N _) rfl;rw[JhU]at au;obtain⟨s1,s2,s3⟩:=bv S1 true (Gr.F g1.D) (by grind);rw[hb]at ar;simp[XZ,f8,ar,au,ap,aq];exact⟨l.length-(k+1),by omega,(ay _ _ _).2 ⟨k+1,_,by omega,Q,U,f8,W,X,bf,az,rfl,s1,s2,s3⟩⟩
     | false=>
       rw[hb]at ar;simp[XY,f8,ar,rb];refine Jj (JpI _ T (XK _) P _ rh hk _ 1 (Js g1.D S1.t) ⟨th,m1⟩ ((ao.H g1).A kR) (by decide) (by omega)) ?_;rintro _ S6 g6 rfl;have m6:S6.A rh= .b th ((hasE hk).map fun p=>(ofL p.1,p.2)):=by rw[g6.d rh (by grind),m1]
       obtain⟨o,ce⟩:∃o,o=Qd (fun x=>gB x hk) T 1:=⟨_,rfl⟩
       rw[<-ce];have au:=JaK (enc:=ofL) (e:= .a .s) m6 N (.h o) (YR N _) rfl;rw[JhU]at au;obtain⟨s1,s2,s3⟩:=bv S6 o g6 (by grind);simp[XZ,au,ap,aq];exact⟨l.length-(k+1),by omega,(ay _ _ _).2 ⟨k+1,_,by omega,Q,U,f8,W,X,bf,az,rfl,s1,s2,s3⟩⟩
    ·rw[Xm (by omega)]at Z;have Z:K8 l ab=hk:=Z;simp[XZ,az,ap,a0];exact cd _ _ ⟨Q,U,f8,W,X,hg,th,by grind⟩
   clear Q U f8 W X;rintro y S ⟨Q,U,f8,W,X,hg,Y⟩;simp[XZ,X,af];exact⟨l.length-(i+1),by omega,(hI _ _ _).2 ⟨i+1,_,by omega,Q,U,f8,W,rfl,hg,Y,O⟩⟩
  ·have h0:l.length-i=0:=by omega
   rw[h0]at O;have O:Ko l l.length []=ab:=O;simp[XZ,W,X,hi];exact cb _ _ ⟨U,f8,hg,by grind⟩
 clear Q U f5;rintro y S ⟨U,f8,hg,⟨u,Y⟩⟩;have rS:=hg.A bc;simp[XZ,U,f8,rS];refine Jc (JpI _ r (XK _) P S rh (Ko l l.length []) _ 1 hg.D ⟨u,Y⟩ (bj.A fun f p e=>⟨p,ah hg f e⟩) (by decide) (by omega)) ?_;rintro _ S6 ⟨g6,rfl⟩;simp[XZ];exact ai _ _ (ah (hg.B g6)) fun _=>rfl
theorem Jq5 {s:Sch}(f:WF v)(h:SchC P v n s)(g:TyC P v b r)(i:s.a.length<=1000)(k:(s.a.map Prod.fst).Nodup):
  Dz 67 [.j n, .j b] v fun l d=>Gr v d/\l= .h (finS s.a r):=
 Jq4 (P:=fun c=>P c/\v.A c≠ .none) f (h.A fun c p e=>⟨⟨p,e⟩,rfl⟩) (g.A fun c p e=>⟨⟨p,e⟩,rfl⟩) (fun c p=>p.2) i k
theorem JsZ (h0:z.c=[])(hw:WF v)(h:SchC P v n z)(hP:∀r,P r->v.A r≠ .none):
  Dz 28 [.j n] v fun v' bo=>Gr v bo/\v'= .d .i64 (Qv z):=by
 refine Jn tabM (aT Tryz.func28 rfl) rfl hw fun K av=> ?_;obtain⟨o,be⟩:=nxE v;have L:=qe z;have bf:=JgN z;have ae:=h;obtain⟨c,tv,sv,rfl,h1,h2,h3⟩:=h;obtain⟨M,hM⟩:∃M,M=z.b:=⟨_,rfl⟩
 obtain⟨l,aj⟩:∃l,l=z.a:=⟨_,rfl⟩
 obtain⟨fs,ak⟩:∃l,l=z.c:=⟨_,rfl⟩
 rw[<-hM]at h1;rw[<-aj]at h2;rw[<-ak]at h3;rw[<-aj,<-hM,<-ak]at L bf;have bp:=h1;obtain⟨nv,kv,es,rfl,x1,x2,x3,x4⟩:=h1.B;have l1:=h2.H;have l2:=h3.H;have b8:=x1.A;have bq:=x1.B;have b9:=x2.A;have br:=x2.B;have bt:=h2.G;have bu:=h3.G;simp only[CT,Tryz.f28,XY,simprocAttr];rw[Ja];simp[XY,be,bq,br,bt.1,bu.1];obtain⟨S,hS⟩:=exE (v.B fun t=> .a t [.d .i64 M.A,ofL M.B,nv,kv,tv,sv]);have g0:Gr v S:=by rw[hS];exact Gr.G hw (Jd _)
 obtain⟨t0,r0⟩:∃t,S.A (up 0 o)= .a t [.d .i64 M.A,ofL M.B,nv,kv,tv,sv]:=⟨_,by rw[hS];simp[XZ,be];rfl⟩
 rw[<-hS];clear hS;by_cases b1:12<l.length
 ·have al:(12:Int)<l.length:=by omega
  rw[Je,Ja];simp[XZ,r0,l1,al];refine av _ _ (fun r e=>g0.d r e) fun _=> ?_
  grind
 have al:¬(12:Int)<l.length:=by omega
 by_cases b2:12<fs.length
 ·have aw:(12:Int)<fs.length:=by omega
  rw[Je,Ja];simp[XZ,r0,l1,l2,al,aw]
  grind
 have aw:¬(12:Int)<fs.length:=by omega
 rw[Xa (fun h=>by omega)]at L;rw[Je,Ja];simp[XY,r0,l1,l2,al,aw];rw[Je,Ja];simp[XY,r0];refine Jc (JsY (P:=P) g0.D (h2.B (fun e x h=>h.A g0.H) g0.H) (by omega)) ?_;rintro _ S1 ⟨g1,rfl⟩;have G1:=g0.B g1;have r0:=g1.A r0;by_cases am:Kb none (l.map Prod.fst)=0;rotate_left
 ·simp[XZ,am];refine av _ _ (fun r e=>G1.d r e) fun _=> ?_
  grind
 rw[Xa (fun h=>h am)]at L;have ca:=qP am;simp[XY];rw[Ja];simp[XY,am];rw[Ja];simp[XY,r0];refine Jc (JpG (P:=P) g1.D (ae.A G1.H) (by grind) (by grind)) ?_;rintro _ S2 ⟨g2,rm,rfl,cb,ax⟩;rw[<-aj]at ax;have r0:=g2.A r0;have G2:=G1.B g2;have w2:=g2.D;obtain⟨n2,ay⟩:=nxE S2;simp[XY,ay];obtain⟨S3,ao⟩:=exE (S2.B fun t=> .a t [.q rm, .d .i64 0]);have g3:Gr S2 S3:=by rw[ao];exact Gr.G w2 (Jd _)
 obtain⟨O,az⟩:=exE (up 0 n2);obtain⟨tk,rk⟩:∃u,S3.A O= .a u [.q rm, .d .i64 0]:=⟨_,by rw[ao,az];simp[XZ,ay];rfl⟩
 have bv:S2.A O= .none:=by rw[az];exact nx0 w2 ay 0
 rw[<-ao,<-az];clear ao;have G3:=G2.B g3;have a0:up 0 o≠O:=fun h=>by grind
 have r0:=g3.A r0;have bg:S2.A rm≠ .none:=by obtain⟨_,h,_⟩:=ax;exact h.A
 have qk:v.A O= .none:=G2.I bv;have af:∀r,v.A r≠ .none->r≠O:=fun r e h=>e (by grind);have L3:KF P S3 O rm l 0:=
  ⟨ax.A (g3.d rm bg) g3.H,⟨tk,rk⟩,fun r p=>af r (hP r p),fun e=>bg (by grind)⟩
 have keep:∀{S':St},Ch (fun r=>r=O) S3 S'->∀r,v.A r≠ .none->S'.A r=v.A r:=fun c r e=>by rw[c.d r (by rw[G3.d r e];exact e) (af r e),G3.d r e]
 have X:∀{S':St} {p:Pt} {u:Nat} {x:List V},Ch (fun r=>r=O) S3 S'->S3.A p= .a u x->p≠O->S'.A p= .a u x:=fun c e o=>by rw[c.d _ (Jb e) o,e]
 refine Jz (fun U S=>(U 1= .e (up 0 o) 0/\U 4= .e O 0/\Ch (fun r=>r=O) S3 S/\KF P S O rm l (JD (hasN l) (l.map Prod.snd) 1 0).2/\(JD (hasN l) (l.map Prod.snd) 1 0).1=0)) (fun J1 bw=> ?_) ?_
 ·rw[Ja];simp[XY,r0,l1];obtain⟨I,hI⟩:=loE fun j U S=>∃(i ad:Nat),j+i=l.length/\U 1= .e (up 0 o) 0/\U 4= .e O 0/\U 33=tv/\U 34= .d .i64 l.length/\U 35= .d .i64 i/\Ch (fun r=>r=O) S3 S/\KF P S O rm l ad/\ad<=400/\JD (hasN l) (l.map Prod.snd) 1 0=JD (hasN l) ((l.map Prod.snd).drop i) 1 ad;refine JC I l.length (by omega) ((hI _ _ _).2 ⟨0,0,by omega,rfl,rfl,rfl,rfl,by rfl,Ch.G _ g3.D,L3,by omega,rfl⟩) ?_;intro j U S a2;obtain⟨i,ad,hj,Y,f4,bh,a5,ap,hC,hL,au,y⟩:=(hI _ _ _).1 a2;by_cases hi:i<l.length
  ·obtain⟨r,q,ag,ah,a1,a3,a4,ai,d1,d2,d3,d4⟩:=Jd3 h2 (keep hC) hi;obtain⟨N,a6⟩:∃N,N=l[i].1:=⟨_,rfl⟩
   obtain⟨T,hT⟩:∃T,T=l[i].2:=⟨_,rfl⟩
   rw[<-hT]at ai;rw[<-a6,<-hT]at a4;have hd:(l.map Prod.snd).drop i=T::(l.map Prod.snd).drop (i+1):=by
    rw[Xc (by grind),Zv,<-hT]
   rw[hd,Kg]at y;have wS:=hC.D;obtain⟨nS,Z⟩:=nxE S;have oq:=fun k=>nes (Jr wS Z a3 k);have aa:=wiN (i:=i) (by omega);rw[Ja];simp[XY,a5,ap,hi];rw[Je];simp[XY];rw[Je];simp[XY];rw[Ja];simp[XY,bh,ap,a1,a4,Z,d2,d4];obtain⟨S4,a7⟩:=exE ((S.B fun t=> .a t [ofL [], .d .i64 0,ofL [], .g, .g]).D (up 0 nS) S.t fun u=> .a u [ofL N, .d .i64 T.A,ofL T.B,ag,ah]);have g4:Gr S S4:=by rw[a7];exact(Gr.F wS).M Z (Jd _) (Jd _)
   obtain⟨t4,r4⟩:∃t,S4.A (up 0 nS)= .a t [ofL N, .d .i64 T.A,ofL T.B,ag,ah]:=⟨_,by rw[a7];simp[XZ];rfl⟩
   rw[<-a7];rw[Ja];simp[XY,f4,r4];refine Jc (mayD (deep:=1) g4.D (hL.D g4) (ai.H g4) (by decide) au) ?_;rintro _ S5 ⟨c5,L5,rfl⟩;have C5:Ch (fun r=>r=O) S3 S5:=(hC.A (Ch.H _ g4) fun r w=> .inl w).A c5 fun r w=> .inl w;have bx:=QN (hasN l) T 1 ad au;by_cases he:(mayS (hasN l) T 1 ad).1=0
   ·rw[Xa (by omega)]at y;simp[XZ,he,ap,aa];exact⟨l.length-(i+1),by omega,(hI _ _ _).2 ⟨i+1,_,by omega,Y,f4,bh,a5,rfl,C5,L5,bx.2 he,y⟩⟩
   ·rw[Xd (by omega)]at y;simp[XZ,he]
    grind
  ·rw[Xm (by grind),QU]at y;simp[XZ,a5,ap,hi];exact bw _ _ ⟨Y,f4,hC,by grind,by rw[y]⟩
 rintro U S ⟨Y,f4,hC,hL,a8⟩;rw[Xa (fun h=>h a8)]at L;have bz:=kQ (hasN l) (l.map Prod.snd) 1 0 a8;have a9:=(YJ (hasN l) (l.map Prod.snd) 1 0 (by decide)).2 a8;obtain⟨m1,b0⟩:∃m,m=(JD (hasN l) (l.map Prod.snd) 1 0).2:=⟨_,rfl⟩
 rw[<-b0]at L hL a9 bz;have ab:=X hC r0 a0;rw[Je,Ja];simp[XY,Y,f4,ab];refine Jc (mayD (deep:=1) hC.D hL (bp.A fun r p e=>⟨p,keep hC r e⟩) (by decide) a9) ?_;rintro _ S4 ⟨c4,L4,rfl⟩;have C4:Ch (fun r=>r=O) S3 S4:=hC.A c4 fun r w=> .inl w;by_cases he:(mayS (hasN l) M 1 m1).1=0;rotate_left
 ·simp[XZ,he]
  grind
 rw[Xa (fun h=>h he)]at L;have bi:=Jao (hasN l) M 1 m1 he;have bj:=(QN (hasN l) M 1 m1 a9).2 he;obtain⟨m2,b3⟩:∃m,m=(mayS (hasN l) M 1 m1).2:=⟨_,rfl⟩
 rw[<-b3]at L L4 bj bi;simp[XY];rw[Ja];simp[XY,he];have ab:=X C4 r0 a0;rw[Je,Ja];simp[XY,Y,f4,ab];refine Jc (JtO C4.D L4 (h3.B (fun e x h=>h.A fun r p e=>⟨p,keep C4 r e⟩) fun r p e=>⟨p,keep C4 r e⟩) (ak.trans h0)) ?_;rintro _ S5 ⟨c5,L5,rfl⟩;have C5:Ch (fun r=>r=O) S3 S5:=C4.A c5 fun r w=> .inl w;by_cases aq:(Qs (hasN l) none fs m2).1=0;rotate_left
 ·simp[XZ,aq]
  grind
 rw[Xa (fun h=>h aq)]at L;obtain⟨cc,cd,b4⟩:=Jb9 (hasN l) none fs m2 bj aq;obtain⟨m3,b5⟩:∃m,m=(Qs (hasN l) none fs m2).2:=⟨_,rfl⟩
 rw[<-b5]at L5 b4;simp[XY];rw[Ja];simp[XY,aq];have ab:=X C5 r0 a0;have W:∀{S':St},Gr S5 S'->∀r,v.A r≠ .none->S'.A r=v.A r:=fun g r e=>by rw[g.d r (by grind),keep C5 r e]
 refine Jz (fun U S=>(U 1= .e (up 0 o) 0/\U 4= .e O 0/\Gr S5 S/\(l.any fun p=> !finS l p.2)=false)) (fun J2 b6=> ?_) ?_
 ·rw[Ja];simp[XY,Y,ab,l1];obtain⟨I,hI⟩:=loE fun j U S=>∃(i:Nat),j+i=l.length/\U 1= .e (up 0 o) 0/\U 4= .e O 0/\U 62=tv/\U 63= .d .i64 l.length/\U 64= .d .i64 i/\Gr S5 S/\(l.any fun p=> !finS l p.2)=((l.drop i).any fun p=> !finS l p.2);refine JC I l.length (by omega) ((hI _ _ _).2 ⟨0,by omega,Y,f4,rfl,rfl,by rfl,Gr.F C5.D,rfl⟩) ?_;clear Y f4;intro j U S a2;obtain⟨i,hj,Y,f4,bk,ba,ar,hg,y⟩:=(hI _ _ _).1 a2;by_cases hi:i<l.length
  ·obtain⟨r,q,ag,ah,a1,a3,a4,ai,d1,d2,d3,d4⟩:=Jd3 h2 (W hg) hi;rw[Xc hi,Ga]at y;obtain⟨N,a6⟩:∃N,N=l[i].1:=⟨_,rfl⟩
   obtain⟨T,hT⟩:∃T,T=l[i].2:=⟨_,rfl⟩
   rw[<-hT]at ai y;rw[<-a6,<-hT]at a4;have wS:=hg.D;obtain⟨nS,Z⟩:=nxE S;have oq:=fun k=>nes (Jr wS Z a3 k);have aa:=wiN (i:=i) (by omega);rw[Ja];simp[XY,ba,ar,hi];rw[Je];simp[XY];rw[Je];simp[XY];rw[Ja];simp[XY,bk,ar,a1,a4,Z,d2,d4];obtain⟨S6,bb⟩:=exE ((S.B fun t=> .a t [ofL [], .d .i64 0,ofL [], .g, .g]).D (up 0 nS) S.t fun u=> .a u [ofL N, .d .i64 T.A,ofL T.B,ag,ah]);have g6:Gr S S6:=by rw[bb];exact(Gr.F wS).M Z (Jd _) (Jd _)
   obtain⟨t6,r6⟩:∃t,S6.A (up 0 nS)= .a t [ofL N, .d .i64 T.A,ofL T.B,ag,ah]:=⟨_,by rw[bb];simp[XZ];rfl⟩
   rw[<-bb];have G6:=hg.B g6;have bc:=G6.A ab;rw[Ja];simp[XY,Y,bc,r6];refine Jc (Jq5 (s:=z) G6.D (ae.A fun r p e=>⟨p,W G6 r e⟩) (ai.H g6) (by grind) (by grind)) ?_;rw[<-aj];rintro _ S7 ⟨g7,rfl⟩
   cases hf:finS l T with
   | true=>
     rw[hf]at y;simp[XZ,ar,aa];exact⟨l.length-(i+1),by omega,(hI _ _ _).2 ⟨i+1,by omega,Y,f4,bk,ba,rfl,G6.B g7,by grind⟩⟩
   | false=>
     rw[hf]at y;simp[XZ];refine av _ _ (W (G6.B g7)) fun _=> ?_
     grind
  ·rw[Xm (by omega)]at y;simp[XZ,ba,ar,hi];exact b6 _ _ ⟨Y,f4,hg,y⟩
 clear Y f4;rintro U S ⟨Y,f4,hg,bl⟩;rw[bl]at L;have L:Qv z=if jd l (Qk z)then 17 else 0:=L;have bc:=hg.A ab;rw[Je,Ja];simp[XY,Y,bc];refine Jc (JsX (P:=P) (Q:=fun r=>P r\/S.A r= .none) hg.D (ae.A fun r p e=>⟨p,W hg r e⟩) (by grind) h0 (fun r p=> .inl p) fun r p=> .inr p) ?_;rintro ev S6 ⟨g6,bm⟩;have kS:S.A O≠ .none:=by rw[hg.d O L5.B];exact L5.B
 have LS:KF (fun r=>P r\/S.A r= .none) S O rm l m3:=by
  have:=L5.D hg;exact⟨this.b.A rfl fun r p _=>⟨.inl p,rfl⟩,this.a,fun r p=>by grind,this.f⟩
 have bn:∀t∈Qk z,cntT t<1000000:=fun t ht=>by
  rw[bf]at ht;rcases Xy.1 ht with ht|ht
  ·rcases Xy.1 ht with ht|ht
   ·have:=Jmi ht;omega
   grind
  ·unfold qd at ht
   grind
 have bd:(Qk z).length<1000000:=by
  have hk:qd fs=[]:=by rw[ak,h0];rfl
  grind
 simp[XY,f4];refine Jc (YS (fa:=[.e O 0]) (fb:=[]) (Jba l) g6.D bm bd fun i hi S' E' g' b7=>Jr5 _ _ (XK _) _ S' O rm l m3 E' g'.D (LS.D (g6.B g')) b7 (by omega) (bn _ (Xh hi))) ?_;rintro _ S7 ⟨g7,rfl⟩;rw[qK]at L;have GF:=W (hg.B (g6.B g7))
 cases ho:(Qk z).any (Jba l)with
 | true=>
   simp[XZ]
   grind
 | false=>
   simp[XZ]
   grind
theorem Js0 (b:z.c=[])(f:WF v)(h:SchC P v n z):
  Dz 28 [.j n] v fun g a=>Gr v a/\g= .d .i64 (Qv z):=
 JsZ (P:=fun r=>P r/\v.A r≠ .none) b f (h.A fun r p e=>⟨⟨p,e⟩,rfl⟩) fun r p=>p.2
theorem addZ (i:TabZ v s P k d)(u:∀a,P a->v.A a≠ .none)(l:TyC (fun a=>¬s a) v n r):
  Dz 29 [.e k 0, .j n] v fun b S=>∃h,TabZ S h P k (addT r 400 d).1/\Kept v s S h/\b= .p [.d .i64 ((addT r 400 d).2.1:Nat), .d .i64 (addT r 400 d).2.2.1]:=by
 obtain⟨m,F,i,hF⟩:=i;refine(addTop m i l fun a g=>g).A ?_;rintro b S ⟨c,⟨h,o,w,q,x,t⟩,rfl⟩;exact⟨h,⟨c.D,o,t,fun a f z=>by grind⟩,Kept.F c q,rfl⟩
theorem JfK (a n:Int)(g:St)(h:0<n)(j:n<4611686018427387904):Dz 105 [.d .i64 a, .d .i64 n] g fun v b=>v= .d .i64 (a%n)/\g=b:=by
 refine Jl (aT Tryz.func105 rfl) rfl ?_;have c:n≠0:=by omega
 have k:=Zn a c;have l:=Zc a h;rcases JoW a h with⟨e,f⟩|⟨e,f⟩
 ·simp only[CT,Tryz.f105,XZ,simprocAttr,c,e];rw[f]
 ·have i:IntKind.i64.wrap (a.tmod n+n)=a%n:=by rw[f,JV (by omega) (by omega)]
  simp only[CT,Tryz.f105,XZ,simprocAttr,c,e,i]
theorem JtP (z:Int)(e:St)(k:WF e):Dz 107 [.d .i64 z] e fun v f=>Gr e f/\v=ofL (Jjc z):=by
 refine Jl (aT Tryz.func107 rfl) rfl ?_;obtain⟨q,g⟩:∃q,e.b=q:=⟨_,rfl⟩
 simp only[CT,Tryz.f107,XZ,simprocAttr,g];refine Jc (JfK z 7 _ (by decide) (by decide)) ?_;rintro _ _ ⟨rfl,rfl⟩;have n:=Zn z (show(7:Int)≠0 by decide);have o:=Zc z (show(0:Int)<7 by decide);obtain⟨m,h⟩:∃m:Nat,z%7=m:=⟨(z%7).toNat,by omega⟩
 have i:Jjc z=nms7.getD m []:=by unfold Jjc;grind
 rw[h]at n o⊢;rw[i];clear i h;have j:∀l,Gr e (e.B fun u=> .a u l):=fun l=>Gr.G k (Jd _);have p:(e.B fun u=>Row.a u [ofL [97],ofL [98],ofL [99],ofL [110,97,109,101],ofL [110],ofL [73,110,116],ofL [116,121,112,101]]).A q= .a e.t [ofL [97],ofL [98],ofL [99],ofL [110,97,109,101],ofL [110],ofL [73,110,116],ofL [116,121,112,101]]:=by rw[<-g];exact JM _ _
 have c:m=0\/m=1\/m=2\/m=3\/m=4\/m=5\/m=6:=by omega
 rcases c with rfl|rfl|rfl|rfl|rfl|rfl|rfl
 all_goals simp[XZ,p]
 all_goals first|exact⟨⟨by decide,by decide⟩,j _,rfl⟩|exact⟨j _,rfl⟩
theorem wrap64 (z:Int):In64 (IntKind.i64.wrap z):=by
 have a:=Zn z (show(18446744073709551616:Int)≠0 by decide);have b:=Zc z (show(0:Int)<18446744073709551616 by decide);have e:IntKind.i64.wrap z=if(9223372036854775808:Int)<=z%18446744073709551616 then z%18446744073709551616-18446744073709551616 else z%18446744073709551616:=by
  simp[IntKind.wrap,IntKind.bits,IntKind.signed]
 unfold In64;omega
theorem kidC {r:Rw}(M:WF v)(h:RwC s v n r)(i:Nat)(hi:i<1000):Dz 106 [.j n, .d .i64 i] v fun b w=>Gr v w/\∃W,b= .j W/\RwC s w W (kidS r i):=by
 refine Jl (aT Tryz.func106 rfl) rfl ?_;obtain⟨nv,kv,l,rfl,hk,hn,X,Y,N,Z,⟨aa,ab⟩,h4⟩:=h.A;obtain⟨n0,c⟩:=nxE v;have c1:=Y.A;have s1:=Y.B;have c2:=N.A;have s2:=N.B;have len2:=N.G;simp only[CT,Tryz.f106,XY,simprocAttr];rw[Ja];simp[XY,c,s1,s2];have ad:∀f g:Nat->Row,Gr v ((v.B f).B g)->True:=fun _ _ _=>trivial;have gg:Gr v ((v.B fun t=> .a t [.d .i64 r.A, .d .i64 r.n,nv,kv]).B fun t=> .a t [.d .i64 0, .d .i64 0, .g, .g]):=((Gr.F M).L (Jd _)).L (Jd _);by_cases Q:r.D.length=0
 ·rw[Z,Q]at len2;rw[Je,Ja];simp only[XZ,simprocAttr,c,len2,GV];have O:=gg.J (p:=up 1 n0) (f:=fun u=> .a u [.d .i64 (IntKind.i64.wrap (r.n+i)), .d .i64 r.A, .g, .g]) (nx0 M c 1) (by simp only[XZ,simprocAttr,c]) (by simp only[XZ,simprocAttr,c];rfl) (Jd _);refine⟨O,_,rfl, ?_⟩;rw[kidS,Xd Q];exact .mk (es:=[]) (wrap64 _) hk (fun z X=>absurd X (by simp)) (SlAt.K _ _ _) (SlAt.K _ _ _) rfl ⟨by decide,by decide⟩ fun i h=>absurd h (by simp)
 ·have x:(l.length:Int)≠0:=by omega
  rw[Je,Ja];simp only[XY,simprocAttr,c,len2,x];have hj:i%l.length<l.length:=Ha _ (by omega);have y:(i:Int).tmod (l.length:Int)=((i%l.length:Nat):Int):=rfl;obtain⟨q,o,a1,a2,a3,a4,a5⟩:=N.I hj;have m:=h4 _ hj (by omega);obtain⟨S,T,ae,he,af,ag,ah,b1,b2,b3,b4,b5⟩:=m.A;rw[he]at a4;have c3:=b1.A;have s3:=b1.B;have c4:=b2.A;have s4:=b2.B;have oq:=fun k=>nes (Jr M c a3 k);simp only[XZ,simprocAttr,c,len2,x,y,a1,a4,s3,s4,oq];have O:=gg.J (p:=up 1 n0) (f:=fun u=> .a u [.d .i64 r.D[i%l.length].A, .d .i64 r.D[i%l.length].n,S,T]) (nx0 M c 1) (by simp[XZ,c]) (by simp[XZ,c];rfl) (Jd _);refine⟨O,_,rfl, ?_⟩;have n:∀j,j=i%r.D.length->∀U:j<r.D.length,kidS r i=r.D[j]:=by
   rintro j rfl U;rw[kidS,Xa Q]
   grind
  rw[n (i%l.length) (by rw[Z]) (by omega)];have:=m.F O;rw[he]at this;exact this
theorem fewC {r:Rw}(h:RwC s v n r):∀(g:St),Gr v g->∀c:Int,-4611686018427387904<c->c<4611686018427387904->Dz 25 [.j n, .d .i64 c] g fun b W=>Gr g W/\∃m,b= .d .i64 m/\0<=m/\(m<=c\/m=0):=by
 induction h with
 | @mk rk rn zs ks nv kv y hk hn hz X N h3 hl h4 ih=>
 intro g Y c aa ab;have hw:=Y.D;refine Jl (aT Tryz.func25 rfl) rfl ?_;obtain⟨n0,f⟩:=nxE g;have c1:=X.A;have s1:=X.B;have c2:=N.A;have s2:=N.B;have len1:=X.G;have len2:=N.G;rw[Yd]at len1;simp only[CT,Tryz.f25,XY,simprocAttr];rw[Ja];simp[XY,f,s1,s2];have gb:Gr g (g.B fun t=> .a t [.d .i64 rk, .d .i64 rn,nv,kv]):=Gr.G hw (Jd _);by_cases O:c<=0
 ·rw[Je,Ja];simp only[XZ,simprocAttr,O]
  grind
 by_cases Z:(10:Int)<y.length
 ·rw[Je,Ja];simp only[XZ,simprocAttr,O,f,len2,Z]
  grind
 by_cases hb:(20:Int)<zs.length
 ·rw[Je,Ja];simp only[XZ,simprocAttr,O,f,len2,len1,Z,hb]
  grind
 rw[Je,Ja];simp[XY,O,f,len2,len1,Z,hb];have z:IntKind.i64.wrap (c-1)=c-1:=JV (by omega) (by omega);rw[Ja];simp[XY,z];refine Jz (fun k S=>(Gr g S/\∃m,k 1= .d .i64 m/\0<=m/\m<=c)) (fun J hJ=> ?_) ?_
 ·rw[Ja];simp[XY];refine Jy (fun j k S=>∃(i:Nat) (m t:Int),j+i=y.length/\Gr g S/\k 1= .d .i64 m/\0<=m/\m<=c/\k 2= .e (up 0 n0) 0/\k 5= .d .i64 i/\S.A (up 0 n0)= .a g.t [.d .i64 rk, .d .i64 rn,nv,kv]) y.length (by omega) ⟨0,c-1,0,by omega,gb,rfl,by omega,by omega,rfl,by rfl,by rw[<-f];exact JM _ _⟩ ?_;rintro L hL j k S ⟨i,m,_,hj,w,x,l,p,Q,T,U⟩;by_cases K:i<y.length
  ·by_cases M:0<m
   ·obtain⟨q,o,a1,a2,a3,a4,a5⟩:=(N.H (Y.B w)).I K;have u:=wiN (i:=i) (by omega);simp[XZ,x,Q,T,U,len2,K,M,a1,a4];refine Jc (ih i K (by omega) S (Y.B w) m (by omega) (by omega)) ?_;rintro _ S' ⟨g',m',rfl,b1,b2⟩;simp[XZ,T,u];exact⟨y.length-(i+1),by omega,hL _ _ _ ⟨i+1,m',0,by omega,w.B g',rfl,b1,by omega,Q,rfl,g'.A U⟩⟩
   ·simp[XZ,x,Q,T,U,len2,K,M];exact hJ _ _ ⟨w,m,x,l,p⟩
  ·simp[XZ,Q,T,U,len2,K];exact hJ _ _ ⟨w,m,x,l,p⟩
 rintro k S ⟨w,m,x,l,p⟩;simp only[XZ,simprocAttr,x]
 grind
end Go.Proofs.YtmcjecniobkggaaGreat
