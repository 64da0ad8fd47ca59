/- Nodes of a table, opened. A type opened. An Opt's number. What is wrong with a type, an -/
import Derived.Test.YtdajkeoobbonjaaGreatQ2
set_option linter.constructorNameAsVariable false
set_option maxHeartbeats 8000000
set_option linter.unusedVariables false
set_option linter.unusedSimpArgs false
set_option linter.unusedSectionVars false
set_option maxRecDepth 100000
namespace Go.Proofs.YtdajkeoobbonjaaGreat
open Eva Go.RowKit
variable {s P:Pt->Prop}{v:St}{e:List (Str×Ty)}{n b:List V}{t:Nat}{k i:Pt}{z:Sch}{d:Tb}{r:Ty}{q:V}
theorem addTop {F P:Pt->Prop}(N:WF v)(S:Tab s F v k d)(x:TyC P v n r)(T:∀b,P b->¬s b):
  Dz 37 [.g k 0, .j n] v fun c m=>Ch s v m/\(∃y O:Pt->Prop,(∀b,s b->y b)/\(∀b,y b->s b\/v.A b= .none)/\(∀b,O b->F b\/v.A b= .none)/\Tab y O m k (addT r 400 d).1)/\c= .p [.d .i64 ((addT r 400 d).2.1:Nat), .d .i64 (addT r 400 d).2.2.1]:=by
 refine Jl (aT Tryz.func37 rfl) rfl ?_;obtain⟨f,i⟩:=nxE v;have Q:=x.G;have z:n.take 4=n:=by rw[<-Q,XE]
 have U:4<=n.length:=by omega
 have K:Jw [V.d .i64 0] 0 [.d .i64 400]=[.d .i64 400]:=rfl;simp only[CT,Tryz.f37,XM,simprocAttr,i,x.J,Q,z,K];have l:Gr v (((v.B fun t=> .a t n).B fun t=> .a t [.d .i64 0]).D (up 1 f) (v.B fun t=> .a t n).t fun u=> .a u [.d .i64 400]):=(Gr.G N (Jc _)).M (by simp only[kj,i,ki,Zv]) (Jc _) (Jc _);obtain⟨X,Y,Z,rs,es,sv,o⟩:=S.B;have L:Tab s (fun b=>F b/\v.A b≠ .none) _ k d:=Tab.G ⟨X,Y,Z,rs,es,sv,o⟩ l;have q:=nx0 N i 1;refine Je (add _ r (XO _) s _ (fun b=>P b/\v.A b≠ .none) _ k (up 1 f) d n 400 _ l.D L ((x.A fun b p n=>⟨⟨p,n⟩,rfl⟩).H l) (fun b p=>⟨T b p.1,fun h=>p.2 (by rw[h];exact q)⟩) (by rw[Jh]) (fun w=>o.u _ w q) (fun w=>w.2 q) (by decide) (by decide)) ?_;rintro _ S2 ⟨⟨c2,⟨W2,F2,b1,b2,b3,T2⟩,_⟩,rfl⟩;simp only[XZ,simprocAttr];refine⟨(Ch.H s l).A c2 fun b w=> ?_,W2,F2,b1,fun b w=> ?_,fun b w=> ?_,T2⟩
 ·rcases w with w|w
  ·exact .inl w
  ·exact .inr (by rw[w];exact q)
 ·rcases b2 b w with w|w;exact .inl w;exact .inr (Ch.B (Ch.H s l) w)
 ·rcases b3 b w with w|w;exact .inl w.1;exact .inr (Ch.B (Ch.H s l) w)
theorem Jus {F Q:Pt->Prop}{id:Nat}(N:WF v)(m:Tab s F v k d)(hi:id<d.a.length)(hQ:∀r,v.A r= .none->Q r):
  Dz 159 [.g k 0, .d .i64 id] v fun b O=>Gr v O/\∃e,b= .p [.j e, .h true]/\NdC Q O e d.a[id]:=by
 refine Jn tabM (aT Tryz.func159 rfl) rfl N fun K aa=> ?_;obtain⟨lv,ra,rn,rs,es,sv,m⟩:=m;obtain⟨n,i⟩:=nxE v;have P:=fun r (h:v.A r≠ .none)=>jR N i h;obtain⟨t,c⟩:=m.s;have T:id<es.length:=by rw[m.D];exact hi
 obtain⟨q,qo,a1,a2,a3,a4,a5,a6⟩:=m.I T;have U:=m.H id T hi;have o:=m.J _ (Xh hi);obtain⟨E,hE⟩:∃E,E=es[id]:=⟨_,rfl⟩
 rw[<-hE]at a5 U;obtain⟨X,Y,rfl,h1,h2⟩:=U;have ab:=fun f=>nes (Jt N i m.B f);have oq:=fun f=>nes (Jt N i a2 f);have i0:¬(id:Int)<0:=by omega
 have i1:¬(d.a.length:Int)<=(id:Int):=by omega
 have y:Gr v (((v.B fun t=> .a t [.d .i64 0,ofL [], .e, .e]).B fun t=> .a t [.d .i64 0,ofL [], .e, .e]).D (up 1 n) (v.B fun t=> .a t [.d .i64 0,ofL [], .e, .e]).t fun u=> .a u [.d .i64 d.a[id].a,ofL d.a[id].d,X,Y]):=(Gr.G N (Jc _)).M (by simp only[kj,i,ki,Zv]) (Jc _) (Jc _);have r0:St.A (((v.B fun t=> .a t [.d .i64 0,ofL [], .e, .e]).B fun t=> .a t [.d .i64 0,ofL [], .e, .e]).D (up 1 n) (v.B fun t=> .a t [.d .i64 0,ofL [], .e, .e]).t fun u=> .a u [.d .i64 d.a[id].a,ofL d.a[id].d,X,Y]) (up 0 n)= .a v.t [.d .i64 0,ofL [], .e, .e]:=by simp only[XZ,simprocAttr,i]
 have r1:St.A (((v.B fun t=> .a t [.d .i64 0,ofL [], .e, .e]).B fun t=> .a t [.d .i64 0,ofL [], .e, .e]).D (up 1 n) (v.B fun t=> .a t [.d .i64 0,ofL [], .e, .e]).t fun u=> .a u [.d .i64 d.a[id].a,ofL d.a[id].d,X,Y]) (up 1 n)= .a _ [.d .i64 d.a[id].a,ofL d.a[id].d,X,Y]:=Jh _ _ _ _;simp only[CT,Tryz.f159,XZ,simprocAttr,i,ab,oq,c,m.l.B,i0,i1,a1,a5,h1.A,h2.A,h1.B,h2.B];refine Ji (Jdu (.inr rfl) (Q:=fun r=>v.A r= .none/\r≠up 0 n/\r≠up 1 n) (Jq y.D _) ((h1.I y).L _) (Ya _) (by rw[Jv];have:=o.1;omega) ?_) ?_
 ·exact fun r w=>⟨Ch.B (Ch.H (fun _=>False) y) w,(fun e=>Jb r0 ((congrArg (St.A _) e).symm.trans w)),(fun e=>Jb r1 ((congrArg (St.A _) e).symm.trans w))⟩
 rintro ad S2 z x;have x:=x.S;have Z:S2.A (up 1 n)= .a _ [.d .i64 d.a[id].a,ofL d.a[id].d,X,Y]:=z.B r1;have b0:S2.A (up 0 n)= .a _ [.d .i64 0,ofL [], .e, .e]:=z.B r0;simp only[XZ,simprocAttr,Z];refine Ji (Jdu (.inl rfl) (Q:=fun r=>v.A r= .none/\r≠up 0 n/\r≠up 1 n) (Jq z.D _) (((h2.I y).I z).L _) (Jej _) (by rw[JP];have:=o.2;omega) ?_) ?_
 ·exact fun r w=>⟨Ch.B (Ch.H (fun _=>False) (y.A z)) w,fun e=>Jb b0 (by rw[<-e];exact w),fun e=>Jb Z (by rw[<-e];exact w)⟩
 rintro ae S3 g3 c3;have c3:=c3.S;have x:=x.I g3;have Z:=g3.B Z;have b0:=g3.B b0;have G3:=(y.A z).A g3;simp only[XZ,simprocAttr,Z,b0,x.A,c3.A,x.B,c3.B];refine aa _ _ (fun r e=>by simp only[JQ,P r e,X8];exact G3.d r e) fun _=>⟨_,rfl,ad,ae,rfl,x.D fun r p e=>⟨hQ r p.1, ?_⟩,c3.D fun r p e=>⟨hQ r p.1, ?_⟩⟩
 ·simp only[JQ,p.2.1,p.2.2,X8]
 ·simp only[JQ,p.2.1,p.2.2,X8]
def Jdv (tb:Tb)(z:Int):Nat×Bool:=if z<0 then(0,false)else Ks tb (tb.a.length+1) z.toNat
theorem Jut {F:Pt->Prop}{id:Int}(hw:WF v)(w:Tab s F v k d):
  Dz 158 [.g k 0, .d .i64 id] v fun f ad=>f= .p [.d .i64 ((Jdv d id).1:Nat), .h (Jdv d id).2]/\v=ad:=by
 refine Jl (aT Tryz.func158 rfl) rfl ?_;obtain⟨lv,ra,rn,rs,es,sv,w⟩:=w;obtain⟨t,c⟩:=w.s;have T:IntKind.i64.wrap ((d.a.length:Int)+1)=((d.a.length+1:Nat):Int):=by have:=w.L;rw[JX (by omega) (by omega)];rfl
 simp only[CT,Tryz.f158,XZ,simprocAttr,c,w.l.B,T];obtain⟨K,hK⟩:∃K:V->St->Prop,∀f S,K f S<->(f= .p [.d .i64 ((Jdv d id).1:Nat), .h (Jdv d id).2]/\v=S):=⟨_,fun _ _=>Iff.rfl⟩
 simp[<-hK];obtain⟨L,hL⟩:=loE fun j U S=>∃(i:Nat) (z:Int),S=v/\j+i=d.a.length+1/\U 0= .g k 0/\U 1= .d .i64 z/\U 13= .d .i64 ((d.a.length+1:Nat):Int)/\U 14= .d .i64 i/\Jdv d id=if z<0 then(0,false)else Ks d (d.a.length+1-i) z.toNat;have:=w.L;refine JD L (d.a.length+1) (by omega) ((hL _ _ _).2 ⟨0,id,rfl,by omega,rfl,rfl,rfl,by rfl,rfl⟩) ?_;intro j U S ae;obtain⟨i,z,rfl,hj,P,X,n,x,m⟩:=(hL _ _ _).1 ae;by_cases hi:i<d.a.length+1
 ·have u:(i:Int)<((d.a.length+1:Nat):Int):=by omega
  by_cases Y:z<0
  ·simp only[XZ,simprocAttr,X,n,x,u,Y]
   grind
  obtain⟨a,rfl⟩:∃a:Nat,z=a:=⟨z.toNat,by omega⟩
  rw[Xa (by omega),show d.a.length+1-i=(d.a.length-i)+1 by omega]at m;simp at m;by_cases z1:d.a.length<=a
  ·have y:(d.a.length:Int)<=(a:Int):=by omega
   rw[qP z1]at m;simp only[XZ,simprocAttr,P,X,n,x,u,Y,c,w.l.B,y]
   grind
  have y:¬(d.a.length:Int)<=(a:Int):=by omega
  have Z:a<d.a.length:=by omega
  have M:a<es.length:=by rw[w.D];exact Z
  obtain⟨q,qo,a1,a2,a3,a4,a5,a6⟩:=w.I M;have aa:=w.H a M Z;have O:=a6 0;have Q:=a6 1;obtain⟨E,hE⟩:∃E,E=es[a]:=⟨_,rfl⟩
  simp[<-hE]at aa O Q;obtain⟨nv,kv,rfl,h1,h2⟩:=aa;have O:=O (by simp);have Q:=Q (by simp);simp at O Q;by_cases k9:d.a[a].a=9
  ·have N:(d.a[a].a=9)=True:=Zn k9;have r:=K0 (e:= .a .s) w.o (.d .i64 0) true d.a[a].d (YV _ _) rfl;rw[JmK]at r;have J:=wiN (i:=i) (by omega);have ab:defI d d.a[a].d=(d.c.find? fun p=>d.a[a].d=p.1).map (·.2):=rfl;rw[<-ab]at r
   cases hd:defI d d.a[a].d with
   | none=>
     rw[JdR Z k9 hd]at m;rw[hd]at r;simp[ansL]at r;simp only[XZ,simprocAttr,P,X,n,x,u,Y,c,w.l.B,y,a1,O,Q,N,r,J];exact⟨d.a.length+1-(i+1),by omega,(hL _ _ _).2 ⟨i+1,-1,rfl,by omega,P,rfl,n,rfl,by grind⟩⟩
   | some b=>
     rw[qf Z k9 hd]at m;rw[hd]at r;simp[ansL]at r;simp only[XZ,simprocAttr,P,X,n,x,u,Y,c,w.l.B,y,a1,O,Q,N,r,J];exact⟨d.a.length+1-(i+1),by omega,(hL _ _ _).2 ⟨i+1,b,rfl,by omega,P,rfl,n,rfl,by grind⟩⟩
  ·have N:(d.a[a].a=9)=False:=Zi k9;rw[qQ Z k9]at m;simp only[XZ,simprocAttr,P,X,n,x,u,Y,c,w.l.B,y,a1,O,N]
   grind
 ·have u:¬(i:Int)<((d.a.length+1:Nat):Int):=by omega
  have M:i=d.a.length+1:=by omega
  simp only[XZ,simprocAttr,n,x,u];rw[hK,m,M,Nat.sub_self];refine⟨?_,rfl⟩
  split<;>rfl
theorem Juu {F:Pt->Prop}{id:Nat}(f:WF v)(i:Tab s F v k d):
  Dz 158 [.g k 0, .d .i64 id] v fun b c=>b= .p [.d .i64 ((Ks d (d.a.length+1) id).1:Nat), .h (Ks d (d.a.length+1) id).2]/\v=c:=by
 have e:Jdv d (id:Int)=Ks d (d.a.length+1) id:=by rfl
 rw[<-e];exact Jut f i
theorem optC {F:Pt->Prop}(id:Nat)(j:WF v)(l:Tab s F v k d):
  Dz 213 [.g k 0, .d .i64 id] v fun b c=>Ch s v c/\(∃h i:Pt->Prop,(∀r,s r->h r)/\(∀r,h r->s r\/v.A r= .none)/\(∀r,i r->F r\/v.A r= .none)/\Tab h i c k (layS d ⟨6,[],[],[id]⟩).1)/\b= .p [.d .i64 ((layS d ⟨6,[],[],[id]⟩).2.1:Nat), .d .i64 (layS d ⟨6,[],[],[id]⟩).2.2]:=by
 refine Jl (aT Tryz.func213 rfl) rfl ?_;obtain⟨n,f⟩:=nxE v;simp only[CT,Tryz.f213,XZ,simprocAttr,f];have g:Gr v (v.B fun u=> .a u [.d .i64 (id:Int)]):=Gr.G j (Jc _);refine Je (lay (P:=fun _=>True) (nd:=⟨6,[],[],[id]⟩) g.D (l.G g) ⟨.e, .m (up 0 n) 0 1 1 1,rfl,SlAt.K _ _ _, ?_⟩ ⟨XC _,by simp⟩) ?_
 ·refine⟨Jcq _, .inr ⟨up 0 n,0,trivial, .inr ⟨1,Xb _,rfl⟩,[.d .i64 (id:Int)], .inl ⟨v.t,by simp[XZ,f]⟩,Xb _,rfl⟩⟩
 ·rintro _ M ⟨o,⟨q,x,y,z,J,L⟩,rfl⟩;simp only[XZ,simprocAttr];exact⟨(Ch.H s g).A o fun r w=> .inl w,q,x,y,fun r w=>by rcases z r w with w|w;exact .inl w;exact .inr (Ch.B (Ch.H s g) w),fun r w=>by rcases J r w with w|w;exact .inl w;exact .inr (Ch.B (Ch.H s g) w),L⟩
def zty :V:= .j [.d .i64 0,ofL [], .e, .e]
theorem mayC :∀(m:Nat) (ty:Ty),tsz ty<m->∀(P:Pt->Prop) (z:St) (O Y:Pt) (l:List (Str×Ty)) (e:List V) (f o tk:Nat),WF z->JdT P z Y l->TyC P z e ty->(∀r,P r->r≠O)->Y≠O->z.A O= .a tk [.q Y, .d .i64 o]->f<=13->o<=400->
  Dz 68 [.g O 0, .j e, .d .i64 f] z fun v ba=>Ch (fun r=>r=O) z ba/\(∃t,ba.A O= .a t [.q Y, .d .i64 ((mayS (hasN l) ty f o).2:Nat)])/\v= .d .i64 (mayS (hasN l) ty f o).1
 |0,_,h=>absurd h (by omega)
 | m+1, .mk k x Q y,hm=>by
   intro P z O Y l e f o tk hw hM hx hP ai aj bh bz;refine Jfj tabM (aT Tryz.func68 rfl) rfl hw fun K au=> ?_;obtain⟨n,Z⟩:=nxE z;have b0:=fun r (h:z.A r≠ .none)=>jR hw Z h;obtain⟨nv,kv,es,rfl,x1,x2,x3,x4⟩:=hx.D;have l1:=x1.G;have l2:=x2.G;rw[Jv]at l1;rw[x3]at l2;have hS:=qR (hasN l) k x Q y f o;obtain⟨zv,hz,ak⟩:=hM.B zty x;have bi:∃c,zv= .j c/\c.length=4/\Kc c=true:=by
    cases hd:defN l x with
    |none=>rw[hd]at ak;exact⟨_,ak,rfl,rfl⟩
    |some t=>rw[hd]at ak;obtain⟨c,a,b⟩:=ak;exact⟨c,a,b.G,b.J⟩
   obtain⟨zc,rfl,bj,bk⟩:=bi;have b7:(4:Nat)<=4:=Xb 4;have av:=wiN (i:=o) (by omega);have al:=fun k=>nes (Jt hw Z (Jb aj) k);have ae:z.A Y≠ .none:=by obtain⟨_,h,_⟩:=hM;exact h.A
   have bl:=fun k=>nes (Jt hw Z ae k);have bm:=nes ai;have bn:∀S:St,S.A Y=z.A Y->Q9 S (.a .s) (.j [.d .i64 0,ofL [], .e, .e]) true (.q Y) (ofL x)=some (.p [.j zc, .h (hasN l x)], .a):=fun S hS=>hz true S hS;have bo:Jw [V.d .i64 0,ofL [], .e, .e] 0 zc=zc:=YO (by grind);have b8:Jw [.q Y, .d .i64 (o:Int)] 1 [.d .i64 ((o+1:Nat):Int)]=[.q Y, .d .i64 ((o+1:Nat):Int)]:=rfl;have g0:Gr z (z.B fun t=> .a t [.d .i64 k,ofL x,nv,kv]):=Gr.G hw (Jc _);obtain⟨S1,am⟩:∃S1,S1=(((z.B fun t=>Row.a t [V.d IntKind.i64 k,ofL x,nv,kv]).D O tk fun u=>Row.a u [V.q Y,V.d IntKind.i64 ((o+1:Nat):Int)]).B fun t=>Row.a t [V.d IntKind.i64 0,ofL [],V.e,V.e]).D (up 1 n) ((z.B fun t=>Row.a t [V.d IntKind.i64 k,ofL x,nv,kv]).D O tk fun u=>Row.a u [V.q Y,V.d IntKind.i64 ((o+1:Nat):Int)]).t fun u=>Row.a u zc:=⟨_,rfl⟩
   have c1:Ch (fun r=>r=O) z S1:=by
    rw[am];exact((Ch.H (fun r=>r=O) g0).J (Jb (g0.B aj)) (by rw[g0.B aj];rfl) (.inl rfl) (Jc _)).M (p:=up 1 n) (by simp[Jal,kj,Z,ki]) (Jc _) (Jc _)
   have aa:S1.A O= .a (z.t+1) [.q Y, .d .i64 ((o+1:Nat):Int)]:=by rw[am];simp only[XZ,simprocAttr,Z,al];rfl
   have W:S1.A (up 0 n)= .a z.t [.d .i64 k,ofL x,nv,kv]:=by rw[am];simp only[XZ,simprocAttr,Z,al]
   have bb:TyC P S1 [.d .i64 k,ofL x,nv,kv] (.mk k x Q y):=hx.A fun r p e=>⟨p,c1.d r e (hP r p)⟩
   have done:∀(S:St) (e:Int),Ch (fun r=>r=O) z S->(∃t,S.A O= .a t [.q Y, .d .i64 ((o+1:Nat):Int)])->mayS (hasN l) (.mk k x Q y) f o=(e,o+1)->K (.d .i64 e) S:=fun S e h1 h2 h3=>by
    refine au _ _ (fun r a b=>h1.d r a b) fun _=> ?_
    grind
   simp only[CT,Tryz.f68,XY,simprocAttr];rw[Ja];simp only[XY,simprocAttr,Z,x1.B,x2.B];rw[Ja];simp only[XY,simprocAttr,Z,al,aj,av];rw[Ja];simp only[XN,simprocAttr,Z,al,bn,bl,bm,bj,bk,bo];simp only[<-am];refine YU (fun N S=>S1=S/\N 0= .g O 0/\N 2= .d .i64 f/\N 4= .g (up 0 n) 0/\N 8= .h (hasN l x)/\N 9= .h (decide (k=7\/k=8))) ?_ ?_
   ·by_cases c7:k=7
    ·simp only[XZ,simprocAttr,W,c7];simp
    ·by_cases c8:k=8
     ·simp only[XZ,simprocAttr,W,c8];simp
     ·simp only[XZ,simprocAttr,W,c7,c8];simp
   rintro N _ ⟨rfl,f0,f2,U,f8,f9⟩;by_cases d1:400<o+1
   ·have ad:(400:Int)<((o+1:Nat):Int):=by omega
    simp only[XZ,simprocAttr,f0,aa,ad]
    grind
   have ad:¬(400:Int)<((o+1:Nat):Int):=by omega
   rw[Xa d1]at hS;by_cases d2:12<f
   ·have af:(12:Int)<(f:Int):=by omega
    simp only[XZ,simprocAttr,f0,f2,aa,ad,af]
    grind
   have af:¬(12:Int)<(f:Int):=by omega
   rw[Xa d2]at hS;by_cases d3:k<1\/9<k
   ·rw[Xe d3]at hS;by_cases ao:k<1
    ·simp only[XZ,simprocAttr,f0,f2,U,aa,W,ad,af,ao]
     grind
    ·have aw:9<k:=by omega
     simp only[XZ,simprocAttr,f0,f2,U,aa,W,ad,af,ao,aw]
     grind
   have ao:¬k<1:=by omega
   have aw:¬9<k:=by omega
   rw[Xa d3]at hS;refine Ju (fun N S=>((¬(y.length≠KS (.mk k x Q y)\/(x≠[]/\k≠9)\/(0<Q.length/\¬(k=7\/k=8)))/\¬(k=9/\hasN l x=false))/\Gr S1 S/\N 0= .g O 0/\N 2= .d .i64 f/\N 4= .g (up 0 n) 0)) (fun J hJ=> ?_) ?_
   ·simp only[XY,simprocAttr];rw[Ja];simp only[XY,simprocAttr,f0,aa,ad];rw[Ja];simp only[XY,simprocAttr,f2,af];rw[Ja];simp only[XY,simprocAttr,U,W,ao,aw];obtain⟨B,hB⟩:∃B:Prop,B=(y.length≠KS (.mk k x Q y)\/(x≠[]/\k≠9)\/(0<Q.length/\¬(k=7\/k=8))):=⟨_,rfl⟩
    refine Jcp (fun N S=>(Gr S1 S/\N 0= .g O 0/\N 2= .d .i64 f/\N 4= .g (up 0 n) 0/\N 8= .h (hasN l x)/\∃b:Bool,N 57= .h b/\(b=true<->B))) (fun I hI=> ?_) ?_
    ·simp only[XZ,simprocAttr,U,W,l2];refine Ji (Jun (Jq c1.D _) (bb.I _)) ?_;rintro _ S2 X rfl;have b2:=X.B W;by_cases e1:(y.length:Int)=(KS (.mk k x Q y):Nat)
     ·by_cases e2:x=[]
      ·by_cases e4:(0:Int)<Q.length
       ·simp only[XZ,simprocAttr,U,f9,b2,l1,e1,e2,e4];refine hI _ _ ⟨X,f0,f2,U,f8, ?b1,by rfl, ?_⟩
        grind
       ·simp only[XZ,simprocAttr,U,b2,l1,e1,e2,e4];refine hI _ _ ⟨X,f0,f2,U,f8, ?b2,by rfl, ?_⟩
        grind
      ·by_cases e3:k=9
       ·by_cases e4:(0:Int)<Q.length
        ·simp only[XZ,simprocAttr,U,f9,b2,l1,e1,e2,e3,e4];refine hI _ _ ⟨X,f0,f2,U,f8, ?b3,by rfl, ?_⟩
         grind
        ·simp only[XZ,simprocAttr,U,b2,l1,e1,e2,e3,e4];refine hI _ _ ⟨X,f0,f2,U,f8, ?b4,by rfl, ?_⟩
         grind
       ·simp[XZ,U,b2,e1,e2,e3];refine hI _ _ ⟨X,f0,f2,U,f8, ?b5,by rfl, ?_⟩
        grind
     ·simp[XZ,e1];refine hI _ _ ⟨X,f0,f2,U,f8, ?b6,by rfl, ?_⟩
      grind
    rintro N S2 ⟨X,f0,f2,U,f8,b,ap,hb⟩;rw[hB]at hb;have b2:=X.B W;have cS:Ch (fun r=>r=O) z S2:=c1.I X
    cases b with
    | true=>
      simp[XZ,ap];exact done _ _ cS ⟨_,X.B aa⟩ (by grind)
    | false=>
      have ax:¬(y.length≠KS (.mk k x Q y)\/(x≠[]/\k≠9)\/(0<Q.length/\¬(k=7\/k=8))):=fun h=>by grind
      rw[Xa ax]at hS;by_cases e9:k=9
      ·have aq:(k=9)=True:=Zn e9
       cases hh:hasN l x with
       | false=>
         rw[hh]at f8;simp[XZ,ap,U,f8,b2,aq];exact done _ _ cS ⟨_,X.B aa⟩ (by grind)
       | true=>
         rw[hh]at f8;simp[XZ,ap,U,f8,b2,aq];exact hJ _ _ ⟨⟨ax,fun h=>by grind⟩,X,f0,f2,U⟩
      ·have aq:(k=9)=False:=Zi e9;simp[XZ,ap,U,b2,aq];exact hJ _ _ ⟨⟨ax,fun h=>e9 h.1⟩,X,f0,f2,U⟩
   ·rintro N S2 ⟨⟨bc,bp⟩,X,f0,f2,U⟩;rw[Xa bc,Xa bp]at hS;have b2:=X.B W;have cS:Ch (fun r=>r=O) z S2:=c1.I X;simp[XZ,U,b2];refine Je (JrE X.D (bb.H X)) ?_;rintro _ S3 ⟨g3,rfl⟩;by_cases ef:KG (.mk k x Q y)=0
    ·have ay:(KG (.mk k x Q y)=0)=True:=Zn ef;simp[XZ,ay,U,g3.B b2,l2];rw[Xa (by omega)]at hS;have G3:=cS.I g3;have bq:=g3.B (X.B aa);obtain⟨L,hL⟩:=loE fun j N S=>∃i mi ti,j+i=y.length/\N 0= .g O 0/\N 2= .d .i64 f/\N 98=kv/\N 99= .d .i64 y.length/\N 100= .d .i64 (i:Nat)/\Ch (fun r=>r=O) z S/\S.A O= .a ti [.q Y, .d .i64 (mi:Nat)]/\mi<=400/\JE (hasN l) y (f+1) (o+1)=JE (hasN l) (y.drop i) (f+1) mi;have b9:Q.length<=8:=by
      have h:(if 8<Q.length then(3:Int)else if Kk none Q≠0 then Kk none Q else if k=8/\Q=[]then 12 else 0)=0:=ef;omega
     have br:y.length<1000000:=by
      have e1:y.length=KS (.mk k x Q y):=Xd fun e=>bc (.inl e);have e2:KS (.mk k x Q y)<=8:=by
       show(if k=4\/k=5\/k=6 then 1 else if k=7\/k=8 then Q.length else 0)<=8
       grind
      omega
     refine JD L y.length br ((hL _ _ _).2 ⟨0,o+1,_,by omega,f0,f2,rfl,rfl,by rfl,G3,bq,by omega,rfl⟩) ?_;intro j N S bt;obtain⟨i,mi,ti,hj,f0,f2,bd,az,ag,hC,rk,be,ab⟩:=(hL _ _ _).1 bt;have wS:=hC.D;obtain⟨nS,a0⟩:=nxE S;by_cases hi:i<y.length
     ·have ar:i<es.length:=by omega
      have a6:∀r,P r->z.A r≠ .none->S.A r=z.A r:=fun r p e=>hC.d r e (hP r p);obtain⟨q,qo,a1,a2,a3,a4,a5⟩:=(x2.D fun r p e=>⟨p,a6 r p e⟩:SlAt P S kv 4 es).H ar;have oq:=fun k=>nes (Jt wS a0 a3 k);have ah:=x4 i ar hi;obtain⟨E,hE⟩:∃E,E=es[i]:=⟨_,rfl⟩
      obtain⟨T,hT⟩:∃T,T=y[i]:=⟨_,rfl⟩
      rw[<-hE]at a4 ah;rw[<-hT]at ah;have bu:tsz T<m:=by rw[hT];have:=Yv (k:=k) (n:=x) (ns:=Q) hi;omega
      have e4:=ah.G;have bv:=ah.J;have bf:Jw [.d .i64 0,ofL [], .e, .e] 0 E=E:=YO (by grind);have bw:E.take 4=E:=by grind
      have ca:4<=E.length:=by omega
      have bx:=wiN (i:=f) (by omega);have a7:=wiN (i:=i) (by omega);simp[XM,f0,f2,bd,az,ag,hi,a1,a4,a0,e4,bv,bf,bw,bx];have gS:Gr S ((S.B fun t=> .a t [.d .i64 0,ofL [], .e, .e]).D (up 0 nS) S.t fun u=> .a u E):=(Gr.F wS).M a0 (Jc _) (Jc _);refine Je (mayC m T bu P _ O Y l E (f+1) mi ti gS.D (hM.A (by rw[gS.d Y (by rw[hC.d Y ae ai];omega),hC.d Y ae ai]) fun r p e=>⟨p,by rw[gS.d r (by grind),a6 r p e]⟩) ((ah.A fun r p e=>⟨p,a6 r p e⟩).H gS) hP ai (gS.B rk) (by omega) be) ?_;rintro _ S4 ⟨c4,⟨t4,r4⟩,rfl⟩;rw[Xc hi,Kg,<-hT]at ab;have a8:=QN (hasN l) T (f+1) mi be;have bg:Ch (fun r=>r=O) z S4:=(hC.I gS).A c4 fun r w=> .inl w;by_cases he:(mayS (hasN l) T (f+1) mi).1=0
      ·rw[Xa (by omega)]at ab;have a9:((mayS (hasN l) T (f+1) mi).1=0)=True:=Zn he;simp[XZ,a9,ag,a7];exact⟨y.length-(i+1),by omega,(hL _ _ _).2 ⟨i+1,_,t4,by omega,f0,f2,bd,az,rfl,bg,r4,a8.2 he,ab⟩⟩
      ·rw[Xe (by omega)]at ab;have a9:((mayS (hasN l) T (f+1) mi).1=0)=False:=Zi he;simp[XZ,a9];refine au _ _ (fun r a b=>bg.d r a b) fun _=> ?_
       grind
     ·have ar:i=y.length:=by omega
      rw[ar,Ga,QT]at ab;simp[XZ,az,ag,hi];refine au _ _ (fun r a b=>hC.d r a b) fun _=> ?_
      grind
    ·have ay:(KG (.mk k x Q y)=0)=False:=Zi ef;simp[XZ,ay];exact done _ _ (cS.I g3) ⟨_,g3.B (X.B aa)⟩ (by grind)
structure KE (P:Pt->Prop) (st:St) (kr rm:Pt) (l:List (Str×Ty)) (met:Nat):Prop where
 b:JdT P st rm l
 a:∃t,st.A kr= .a t [.q rm, .d .i64 met]
 d:∀r,P r->r≠kr
 f:rm≠kr
theorem KE.A {P:Pt->Prop}{st:St}{g e:Pt}{l:List (Str×Ty)}{c:Nat}(h:KE P st g e l c):st.A e≠ .none:=by
 obtain⟨_,h,_⟩:=h.b;exact h.A
theorem KE.B (h:KE s v k i e t):v.A k≠ .none:=by
 obtain⟨_,h⟩:=h.a
 grind
theorem KE.F {m:St}{n:Pt}{l:List (Str×Ty)}{j:Nat}(h:KE s v i n l t)(c:Ch (fun r=>r=i) v m)(k:∃g,m.A i= .a g [.q n, .d .i64 j]):KE s m i n l j:=
 ⟨h.b.A (c.d n h.A h.f) fun r p e=>⟨p,c.d r e (h.d r p)⟩,k,h.d,h.f⟩
theorem KE.D {st':St}{l:List (Str×Ty)}(h:KE s v k i l t)(g:Gr v st'):KE s st' k i l t:=
 h.F (Ch.H _ g) (by obtain⟨c,e⟩:=h.a;exact⟨c,g.B e⟩)
theorem mayD {deep:Nat}(u:WF v)(hL:KE s v k i e t)(w:TyC s v n r)(x:deep<=13)(q:t<=400):
  Dz 68 [.g k 0, .j n, .d .i64 deep] v fun h p=>Ch (fun m=>m=k) v p/\KE s p k i e (mayS (hasN e) r deep t).2/\h= .d .i64 (mayS (hasN e) r deep t).1:=by
 obtain⟨o,y⟩:=hL.a;exact(mayC _ r (XO _) s v k i e n deep t o u hL.b w hL.d hL.f y x q).A fun h p ⟨a,b,c⟩=>⟨a,hL.F a b,c⟩
theorem Jlx {f:List Ty}(p:Ty->Bool)(N:WF v)(h:LstAt (TyC s v) s v q 4 f)(U:f.length<1000000)
  (W:∀i (l:i<f.length) (S:St) (e:List V),Gr v S->TyC s S e f[i]->Dz t (n++[.j e]++b) S fun q X=>Gr S X/\q= .h (p f[i])):
  Dz 115 [q, .D t n b] v fun Y w=>Gr v w/\Y= .d .i64 (match qU p f 0 with|some j=>(j:Int)|none=> -1):=by
 refine Jn tabM (aT Tryz.func115 rfl) rfl N fun K o=> ?_;have Z:=h.H;simp only[CT,Tryz.f115,XZ,simprocAttr,Z];refine Jo (fun j u S=>∃(i:Nat),Gr v S/\j+i=f.length/\u 0=q/\u 1= .D t n b/\u 7= .d .i64 f.length/\u 8= .d .i64 i/\qU p f 0=qU p (f.drop i) i) f.length U ⟨0,Gr.F N,by omega,rfl,rfl,rfl,by rfl,rfl⟩ ?_;rintro L hL j u S ⟨i,m,hj,O,Q,y,z,c⟩;by_cases l:i<f.length
 ·obtain⟨a,qo,E,a1,a2,a3,a4,J,e4,a5⟩:=(h.G (fun e x h=>h.H m) m.H:LstAt (TyC s S) s S q 4 f).A l;have k:=wiN (i:=i) (by omega);simp[XZ,O,Q,y,z,l,a1,a4];refine Je (by simpa using W i l S E m J) ?_;rintro _ S2 ⟨T,rfl⟩;rw[Xc l,qU]at c
  cases hp:p f[i]with
  | true=>
    rw[Xe hp]at c;simp[XZ];refine o _ _ (fun r e=>(m.A T).d r e) fun _=> ?_;rw[c]
  | false=>
    rw[Xa (by grind)]at c;simp[XZ,z,k];exact⟨f.length-(i+1),by omega,hL _ _ _ ⟨i+1,m.A T,by omega,O,Q,y,rfl,c⟩⟩
 ·have M:i=f.length:=by omega
  rw[M,Ga,qU]at c;simp[XZ,y,z,l];refine o _ _ (fun r e=>m.d r e) fun _=> ?_;rw[c]
theorem YX {a:List Ty}{fa fb:List V}(p:Ty->Bool)(f:WF v)(h:LstAt (TyC s v) s v q 4 a)(n:a.length<1000000)
  (o:∀i (y:i<a.length) (S:St) (e:List V),Gr v S->TyC s S e a[i]->Dz t (fa++[.j e]++fb) S fun q u=>Gr S u/\q= .h (p a[i])):
  Dz 71 [q, .D t fa fb] v fun w c=>Gr v c/\w= .h (a.any p):=by
 refine Jn tabM (aT Tryz.func71 rfl) rfl f fun K b=> ?_;simp only[CT,Tryz.f71,XZ,simprocAttr];refine Je (Jlx p f h n o) ?_;rintro _ z ⟨k,rfl⟩;have l:=Jfm p a 0
 cases m:qU p a 0 with
 | none=>
   rw[m]at l;simp[XZ];refine b _ _ (fun r e=>k.d r e) fun _=> ?_
   grind
 | some j=>
   rw[m]at l;have x:(0:Int)<=(j:Int):=by omega
   simp[XZ,x];refine b _ _ (fun r e=>k.d r e) fun _=> ?_
   grind
theorem JsP :∀(m:Nat) (ty:Ty),tsz ty<m->∀(P:Pt->Prop) (o:St) (kr y:Pt) (l:List (Str×Ty)) (af:Nat) (e:List V),WF o->KE P o kr y l af->TyC P o e ty->l.length<1000000->cntT ty<1000000->
  Dz 73 [.g kr 0, .j e] o fun v a0=>Gr o a0/\v= .h (Jbp l ty)
 |0,_,h=>absurd h (by omega)
 | m+1, .mk k X ns z,hm=>by
   intro P o kr y l af e Z hL hx hl a6;refine Jn tabM (aT Tryz.func73 rfl) rfl Z fun K am=> ?_;obtain⟨n,f⟩:=nxE o;obtain⟨nv,kv,es,rfl,x1,x2,x3,x4⟩:=hx.D;have l2:=x2.G;rw[x3]at l2;have hS:=JjB l k X ns z;have g0:Gr o (o.B fun t=> .a t [.d .i64 k,ofL X,nv,kv]):=Gr.G Z (Jc _);have a7:=fun k=>nes (Jt Z f hL.B k);have a8:=fun k=>nes (Jt Z f hL.A k);have ao:z.length<1000000:=by have h1:=Jcs z;rw[Yy]at a6;omega
   have a9:(z.length=1)->((z.length:Int)=1)=True:=fun h=>Zn (by omega);have ba:¬(z.length=1)->((z.length:Int)=1)=False:=fun h=>Zi (by omega);have ap:LstAt (TyC P o) P o kv 4 z:=⟨es,x2,x3,x4⟩
   obtain⟨B,Y⟩:∃B:Bool,B=(if k=6/\z.length=1 then decide ((KL l l.length (z.headD QD)).A=6)else false):=⟨_,rfl⟩
   rw[<-Y]at hS;obtain⟨I,hI⟩:=opE fun fr S=>(Gr o S/\fr 0= .g kr 0/\fr 3= .g (up 0 n) 0/\S.A (up 0 n)= .a o.t [.d .i64 k,ofL X,nv,kv]/\B=false)
   simp only[CT,Tryz.f73,XY,simprocAttr];rw[Ja];simp[XY,f,x1.B,x2.B];have r0:(o.B fun t=> .a t [.d .i64 k,ofL X,nv,kv]).A (up 0 n)= .a o.t [.d .i64 k,ofL X,nv,kv]:=by simp[XZ,f]
   refine Yf I ?_ ?_
   ·by_cases k6:k=6
    ·have aa:(k=6)=True:=Zn k6;by_cases c1:z.length=1
     ·rw[Xe ⟨k6,c1⟩]at Y;have bb:0<z.length:=by omega
      obtain⟨x,bt⟩:∃x,z=[x]:=Hi.1 c1;obtain⟨q,qo,E,a1,a2,a3,a4,ag,e4,a5⟩:=ap.A bb;have a1:Js 4 kv (.d .i64 0)=some (.g q qo, .a):=a1;have ag:TyC P o E x:=by grind
      have ah:z.headD QD=x:=by grind
      rw[ah]at Y;have oq:=fun k=>nes (Jt Z f a3 k);have bc:=ag.J;have aq:Jw [.d .i64 0,ofL [], .e, .e] 0 E=E:=YO (by grind);obtain⟨tk,ck⟩:=hL.a;obtain⟨em,ab,bu,_⟩:=hL.b;obtain⟨tm,ab⟩:=ab;have ae:((em.map fun p=>(p.1,V.j p.2)).map fun p=>(ofL p.1,p.2)).length=l.length:=by grind
      have ar:∀S:St,S.A y=o.A y->JlT S (.q y)=some (.g S.b 0, .b fun t=> .d t (some y) l.length 0):=fun S hS=>by rw[Jq9 (hS.trans ab),ae]
      simp[XM,f,l2,aa,a9 c1,a1,oq,a4,e4,bc,aq,a7,ck,Jq8,Jti,ar,a8];obtain⟨L,ad⟩:=loE fun j fr S=>∃(i t1 t2:Nat) (c:List V),j+i=l.length/\Gr o S/\fr 0= .g kr 0/\fr 3= .g (up 0 n) 0/\fr 5= .g (up 1 n) 0/\fr 23= .g (up 2 n) 0/\S.A (up 0 n)= .a o.t [.d .i64 k,ofL X,nv,kv]/\S.A (up 1 n)= .a t1 c/\TyC (fun r=>P r/\o.A r≠ .none) S c (KL l i x)/\S.A (up 2 n)= .d t2 (some y) l.length i;have gS:Gr o ((((o.B fun t=> .a t [.d .i64 k,ofL X,nv,kv]).B fun t=> .a t [.d .i64 0,ofL [], .e, .e]).D (up 1 n) (o.B fun t=> .a t [.d .i64 k,ofL X,nv,kv]).t fun u=> .a u E).B fun t=> .d t (some y) l.length 0):=(g0.M (by simp[kj,f,ki]) (Jc _) (Jc _)).L fun u=>⟨rfl,fun e=>by cases e⟩
      refine JD L l.length hl ((ad _ _ _).2 ⟨0,_,_,E,by omega,gS,rfl,rfl,rfl,rfl,by simp[XZ,f],by simp[XZ,f];rfl,(ag.A fun r p e=>⟨⟨p,e⟩,rfl⟩:TyC (fun r=>P r/\o.A r≠ .none) o E x).H gS,by simp[XZ,f];rfl⟩) ?_;intro j fr S bd;obtain⟨i,t1,t2,c,hj,U,f0,f3,f5,N,r0,r1,hc,r2⟩:=(ad _ _ _).1 bd;have au:S.A y= .b tm ((em.map fun p=>(p.1,V.j p.2)).map fun p=>(ofL p.1,p.2)):=(U.d y hL.A).trans ab;have be:=U.B ck;have c4:=hc.G;obtain⟨T,hT⟩:∃T,T=KL l i x:=⟨_,rfl⟩
      rw[<-hT]at hc;have w:=ji l i x;rw[<-hT]at w;obtain⟨Q,n',bf,bg⟩:=T;have w:KL l (i+1) x=if Q=9 then(defN l n').getD QD else .mk Q n' bf bg:=w;obtain⟨ai,aj,bv,rfl,y1,y2,y3,y4⟩:=hc.D;have av:=nx0 Z f;have br:=JmD 2 1 n;by_cases hi:i<l.length
      ·have O:=Jk9 (st:=S) (q:=up 2 n) (r:=y) (n:=i) (t:=t2) (es:=((em.map fun p=>(p.1,V.j p.2)).map fun p=>(ofL p.1,p.2))) (by grind) au (by omega);rw[ae]at O;have g2:Gr o (S.D (up 2 n) t2 fun u=> .d u (some y) l.length (i+1)):=U.J (av 2) (by grind) (by rw[r2];rfl) fun u=>⟨rfl,fun e=>by cases e⟩
       have bh:=nes (Jt Z f hL.A 2);have bi:=nes (Jt Z f hL.B 2);by_cases k9:Q=9
       ·have ak:(Q=9)=True:=Zn k9;obtain⟨zv,hz,aw⟩:=hL.b.B (.j [.d .i64 0,ofL [], .e, .e]) n';have bj:∃c',zv= .j c'/\TyC P o c' ((defN l n').getD QD):=by
         cases hd:defN l n' with
         |none=>rw[hd]at aw;exact⟨_,aw,Jpe P o⟩
         |some t=>grind
        obtain⟨c',rfl,al⟩:=bj;have bk:∀S':St,S'.A y=S.A y->Q9 S' (.a .s) (.j [.d .i64 0,ofL [], .e, .e]) false (.q y) (ofL n')=some (.j c', .a):=fun S' bw=>by grind
        have bl:=al.G;have ax:=al.J;have bm:Jw [.d .i64 Q,ofL n',ai,aj] 0 c'=c':=YO (by omega);simp[XM,f0,f5,N,Jcr,Jel,O,r1,ak,be,bk,bh,bi,bl,ax,bm];have ay:(S.D (up 2 n) t2 fun u=> .d u (some y) l.length (i+1)).A (up 1 n)= .a t1 [.d .i64 Q,ofL n',ai,aj]:=by rw[JQ,Xa (by grind)];exact r1
        have g3:Gr o ((S.D (up 2 n) t2 fun u=> .d u (some y) l.length (i+1)).D (up 1 n) t1 fun u=> .a u c'):=g2.J (av 1) (Jb ay) (by rw[ay];rfl) (Jc _);refine⟨l.length-(i+1),by omega,(ad _ _ _).2 ⟨i+1,_,_,c',by omega,g3,f0,f3,f5,N,by simp[XZ];exact r0,by simp[XZ]<;>rfl, ?_,by simp[XZ]<;>rfl⟩⟩;rw[w,Xe k9];exact(al.A fun r p e=>⟨⟨p,e⟩,rfl⟩:TyC (fun r=>P r/\o.A r≠ .none) o c' _).H g3
       ·have ak:(Q=9)=False:=Zi k9;simp[XZ,f5,N,Jcr,Jel,O,r1,ak];refine⟨l.length-(i+1),by omega,(ad _ _ _).2 ⟨i+1,t1,_,[.d .i64 Q,ofL n',ai,aj],by omega,g2,f0,f3,f5,N,by simp[XZ];exact r0,by simp[XZ];exact r1, ?_,by simp[XZ]<;>rfl⟩⟩;rw[w,Xa k9];exact hc.A fun r p e=>⟨p,Jj _ _ _ (Jt Z f p.2 2)⟩
      ·have bn:i=l.length:=by omega
       have O:=Jla (st:=S) (q:=up 2 n) (r:=y) (n:=i) (t:=t2) (es:=((em.map fun p=>(p.1,V.j p.2)).map fun p=>(ofL p.1,p.2))) (by grind) au (by omega);rw[<-bn,<-hT]at Y;have Y:B=decide (Q=6):=Y;by_cases az:Q=6
       ·have W:(Q=6)=True:=Zn az;simp[XZ,f5,N,Jcr,Jel,O,r1,W];refine am _ _ (fun r e=>U.d r e) fun _=> ?_
        grind
       ·have W:(Q=6)=False:=Zi az;simp[XZ,f5,N,Jcr,Jel,O,r1,W];exact(hI _ _).2 ⟨U,f0,f3,r0,by grind⟩
     ·rw[Xa (fun h=>c1 h.2)]at Y;simp[XZ,f,l2,aa,ba c1];exact(hI _ _).2 ⟨g0,rfl,rfl,r0,Y⟩
    ·have aa:(k=6)=False:=Zi k6;rw[Xa (fun h=>k6 h.1)]at Y;simp[XZ,f,aa];exact(hI _ _).2 ⟨g0,rfl,rfl,r0,Y⟩
   ·intro fr S bo;obtain⟨U,f0,f3,r0,bp⟩:=(hI _ _).1 bo;simp[XZ,f0,f3,r0];refine Je (YX (fa:=[.g kr 0]) (fb:=[]) (Jbp l) U.D (ap.G (fun e x h=>h.H U) U.H) ao fun i hi S' E' g' bq=> ?_) ?_
    ·have h1:=jF hi;have h2:=Yy k X ns z;exact JsP m z[i] (by have:=Yv (k:=k) (n:=X) (ns:=ns) hi;omega) P S' kr y l af E' g'.D (hL.D (U.A g')) bq hl (by omega)
    ·rintro _ S2 ⟨g2,rfl⟩;simp[XZ];refine am _ _ (fun r e=>(U.A g2).d r e) fun _=> ?_;rw[hS,bp,qT];rfl
theorem JtI {Q:Pt->Prop}(hw:WF v)(h:SchC P v n z)(al:z.a.length<=1000)(h0:z.c=[])(hQ:∀r,P r->Q r)(hN:∀r,v.A r= .none->Q r):
  Dz 72 [.j n] v fun v' aa=>Gr v aa/\LstAt (TyC Q aa) Q aa v' 4 (Qn z):=by
 refine Jn tabM (aT Tryz.func72 rfl) rfl hw fun K ag=> ?_;obtain⟨f,ah⟩:=nxE v;obtain⟨c,tv,sv,rfl,h1,h2,h3⟩:=h;obtain⟨M,hM⟩:∃M,M=z.b:=⟨_,rfl⟩
 obtain⟨l,hl⟩:∃l,l=z.a:=⟨_,rfl⟩
 obtain⟨X,ai⟩:∃l,l=z.c:=⟨_,rfl⟩
 have am:Qn z=l.map Prod.snd++[M]++qj X:=by rw[hM,hl,ai];rfl
 rw[am]at ag;rw[<-hM]at h1;rw[<-hl]at h2 al;rw[<-ai]at h3 h0;obtain⟨nv,kv,es,rfl,x1,x2,x3,x4⟩:=h1.B;have ao:TyC P v [.d .i64 M.A,ofL M.B,nv,kv] M:=h1;have l1:=h2.H;have l2:=h3.H;simp only[CT,Tryz.f72,XY,simprocAttr];rw[Ja];simp[XY,ah,x1.B,x2.B,h2.B.1,h3.B.1];obtain⟨p,O⟩:=exE (v.B fun t=> .a t [.d .i64 M.A,ofL M.B,nv,kv,tv,sv]);have Y:Gr v p:=by rw[O];exact Gr.G hw (Jc _)
 obtain⟨t0,r0⟩:∃t,p.A (up 0 f)= .a t [.d .i64 M.A,ofL M.B,nv,kv,tv,sv]:=⟨_,by rw[O];simp[XZ,ah];rfl⟩
 rw[<-O];clear O;have ap:TyC P p [.d .i64 M.A,ofL M.B,nv,kv] M:=ao.H Y;have h2:LstAt (NmC P p) P p tv 5 l:=h2.G (fun n x h=>h.A Y.H) Y.H;have h3:LstAt (SgC P p) P p sv 6 X:=h3.G (fun n x h=>h.A Y.H) Y.H;have hN:∀r,p.A r= .none->Q r:=fun r h=>hN r (Y.I h);have c1:=x1.A;have c2:=x1.B;have c3:=x2.A;have c4:=x2.B;rw[Ja];simp[XY];refine Ju (fun o S=>(∃m,o 1= .g (up 0 f) 0/\o 3=m/\Gr p S/\TysF P p S m (l.map Prod.snd))) (fun J hJ=> ?_) ?_
 ·rw[Ja];simp[XY,r0,l1];refine Jo (fun j o S=>∃(i:Nat) (m:V),j+i=l.length/\o 1= .g (up 0 f) 0/\o 3=m/\o 9=tv/\o 10= .d .i64 l.length/\o 11= .d .i64 i/\Gr p S/\TysF P p S m ((l.take i).map Prod.snd)) l.length (by omega) ⟨0, .e,by omega,rfl,rfl,rfl,rfl,by rfl,Gr.F Y.D,TysF.F _ _ _⟩ ?_;rintro I hI j o S ⟨i,m,hj,f1,Z,f9,ab,U,y,L⟩;by_cases hi:i<l.length
  ·obtain⟨r,q,n,a1,a2,a3,a4,⟨c,he,hc⟩,a6,a7⟩:=h2.A hi;have aj:=hc;obtain⟨ad,ae,ay,rfl,y1,y2,y3,y4⟩:=hc.B;subst he;rw[<-y.d r a3]at a4;have d1:=y1.A;have d2:=y1.B;have d3:=y2.A;have d4:=y2.B;have wS:=y.D;obtain⟨nS,w⟩:=nxE S;have aq:S.A r≠ .none:=by rw[y.d r a3];exact a3
   have oq:=fun k=>nes (Jt wS w aq k);have af:=wiN (i:=i) (by omega);have ak:(l.take (i+1)).map Prod.snd=(l.take i).map Prod.snd++[l[i].2]:=by rw[Xn hi,ZA];rfl
   obtain⟨N,ar⟩:∃N,N=l[i].1:=⟨_,rfl⟩
   obtain⟨T,hT⟩:∃T,T=l[i].2:=⟨_,rfl⟩
   rw[<-hT]at aj ak;rw[<-ar,<-hT]at a4;rw[Ja];simp[XY,ab,U,hi];rw[Jd];simp[XY];rw[Jd];simp[XY];rw[Ja];simp[XY,f9,U,a1,a4,w,d2,d4];obtain⟨S1,W⟩:=exE ((S.B fun t=> .a t [ofL [], .d .i64 0,ofL [], .e, .e]).D (up 0 nS) S.t fun u=> .a u [ofL N, .d .i64 T.A,ofL T.B,ad,ae]);have g1:Gr S S1:=by rw[W];exact(Gr.F wS).M w (Jc _) (Jc _)
   obtain⟨t1,r1⟩:∃t,S1.A (up 0 nS)= .a t [ofL N, .d .i64 T.A,ofL T.B,ad,ae]:=⟨_,by rw[W];simp[XZ];rfl⟩
   rw[<-W];have w1:=g1.D;have au:S1.b=up 1 nS:=by rw[W];simp[XZ,w]
   simp[Z];have gn:Gr S1 (S1.B fun t=> .a t [.d .i64 T.A,ofL T.B,ad,ae]):=Gr.G w1 (Jc _);refine Jeo (ts':=[T]) ((y.A g1).A gn) ((L.A g1).A gn) (Jh9 au aj.G) rfl (fun i a b=>by
    grind) (by simp) (by grind) ?_
   intro S2 v2 g2 h5 rv kp;rw[<-ak]at h5;simp[XZ,U,af];exact⟨l.length-(i+1),by omega,hI _ _ _ ⟨i+1,v2,by omega,f1,rfl,f9,ab,rfl,g2,h5⟩⟩
  ·simp[XZ,ab,U,hi];rw[Xt (by omega)]at L;exact hJ _ _ ⟨m,f1,Z,y,L⟩
 rintro o S ⟨m,f1,Z,y,L⟩;have r1:=y.B r0;have wS:=y.D;obtain⟨nS,w⟩:=nxE S;rw[Ja];simp[XY,f1,Z,r1,w,c2,c4];have gn:Gr S (S.B fun t=> .a t [.d .i64 M.A,ofL M.B,nv,kv]):=Gr.G wS (Jc _);refine Jeo (ts':=[M]) (y.A gn) (L.A gn) (Jh9 w ap.G) rfl (fun i a b=>by
  grind) (by simp) (by grind) ?_
 intro S2 v2 g2 h5 _ _;have r2:=g2.B r0;simp[XY];refine Ju (fun o S=>(∃m,o 3=m/\Gr p S/\TysF P p S m (l.map Prod.snd++[M]++qj X))) (fun J2 av=> ?_) ?_
 ·rw[Ja];simp[XY,f1,r2,l2];refine Jo (fun j o S=>∃(i:Nat) (m:V),j+i=X.length/\o 3=m/\o 27=sv/\o 28= .d .i64 X.length/\o 29= .d .i64 i/\Gr p S/\TysF P p S m (l.map Prod.snd++[M]++qj (X.take i))) X.length (by grind) ⟨0,v2,by omega,rfl,rfl,rfl,by rfl,g2,by rw[GO];unfold qj;grind⟩ ?_;rintro I hI j o S ⟨i,m,hj,Z,az,aw,ax,y,L⟩;by_cases hi:i<X.length
  ·rw[h0]at hi;cases hi
  ·simp[XZ,aw,ax,hi];rw[Xt (by omega)]at L;exact av _ _ ⟨m,Z,y,L⟩
 rintro o S ⟨m,Z,y,L⟩;simp[XZ,Z];exact ag _ _ (fun r n=>(Y.A y).d r n) fun _=>L.D y hQ hN
theorem Jkx {p:Option Str}{n:Str}{r:List Str}(a:Yb n=false)(b:Kx p n=false):Ka p (n::r)=Ka (some n) r:=by
 rw[Ka,Xa (by grind),Xa (by grind)]
theorem JtJ (hw:WF v)(h:LstAt (NmC P v) P v q 5 e)(y:e.length<=1000):Dz 66 [q] v fun v' z=>Gr v z/\v'= .d .i64 (Ka none (e.map Prod.fst)):=by
 refine Jn tabM (aT Tryz.func66 rfl) rfl hw fun K o=> ?_;have l1:=h.H;simp only[CT,Tryz.f66,XY,simprocAttr];rw[Ja];simp[XY];rw[Jd,Ja];simp[XY,l1];refine Jo (fun j U S=>∃(i:Nat) (p:Option Str),j+i=e.length/\U 0=q/\U 5=q/\U 6= .d .i64 e.length/\U 7= .d .i64 i/\Gr v S/\Ka none (e.map Prod.fst)=Ka p ((e.map Prod.fst).drop i)/\(p=if i=0 then none else(e.map Prod.fst)[i-1]?)) e.length (by omega) ⟨0,none,by omega,rfl,rfl,rfl,by rfl,Gr.F hw,rfl,rfl⟩ ?_;rintro I hI j U S ⟨i,p,hj,f0,f5,f6,W,X,g,hp⟩;by_cases hi:i<e.length
 ·have hS:LstAt (NmC P S) P S q 5 e:=h.G (fun b x h=>h.A X.H) X.H;obtain⟨r,f,b,a1,a2,a3,a4,⟨c,he,hc⟩,a6,a7⟩:=hS.A hi;obtain⟨nv,kv,es,rfl,x1,x2,x3,x4⟩:=hc.B;subst he;have d1:=x1.A;have d2:=x1.B;have d3:=x2.A;have d4:=x2.B;have wS:=X.D;obtain⟨nS,J⟩:=nxE S;have oq:=fun k=>nes (Jt wS J a3 k);obtain⟨N,hN⟩:∃N,N=e[i].1:=⟨_,rfl⟩
  obtain⟨T,hT⟩:∃T,T=e[i].2:=⟨_,rfl⟩
  rw[<-hN,<-hT]at a4;have hd:(e.map Prod.fst).drop i=N::(e.map Prod.fst).drop (i+1):=by
   rw[Xc (by grind),X6,<-hN]
  rw[hd]at g;have n:=wiN (i:=i) (by omega);rw[Ja];simp[XY,f6,W,hi];rw[Jd];simp[XY];rw[Jd];simp[XY];rw[Ja];simp[XY,f5,W,a1,a4,J,d2,d4];obtain⟨S1,L⟩:=exE ((S.B fun t=> .a t [ofL [], .d .i64 0,ofL [], .e, .e]).D (up 0 nS) S.t fun u=> .a u [ofL N, .d .i64 T.A,ofL T.B,nv,kv]);have g1:Gr S S1:=by rw[L];exact(Gr.F wS).M J (Jc _) (Jc _)
  obtain⟨t1,r1⟩:∃t,S1.A (up 0 nS)= .a t [ofL N, .d .i64 T.A,ofL T.B,nv,kv]:=⟨_,by rw[L];simp[XZ];rfl⟩
  rw[<-L];rw[Ja];simp[XY,r1];refine Je (Jlv N _ g1.D) ?_;rintro _ Y ⟨g2,rfl⟩;have O:=(X.A g1).A g2;have r2:=g2.B r1;have af:∀S3,Gr v S3->S3.A (up 0 nS)= .a t1 [ofL N, .d .i64 T.A,ofL T.B,nv,kv]->True:=fun _ _ _=>trivial;have Z:Yb N=true->Ka none (e.map Prod.fst)=15:=fun hb=>by rw[g,Ka,Xe hb]
  cases hid:Ko N with
  | false=>
    simp[XZ];refine o _ _ (fun r b=>O.d r b) fun _=> ?_;rw[Z (by unfold Yb;grind)]
  | true=>
    have ag:=Jfk hid;simp[XY,r2];refine⟨by omega,by omega, ?_⟩;refine Je (Jc9 (Q:=fun q z=>q= .h (Lib.contains words (32::(N++[32])))/\Y=z) (aH (k:=109) rfl) (JdS words (32::(N++[32])) (by decide)) ⟨rfl,rfl⟩) ?_;rintro _ _ ⟨rfl,rfl⟩
    cases ah:Lib.contains words (32::(N++[32]))with
    | true=>
      simp[XZ];refine o _ _ (fun r b=>O.d r b) fun _=> ?_;rw[Z (by unfold Yb;grind)]
    | false=>
      have ab:Yb N=false:=by unfold Yb;grind
      have next:∀{m:Fr},Kx p N=false->m 0=q->m 5=q->m 6= .d .i64 e.length->m 7= .d .i64 ((i+1:Nat):Int)->∃j',j'<j/\I j' m Y:=fun{m} y e0 e5 e6 e7=>
       ⟨e.length-(i+1),by omega,hI _ _ _ ⟨i+1,some N,by omega,e0,e5,e6,e7,O,by rw[g,Jkx ab y],by grind⟩⟩
      by_cases h0:i=0
      ·have s:¬(0:Int)<(i:Int):=by omega
       simp only[XZ,simprocAttr,W,s,n];refine next (by rw[hp,Xe h0];rfl) ?_ ?_ ?_ ?_<;>simp only[XZ,simprocAttr,f0,f5,f6]
      ·have s:(0:Int)<(i:Int):=by omega
       have w:IntKind.i64.wrap ((i:Int)-1)=((i-1:Nat):Int):=by rw[JX (by omega) (by omega)];omega
       have ad:LstAt (NmC P Y) P Y q 5 e:=h.G (fun b x h=>h.A O.H) O.H;have ae:i-1<e.length:=by omega
       obtain⟨r',q',e',b1,b2,b3,b4,⟨c',hb,ai⟩,b6,b7⟩:=ad.A ae;subst hb;have b8:=b7 0 (by simp);have b8:ld1 (Y.A r') q'=some (ofL e[i-1].1, .a):=b8;have aa:p=some e[i-1].1:=by grind
       cases y:Op.bytesLess e[i-1].1 N with
       | false=>
         simp only[XZ,simprocAttr,f0,s,r2,w,b1,b8,y];refine o _ _ (fun r b=>O.d r b) fun _=> ?_;rw[g,Ka,Xa (by grind),Xe (by rw[aa,Kx,y];rfl)]
       | true=>
         simp only[XZ,simprocAttr,f0,W,s,r2,w,b1,b8,y,n];refine next (by rw[aa,Kx,y];rfl) ?_ ?_ ?_ ?_<;>simp only[XZ,simprocAttr,f0,f5,f6]
 ·simp[XZ,f6,W,hi];refine o _ _ (fun r b=>X.d r b) fun _=> ?_;rw[g,Xm (by grind),Ka]
theorem Juv {f:List Sg}(m:WF v)(hL:KE s v k i e t)(h:LstAt (SgC s v) s v q 6 f)(n:f=[]):
  Dz 69 [.g k 0,q] v fun o c=>Ch (fun r=>r=k) v c/\KE s c k i e (Qv (hasN e) none f t).2/\o= .d .i64 (Qv (hasN e) none f t).1:=by
 refine Jfj tabM (aT Tryz.func69 rfl) rfl m fun K j=> ?_;have p:=h.H;subst n;simp only[CT,Tryz.f69,XY,simprocAttr];rw[Ja];simp[XY];rw[Jd,Ja];simp[XY,p];refine Jct (by decide) ?_;simp[XZ];exact j _ _ (fun r a b=>rfl) fun _=>⟨hL,rfl⟩
theorem Jne {α:Type}[DecidableEq α]{k:α}{v:V}:∀{b:List (α×V)},(∀p∈b,k≠p.1)->Y4 k v b=b++[(k,v)]
 |[],_=>rfl
 | (a,w)::r,h=>by
   rw[Y4,Xa (h (a,w) (by simp)),Jne fun p c=>h p (Xi _ c)];rfl
theorem Jqo (hw:WF v)(h:SchC P v n z)(hl:z.a.length<=1000)(hd:(z.a.map Prod.fst).Nodup):Dz 67 [.j n] v fun v' aa=>Gr v aa/\∃r,v'= .q r/\v.A r= .none/\JdT P aa r z.a:=by
 refine Jn tabM (aT Tryz.func67 rfl) rfl hw fun K ab=> ?_;obtain⟨f,g⟩:=nxE v;obtain⟨c,tv,sv,rfl,h1,h2,h3⟩:=h;obtain⟨l,ad⟩:∃l,l=z.a:=⟨_,rfl⟩
 rw[<-ad]at h2 hl hd;simp[<-ad]at ab;obtain⟨M,hM⟩:∃M,M=z.b:=⟨_,rfl⟩
 rw[<-hM]at h1;obtain⟨k,nm,ns,ks⟩:=M;obtain⟨nv,kv,es,rfl,x1,x2,x3,x4⟩:=h1.D;have l1:=h2.H;simp only[CT,Tryz.f67,XY,simprocAttr];rw[Ja];simp[XY,g,x1.B,x2.B,h2.B.1,h3.B.1];rw[Ja];simp[XY,g];obtain⟨S0,m⟩:=exE ((v.B fun t=> .a t [.d .i64 k,ofL nm,nv,kv,tv,sv]).B fun t=> .b t []);have g0:Gr v S0:=by rw[m];exact(Gr.G hw (Jc _)).L (Qb _)
 obtain⟨t0,r0⟩:∃t,S0.A (up 0 f)= .a t [.d .i64 k,ofL nm,nv,kv,tv,sv]:=⟨_,by rw[m];simp[XZ,g];rfl⟩
 obtain⟨tm,m0⟩:∃t,S0.A (up 1 f)= .b t []:=⟨_,by rw[m];simp[XZ,g];rfl⟩
 obtain⟨Q,U⟩:=exE (up 1 f);have q0:v.A Q= .none:=by rw[U];exact nx0 hw g 1
 rw[<-m,<-U];rw[<-U]at m0;clear m;rw[Jd,Ja];simp[XY,r0,l1];refine Jo (fun j fr S=>∃(i:Nat) (o:List (Str×List V)),j+i=l.length/\fr 3= .q Q/\fr 8=tv/\fr 9= .d .i64 l.length/\fr 10= .d .i64 i/\Gr v S/\(∃t,S.A Q= .b t (o.map fun p=>(ofL p.1,V.j p.2)))/\o.length=i/\∀j (h:j<o.length) (h':j<l.length),o[j].1=l[j].1/\TyC P v o[j].2 l[j].2) l.length (by omega) ⟨0,[],by omega,rfl,rfl,rfl,by rfl,g0,⟨tm,m0⟩,rfl,fun j h=>absurd h (by simp)⟩ ?_;rintro I hI j fr S ⟨i,o,hj,f3,f8,f9,w,Z,⟨t,hm⟩,ao,W⟩;by_cases hi:i<l.length
 ·obtain⟨r,q,n,a1,a2,a3,a4,⟨c,he,hc⟩,a6,a7⟩:=h2.A hi;have ah:=hc;obtain⟨x,y,ap,rfl,y1,y2,y3,y4⟩:=hc.B;subst he;rw[<-Z.d r a3]at a4;have d1:=y1.A;have d2:=y1.B;have d3:=y2.A;have d4:=y2.B;have wS:=Z.D;obtain⟨nS,O⟩:=nxE S;have ai:S.A r≠ .none:=by rw[Z.d r a3];exact a3
  have oq:=fun k=>nes (Jt wS O ai k);have ae:S.A Q≠ .none:=by grind
  have om:=fun k=>nes (Jt wS O ae k);obtain⟨N,hN⟩:∃N,N=l[i].1:=⟨_,rfl⟩
  obtain⟨T,hT⟩:∃T,T=l[i].2:=⟨_,rfl⟩
  rw[<-hT]at ah;rw[<-hN,<-hT]at a4;have X:=wiN (i:=i) (by omega);rw[Ja];simp[XY,f9,w,hi];rw[Jd];simp[XY];rw[Jd];simp[XY];rw[Ja];simp[XY,f8,w,a1,a4,O,d2,d4];obtain⟨S1,Y⟩:=exE ((S.B fun t=> .a t [ofL [], .d .i64 0,ofL [], .e, .e]).D (up 0 nS) S.t fun u=> .a u [ofL N, .d .i64 T.A,ofL T.B,x,y]);have g1:Gr S S1:=by rw[Y];exact(Gr.F wS).M O (Jc _) (Jc _)
  obtain⟨t1,r1⟩:∃t,S1.A (up 0 nS)= .a t [ofL N, .d .i64 T.A,ofL T.B,x,y]:=⟨_,by rw[Y];simp[XZ];rfl⟩
  have m1:S1.A Q= .b t (o.map fun p=>(ofL p.1,V.j p.2)):=by rw[g1.d Q ae,hm]
  rw[<-Y];have af:∀p∈o.map (fun p=>(p.1,V.j p.2)),N≠p.1:=fun p hp n=>by
   obtain⟨p0,aj,rfl⟩:=Xz.1 hp;obtain⟨j,ak,rfl⟩:=XU.1 aj;have al:j<l.length:=by omega
   have e1:=(W j ak al).1;have e2:(l.map Prod.fst)[j]'(by grind)=(l.map Prod.fst)[i]'(by grind):=by grind
   exact GR.1 hd j i (by grind) (by grind) (by omega) e2
  have am:S1.A Q= .b t ((o.map fun p=>(p.1,V.j p.2)).map fun p=>(ofL p.1,p.2)):=by simp_all
  have ag:=jD (enc:=ofL) (e:= .a .s) am N (.j [.d .i64 T.A,ofL T.B,x,y]) (YV N _) rfl;rw[Jne af]at ag;simp[XZ,f3,ag,X,w];refine⟨l.length-(i+1),by omega,hI _ _ _ ⟨i+1,o++[(N,[.d .i64 T.A,ofL T.B,x,y])],by omega,f3,f8,f9,rfl, ?_, ?_,by grind,fun j h h'=> ?_⟩⟩
  ·exact(Z.A g1).J q0 (by grind) (by rw[m1];rfl) (Qb _)
  ·exact⟨_,by rw[Jh];simp;rfl⟩
  grind
 ·simp[XZ,f3,f9,w,hi];refine ab _ _ (fun r n=>Z.d r n) fun G=>⟨Q,rfl,q0,o,⟨t,by simp_all⟩,by omega,fun j h h'=>⟨(W j h h').1,(W j h h').2.H Z⟩⟩
theorem Jqp (b:Str->Bool)(k:Int)(n:Str)(d:List Str)(c:List Ty)(a:Nat):Qc b (.mk k n d c) a=if 12<a then false else if k=9 then b n else if k=8 then kN b c (a+1)else if k=7 then kO b c (a+1)else true:=by rfl
theorem Jeb (b:Str->Bool)(a:Nat):∀ks:List Ty,kN b ks a=ks.any fun t=>Qc b t a
 |[]=>by rfl
 |t::r=>by rw[kN,Jeb b a r];rfl
theorem Jec (b:Str->Bool)(a:Nat):∀ks:List Ty,kO b ks a= !(ks.any fun t=> !Qc b t a)
 |[]=>by rfl
 |t::r=>by rw[kO,Jec b a r];simp
def hasE (has:List (Str×Bool)):List (Str×V):=has.map fun p=>(p.1,V.h p.2)
theorem Jly (n:Str):∀c:List (Str×Bool),ansL (.h false) false (at_ n (hasE c))= .h (gB n c)
 |[]=>rfl
 | (a,b)::r=>by
   have d:=Jly n r;unfold hasE at d⊢;rw[XK,at_,gB];by_cases e:n=a
   ·rw[Xe e,Xe e];rfl
   grind
theorem Jqq :∀(m:Nat) (ty:Ty),tsz ty<m->∀(P:Pt->Prop) (Q:St) (w:Pt) (l:List (Str×Bool)) (e:List V) (c:Nat),WF Q->Y5 Q w ofL (hasE l)->TyC P Q e ty->c<=13->cntT ty<1000000->
  Dz 114 [.j e, .q w, .d .i64 c] Q fun v aj=>Gr Q aj/\v= .h (Qc (fun x=>gB x l) ty c)
 |0,_,h=>absurd h (by omega)
 | m+1, .mk k nm ns T,hm=>by
   intro P Q w l e c hw f hx ak al;refine Jn tabM (aT Tryz.func114 rfl) rfl hw fun K o=> ?_;obtain⟨n,W⟩:=nxE Q;obtain⟨nv,kv,es,rfl,x1,x2,x3,x4⟩:=hx.D;have N:=Jqp (fun x=>gB x l) k nm ns T c;have X:T.length<1000000:=by have h1:=Jcs T;rw[Yy]at al;omega
   have am:LstAt (TyC P Q) P Q kv 4 T:=⟨es,x2,x3,x4⟩
   have c1:=x1.A;have c2:=x1.B;have c3:=x2.A;have c4:=x2.B;obtain⟨I,hI⟩:=opE fun fr S=>(Gr Q S/\fr 3= .g (up 0 n) 0/\fr 4= .g (up 1 n) 0/\fr 5= .g (up 2 n) 0/\(∃t,S.A (up 0 n)= .a t [.d .i64 k,ofL nm,nv,kv])/\(∃t,S.A (up 1 n)= .a t [.q w])/\(∃t,S.A (up 2 n)= .a t [.d .i64 c]))
   simp only[CT,Tryz.f114,XY,simprocAttr];refine YU I ?_ ?_
   ·simp[XZ,W,c2,c4];exact(hI _ _).2 ⟨((Gr.G hw (Jc _)).L (Jc _)).L (Jc _),rfl,rfl,rfl,⟨_,by simp[XZ,W];rfl⟩,⟨_,by simp[XZ,W];rfl⟩,⟨_,by simp[XZ,W];rfl⟩⟩
   intro fr S ao;obtain⟨hg,f3,f4,f5,⟨t0,r0⟩,⟨t1,r1⟩,⟨t2,r2⟩⟩:=(hI _ _).1 ao;by_cases hd:12<c
   ·have Y:(12:Int)<(c:Int):=by omega
    rw[Jd,Ja];simp[XZ,f5,r2,Y];refine o _ _ (fun r e=>hg.d r e) fun _=> ?_
    grind
   have Y:¬(12:Int)<(c:Int):=by omega
   rw[Xa hd]at N;rw[Jd,Ja];simp[XY,f5,r2,Y];have wS:=hg.D;obtain⟨nS,ae⟩:=nxE S;rw[Ja];simp[XY,f4,f5,ae];obtain⟨S1,Z⟩:=exE ((S.B fun t=> .a t [.x]).D (up 0 nS) S.t fun u=> .a u [.D 147 [] [.g (up 1 n) 0, .g (up 2 n) 0]]);have g1:Gr S S1:=by rw[Z];exact(Gr.F wS).M ae (Jc _) (Jc _)
   obtain⟨t3,r3⟩:∃t,S1.A (up 0 nS)= .a t [.D 147 [] [.g (up 1 n) 0, .g (up 2 n) 0]]:=⟨_,by rw[Z];simp[XZ];rfl⟩
   rw[<-Z];have y:=hg.A g1;have r0:=g1.B r0;have r1:=g1.B r1;have r2:=g1.B r2;have af:LstAt (TyC P S1) P S1 kv 4 T:=am.G (fun e x h=>h.H y) y.H;have ag:∀(i:Nat) (hi:i<T.length) (z:St) (e:List V),Gr S1 z->TyC P z e T[i]->Dz 147 ([]++[.j e]++[.g (up 1 n) 0, .g (up 2 n) 0]) z fun v ap=>Gr z ap/\v= .h (Qc (fun x=>gB x l) T[i] (c+1)):=fun i hi z e U p=>by
    have h1:=jF hi;have h2:=Yy k nm ns T;have w':=U.D;obtain⟨n',aa⟩:∃n,z.b=up 0 n:=⟨_,up0 _⟩
    have e4:=p.G;have ab:=p.J;have ad:e.take 4=e:=by grind
    refine Jn tabM (aT Tryz.func147 rfl) rfl w' fun K o=> ?_;have ah:=wiN (i:=c) (by omega);have b1:=U.B r1;have b2:=U.B r2;have O:Gr z (z.B fun t=> .a t e):=Gr.G w' (Jc _);have b1:=O.B b1;have b2:=O.B b2;simp only[CT,Tryz.f147,XZ,simprocAttr,aa,e4,ab,ad,b1,b2,ah];refine Je (Jqq m T[i] (by have:=Yv (k:=k) (n:=nm) (ns:=ns) hi;omega) P _ w l e (c+1) O.D ?_ (p.H O) (by omega) (by omega)) ?_
    ·exact f.B (by rw[O.d w (by rw[U.d w (by rw[y.d w f.A];exact f.A),y.d w f.A];exact f.A),U.d w (by rw[y.d w f.A];exact f.A),y.d w f.A])
    rintro _ S2 ⟨g2,rfl⟩;simp[XZ];exact o _ _ (fun r e=>(O.A g2).d r e) fun _=>rfl
   by_cases k9:k=9
   ·have aq:Y5 S1 w ofL (hasE l):=f.B (y.d w f.A);have ai:=K0 (enc:=ofL) (e:= .a .s) aq (.h false) false nm (YV nm _) rfl;rw[Jly]at ai;rw[Xe k9]at N;simp[XZ,f3,f4,r0,r1,k9,ai];refine o _ _ (fun r e=>y.d r e) fun _=> ?_;rw[N]
   rw[Xa k9]at N;by_cases k8:k=8
   ·rw[Xe k8,Jeb]at N;simp[XZ,f3,r0,r3,k8];refine Je (YX (fa:=[]) (fb:=[.g (up 1 n) 0, .g (up 2 n) 0]) (fun t=>Qc (fun x=>gB x l) t (c+1)) y.D af X ag) ?_;rintro _ S2 ⟨g2,rfl⟩;simp[XZ];refine o _ _ (fun r e=>(y.A g2).d r e) fun _=> ?_;rw[N]
   rw[Xa k8]at N;by_cases k7:k=7
   ·rw[Xe k7,Jec]at N;simp[XZ,f3,r0,k7];refine Je (YX (fa:=[]) (fb:=[.g (up 0 nS) 0]) (fun t=> !Qc (fun x=>gB x l) t (c+1)) y.D af X fun i hi z e U p=> ?_) ?_
    ·refine Jn tabM (aT Tryz.func148 rfl) rfl U.D fun K o=> ?_;obtain⟨n',aa⟩:∃n,z.b=up 0 n:=⟨_,up0 _⟩
     have e4:=p.G;have ab:=p.J;have ad:e.take 4=e:=by grind
     have O:Gr z (z.B fun t=> .a t e):=Gr.G U.D (Jc _);have b3:=O.B (U.B r3);simp only[CT,Tryz.f148,XZ,simprocAttr,aa,e4,ab,ad,b3];refine Je (by simpa using ag i hi _ e (U.A O) (p.H O)) ?_;rintro _ S2 ⟨g2,rfl⟩;simp[XZ];exact o _ _ (fun r e=>(O.A g2).d r e) fun _=>rfl
    rintro _ S2 ⟨g2,rfl⟩;simp[XZ];refine o _ _ (fun r e=>(y.A g2).d r e) fun _=> ?_;rw[N]
   rw[Xa k7]at N;simp[XZ,f3,r0,k9,k8,k7];refine o _ _ (fun r e=>y.d r e) fun _=> ?_;rw[N]
theorem Jio (n:Str)(b:Bool):∀d:List (Str×Bool),Y4 n (V.h b) (hasE d)=hasE (sB n b d)
 |[]=>rfl
 | (a,c)::r=>by
   have e:=Jio n b r;unfold hasE at e⊢;rw[XK,Y4,sB]
   grind
theorem Jes {S:St}(h:LstAt (NmC s v) s v q 5 e)(w:∀r,v.A r≠ .none->S.A r=v.A r)(K:t<e.length):
  ∃r b k m,Js 5 q (.d .i64 t)=some (.g r b, .a)/\S.A r≠ .none/\ldn (S.A r) b 5=some (.j [ofL e[t].1, .d .i64 e[t].2.A,ofL e[t].2.B,k,m], .a)/\TyC s S [.d .i64 e[t].2.A,ofL e[t].2.B,k,m] e[t].2/\(k.A=some [k]/\k.B=true/\m.A=some [m]/\m.B=true):=by
 obtain⟨r,b,f,L,Q,M,x,⟨c,N,y⟩,T,U⟩:=h.A K;have n:=y;obtain⟨o,u,O,rfl,z,J,W,X⟩:=y.B;subst N;rw[<-w r M]at x;exact⟨r,b,o,u,L,by grind,x,n.A fun r p f=>⟨p,w r f⟩,z.A,z.B,J.A,J.B⟩
theorem Jip (l:List (Str×Ty))(k:Nat)(a:List (Str×Bool)):Km l (k+1) a=Km l k (KX l a):=by rfl
theorem Jky (p:Str×Ty)(r:List (Str×Ty))(a:List (Str×Bool)):KX (p::r) a=KX r (sB p.1 (gB p.1 a||Qc (fun x=>gB x a) p.2 1) a):=by rfl
theorem JrM (hw:WF v)(h:SchC P v n z)(ht:TyC P v b r)(hP:∀f,P f->v.A f≠ .none)(hl:z.a.length<=1000)(hd:(z.a.map Prod.fst).Nodup):
  Dz 70 [.j n, .j b] v fun v' bw=>Gr v bw/\v'= .h (finS z.a r):=by
 refine Jn tabM (aT Tryz.func70 rfl) rfl hw fun K ai=> ?_;obtain⟨m,a5⟩:=nxE v;have bh:=h;obtain⟨c,tv,sv,rfl,h1,h2,h3⟩:=h;obtain⟨M,hM⟩:∃M,M=z.b:=⟨_,rfl⟩
 obtain⟨l,bi⟩:∃l,l=z.a:=⟨_,rfl⟩
 rw[<-hM]at h1;rw[<-bi]at h2 hl ai;obtain⟨nv,kv,es,rfl,x1,x2,x3,x4⟩:=h1.B;have bj:=ht;obtain⟨bx,bz,cg,rfl,y1,y2,y3,y4⟩:=ht.B;have l1:=h2.H;have ch:=x1.A;have b0:=x1.B;have cj:=x2.A;have b1:=x2.B;have ck:=y1.A;have b2:=y1.B;have cl:=y2.A;have b3:=y2.B;have b4:=h2.B;have b5:=h3.B;simp only[CT,Tryz.f70,XY,simprocAttr];obtain⟨I,hI⟩:=opE fun y S=>(Gr v S/\y 2= .g (up 0 m) 0/\y 3= .g (up 1 m) 0/\(∃u,S.A (up 0 m)= .a u [.d .i64 M.A,ofL M.B,nv,kv,tv,sv])/\(∃u,S.A (up 1 m)= .a u [.d .i64 r.A,ofL r.B,bx,bz]))
 refine YU I ?_ ?_
 ·simp[XZ,a5,b0,b1,b2,b3,b4.1,b5.1];exact(hI _ _).2 ⟨(Gr.G hw (Jc _)).L (Jc _),rfl,rfl,⟨_,by simp[XZ,a5];rfl⟩,⟨_,by simp[XZ,a5];rfl⟩⟩
 intro y S bk;obtain⟨g0,Q,U,⟨t0,r0⟩,⟨t1,r1⟩⟩:=(hI _ _).1 bk;rw[Ja];simp[XY,Q,r0];refine Je (Jqo (P:=P) g0.D (bh.A g0.H) (by grind) hd) ?_;rintro _ S1 ⟨g1,rm,rfl,cm,a6⟩;rw[<-bi]at a6;have r0:=g1.B r0;have r1:=g1.B r1;have G1:=g0.A g1;have w1:=g1.D;obtain⟨n1,a7⟩:=nxE S1;have cn:Jw [.u, .d .i64 0] 0 [.q rm]=[.q rm, .d .i64 0]:=rfl;simp[XY,a7];obtain⟨S2,av⟩:=exE (S1.B fun r=> .a r [.q rm, .d .i64 0]);have g2:Gr S1 S2:=by rw[av];exact Gr.G w1 (Jc _)
 obtain⟨kr,a8⟩:=exE (up 0 n1);obtain⟨tk,rk⟩:∃u,S2.A kr= .a u [.q rm, .d .i64 0]:=⟨_,by rw[av,a8];simp[XZ,a7];rfl⟩
 have b6:S1.A kr= .none:=by rw[a8];exact nx0 w1 a7 0
 rw[<-av,<-a8];clear av;have G2:=G1.A g2;have b7:up 0 m≠kr:=fun h=>by grind
 have bl:up 1 m≠kr:=fun h=>by grind
 have r0:=g2.B r0;have r1:=g2.B r1;have bm:S1.A rm≠ .none:=by obtain⟨_,h,_⟩:=a6;exact h.A
 have qk:v.A kr= .none:=G1.I b6;have aj:∀f,v.A f≠ .none->f≠kr:=fun f e h=>e (by grind);have L2:KE P S2 kr rm l 0:=
  ⟨a6.A (g2.d rm bm) g2.H,⟨tk,rk⟩,fun f p=>aj f (hP f p),fun e=>bm (by grind)⟩
 have keep:∀{S':St},Ch (fun f=>f=kr) S2 S'->∀f,v.A f≠ .none->S'.A f=v.A f:=fun c f e=>by rw[c.d f (by rw[G2.d f e];exact e) (aj f e),G2.d f e]
 have ad:∀{S':St} {p:Pt} {u:Nat} {x:List V},Ch (fun f=>f=kr) S2 S'->S2.A p= .a u x->p≠kr->S'.A p= .a u x:=fun c e m=>by rw[c.d _ (Jb e) m,e]
 refine Ju (fun y S=>(∃aa,y 2= .g (up 0 m) 0/\y 3= .g (up 1 m) 0/\y 5= .g kr 0/\Ch (fun f=>f=kr) S2 S/\KE P S kr rm l aa/\(JE (hasN l) (l.map Prod.snd) 1 0).1=0)) (fun J1 b8=> ?_) ?_
 ·rw[Ja];simp[XY,Q,r0,l1];obtain⟨I,hI⟩:=loE fun j y S=>∃(i aa:Nat),j+i=l.length/\y 2= .g (up 0 m) 0/\y 3= .g (up 1 m) 0/\y 5= .g kr 0/\y 16=tv/\y 17= .d .i64 l.length/\y 18= .d .i64 i/\Ch (fun f=>f=kr) S2 S/\KE P S kr rm l aa/\aa<=400/\JE (hasN l) (l.map Prod.snd) 1 0=JE (hasN l) ((l.map Prod.snd).drop i) 1 aa;refine JD I l.length (by omega) ((hI _ _ _).2 ⟨0,0,by omega,Q,U,rfl,rfl,rfl,by rfl,Ch.G _ g2.D,L2,by omega,rfl⟩) ?_;clear Q U;intro j y S ak;obtain⟨i,aa,hj,Q,U,f5,bn,a9,aw,hC,hL,a2,O⟩:=(hI _ _ _).1 ak;by_cases hi:i<l.length
  ·obtain⟨f,q,al,am,a1,a3,a4,ao,d1,d2,d3,d4⟩:=Jes h2 (keep hC) hi;obtain⟨N,ba⟩:∃N,N=l[i].1:=⟨_,rfl⟩
   obtain⟨T,hT⟩:∃T,T=l[i].2:=⟨_,rfl⟩
   rw[<-hT]at ao;rw[<-ba,<-hT]at a4;have hd:(l.map Prod.snd).drop i=T::(l.map Prod.snd).drop (i+1):=by
    rw[Xc (by grind),X6,<-hT]
   rw[hd,Kg]at O;have wS:=hC.D;obtain⟨nS,ae⟩:=nxE S;have oq:=fun k=>nes (Jt wS ae a3 k);have af:=wiN (i:=i) (by omega);rw[Ja];simp[XY,a9,aw,hi];rw[Jd];simp[XY];rw[Jd];simp[XY];rw[Ja];simp[XY,bn,aw,a1,a4,ae,d2,d4];obtain⟨S3,ag⟩:=exE ((S.B fun r=> .a r [ofL [], .d .i64 0,ofL [], .e, .e]).D (up 0 nS) S.t fun u=> .a u [ofL N, .d .i64 T.A,ofL T.B,al,am]);have g3:Gr S S3:=by rw[ag];exact(Gr.F wS).M ae (Jc _) (Jc _)
   obtain⟨t3,r3⟩:∃r,S3.A (up 0 nS)= .a r [ofL N, .d .i64 T.A,ofL T.B,al,am]:=⟨_,by rw[ag];simp[XZ];rfl⟩
   rw[<-ag];rw[Ja];simp[XY,f5,r3];refine Je (mayD (deep:=1) g3.D (hL.D g3) (ao.H g3) (by decide) a2) ?_;rintro _ S4 ⟨c4,L4,rfl⟩;have C4:Ch (fun f=>f=kr) S2 S4:=(hC.A (Ch.H _ g3) fun f w=> .inl w).A c4 fun f w=> .inl w;have b9:=QN (hasN l) T 1 aa a2;by_cases he:(mayS (hasN l) T 1 aa).1=0
   ·rw[Xa (by omega)]at O;simp[XZ,he,aw,af];exact⟨l.length-(i+1),by omega,(hI _ _ _).2 ⟨i+1,_,by omega,Q,U,f5,bn,a9,rfl,C4,L4,b9.2 he,O⟩⟩
   ·rw[Xe (by omega)]at O;simp[XZ,he];refine ai _ _ (keep C4) fun _=> ?_;unfold finS
    grind
  ·rw[Xm (by grind),QT]at O;simp[XZ,a9,aw,hi];exact b8 _ _ ⟨aa,Q,U,f5,hC,hL,by rw[O]⟩
 clear Q U bk hI;rintro y S ⟨aa,Q,U,f5,hC,hL,bo⟩;have co:=kY (hasN l) (l.map Prod.snd) 1 0 bo;have cp:=(YP (hasN l) (l.map Prod.snd) 1 0 (by decide)).2 bo;obtain⟨ca,bb⟩:=hL.a;rw[Ja];simp[XY,f5,bb];obtain⟨S3,ag⟩:=exE (S.D kr ca fun u=> .a u [.q rm, .d .i64 0]);have c3:Ch (fun f=>f=kr) S S3:=by rw[ag];exact(Ch.G _ hC.D).J (Jb bb) (by rw[bb];rfl) (.inl rfl) (Jc _)
 have L3:KE P S3 kr rm l 0:=hL.F c3 ⟨_,by rw[ag];exact Jh _ _ _ _⟩;have C3:Ch (fun f=>f=kr) S2 S3:=hC.A c3 fun f w=> .inl w;rw[<-ag];have bc:=ad C3 r1 bl;rw[Jd,Ja];simp[XY,U,f5,bc];refine Je (mayD (deep:=1) C3.D L3 (bj.A fun f p e=>⟨p,keep C3 f e⟩) (by decide) (by decide)) ?_;rintro _ S4 ⟨c4,L4,rfl⟩;have C4:Ch (fun f=>f=kr) S2 S4:=C3.A c4 fun f w=> .inl w;by_cases he:(mayS (hasN l) r 1 0).1=0;rotate_left
 ·simp[XZ,he];refine ai _ _ (keep C4) fun _=> ?_;unfold finS
  grind
 have cq:=JaA (hasN l) r 1 0 he;have cf:=(QN (hasN l) r 1 0 (by decide)).2 he;have bp:finS l r=Qc (fun x=>gB x (Km l l.length [])) r 1:=by
  unfold finS
  grind
 rw[bp]at ai;have bq:=ad C4 r0 b7;have bc:=ad C4 r1 bl;have w4:=C4.D;obtain⟨n4,bd⟩:=nxE S4;simp[XY,he];rw[Ja];simp[XY,bd];obtain⟨S5,ax⟩:=exE (S4.B fun r=> .b r []);have g5:Gr S4 S5:=by rw[ax];exact Gr.G w4 (Qb _)
 obtain⟨rh,be⟩:=exE (up 0 n4);have qh:S4.A rh= .none:=by rw[be];exact nx0 w4 bd 0
 obtain⟨th,mh⟩:∃u,S5.A rh= .b u ((hasE []).map fun p=>(ofL p.1,p.2)):=⟨_,by rw[ax,be];simp only[XZ,simprocAttr,bd];rfl⟩
 rw[<-ax,<-be];clear ax;have ah:∀{S':St},Gr S4 S'->∀f,v.A f≠ .none->S'.A f=v.A f:=fun g f e=>by rw[g.d f (by grind),keep C4 f e]
 refine Ju (fun y S=>(y 3= .g (up 1 m) 0/\y 8= .q rh/\Gr S4 S/\∃u,S.A rh= .b u ((hasE (Km l l.length [])).map fun p=>(ofL p.1,p.2)))) (fun J2 cb=> ?_) ?_
 ·have br:=g5.B bq;rw[Ja];simp[XY,Q,br,l1];obtain⟨I,hI⟩:=loE fun j y S=>∃(i:Nat) (ab:List (Str×Bool)),j+i=l.length/\y 2= .g (up 0 m) 0/\y 3= .g (up 1 m) 0/\y 8= .q rh/\y 38= .d .i64 l.length/\y 39= .d .i64 i/\Gr S4 S/\(∃u,S.A rh= .b u ((hasE ab).map fun p=>(ofL p.1,p.2)))/\Km l l.length []=Km l (l.length-i) ab;refine JD I l.length (by omega) ((hI _ _ _).2 ⟨0,[],by omega,Q,U,rfl,rfl,by rfl,g5,⟨th,mh⟩,rfl⟩) ?_;clear Q U f5;intro j y S ak;obtain⟨i,ab,hj,Q,U,f8,W,X,hg,Y,O⟩:=(hI _ _ _).1 ak;by_cases hi:i<l.length
  ·have af:=wiN (i:=i) (by omega);have rS:=hg.B bq;have cc:l.length-i=(l.length-(i+1))+1:=by omega
   rw[cc,Jip]at O;rw[Ja];simp[XY,W,X,hi];rw[Jd];simp[XY];refine Ju (fun y S=>(y 2= .g (up 0 m) 0/\y 3= .g (up 1 m) 0/\y 8= .q rh/\y 38= .d .i64 l.length/\y 39= .d .i64 i/\Gr S4 S/\∃u,S.A rh= .b u ((hasE (KX l ab)).map fun p=>(ofL p.1,p.2)))) (fun J3 cd=> ?_) ?_
   ·simp[XY];rw[Ja];simp[XY,Q,rS,l1];obtain⟨I2,ay⟩:=loE fun j y S=>∃(k:Nat) (hk:List (Str×Bool)),j+k=l.length/\y 2= .g (up 0 m) 0/\y 3= .g (up 1 m) 0/\y 8= .q rh/\y 38= .d .i64 l.length/\y 39= .d .i64 i/\y 42=tv/\y 43= .d .i64 l.length/\y 44= .d .i64 k/\Gr S4 S/\(∃u,S.A rh= .b u ((hasE hk).map fun p=>(ofL p.1,p.2)))/\KX l ab=KX (l.drop k) hk;refine JD I2 l.length (by omega) ((ay _ _ _).2 ⟨0,ab,by omega,Q,U,f8,W,X,rfl,rfl,by rfl,hg,Y,rfl⟩) ?_;clear Q U f8 W X;intro j2 y S ak;obtain⟨k,hk,cr,Q,U,f8,W,X,bf,az,ap,hg,⟨th,Y⟩,Z⟩:=(ay _ _ _).1 ak;by_cases a0:k<l.length
    ·have aq:=wiN (i:=k) (by omega);obtain⟨f,q,al,am,a1,a3,a4,ao,d1,d2,d3,d4⟩:=Jes h2 (ah hg) a0;have bt:cntT l[k].2<1000000:=by
      have:=jF (ks:=l.map Prod.snd) (i:=k) (by grind)
      grind
     rw[Xc a0,Jky]at Z;obtain⟨N,ba⟩:∃N,N=l[k].1:=⟨_,rfl⟩
     obtain⟨T,hT⟩:∃T,T=l[k].2:=⟨_,rfl⟩
     rw[<-hT]at ao bt;rw[<-ba,<-hT]at a4 Z;have wS:=hg.D;obtain⟨nS,ae⟩:=nxE S;have oq:=fun k=>nes (Jt wS ae a3 k);rw[Ja];simp[XY,az,ap,a0];rw[Jd];simp[XY];rw[Jd];simp[XY];rw[Ja];simp[XY,bf,ap,a1,a4,ae,d2,d4];obtain⟨S1,bg⟩:=exE ((S.B fun r=> .a r [ofL [], .d .i64 0,ofL [], .e, .e]).D (up 0 nS) S.t fun u=> .a u [ofL N, .d .i64 T.A,ofL T.B,al,am]);have g1:Gr S S1:=by rw[bg];exact(Gr.F wS).M ae (Jc _) (Jc _)
     obtain⟨t1,rb⟩:∃r,S1.A (up 0 nS)= .a r [ofL N, .d .i64 T.A,ofL T.B,al,am]:=⟨_,by rw[bg];simp[XZ];rfl⟩
     rw[<-bg];have bu:S.A rh≠ .none:=by grind
     have m1:S1.A rh= .b th ((hasE hk).map fun p=>(ofL p.1,p.2)):=by rw[g1.d rh bu,Y]
     have ar:=K0 (enc:=ofL) (e:= .a .s) ⟨th,m1⟩ (.h false) false N (YV N _) rfl;rw[Jly]at ar;have G1:=hg.A g1;have bv:∀(S6:St) (o:Bool),Gr S1 S6->o=(gB N hk||Qc (fun x=>gB x hk) T 1)->Gr S4 (S6.D rh th fun u=> .b u ((hasE (sB N o hk)).map fun p=>(ofL p.1,p.2)))/\(∃u,(S6.D rh th fun u=> .b u ((hasE (sB N o hk)).map fun p=>(ofL p.1,p.2))).A rh= .b u ((hasE (sB N o hk)).map fun p=>(ofL p.1,p.2)))/\KX l ab=KX (l.drop (k+1)) (sB N o hk):=fun S6 o g hb=>by
      have m6:S6.A rh= .b th ((hasE hk).map fun p=>(ofL p.1,p.2)):=by rw[g.d rh (by grind),m1]
      exact⟨(G1.A g).J qh (by grind) (by rw[m6];rfl) (Qb _),⟨_,Jh _ _ _ _⟩,by grind⟩
     cases hb:gB N hk with
     | true=>
       have au:=jD (enc:=ofL) (e:= .a .s) m1 N (.h true) (YV N _) rfl;rw[Jio]at au;obtain⟨s1,s2,s3⟩:=bv S1 true (Gr.F g1.D) (by grind);rw[hb]at ar;simp[XZ,f8,ar,au,ap,aq];exact⟨l.length-(k+1),by omega,(ay _ _ _).2 ⟨k+1,_,by omega,Q,U,f8,W,X,bf,az,rfl,s1,s2,s3⟩⟩
     | false=>
       rw[hb]at ar;simp[XY,f8,ar,rb];refine Ji (Jqq _ T (XO _) P _ rh hk _ 1 (Jq g1.D S1.t) ⟨th,m1⟩ ((ao.H g1).A kR) (by decide) (by omega)) ?_;rintro _ S6 g6 rfl;have m6:S6.A rh= .b th ((hasE hk).map fun p=>(ofL p.1,p.2)):=by rw[g6.d rh (by grind),m1]
       obtain⟨o,ce⟩:∃o,o=Qc (fun x=>gB x hk) T 1:=⟨_,rfl⟩
       rw[<-ce];have au:=jD (enc:=ofL) (e:= .a .s) m6 N (.h o) (YV N _) rfl;rw[Jio]at au;obtain⟨s1,s2,s3⟩:=bv S6 o g6 (by grind);simp[XZ,au,ap,aq];exact⟨l.length-(k+1),by omega,(ay _ _ _).2 ⟨k+1,_,by omega,Q,U,f8,W,X,bf,az,rfl,s1,s2,s3⟩⟩
    ·rw[Xm (by omega)]at Z;have Z:KX l ab=hk:=Z;simp[XZ,az,ap,a0];exact cd _ _ ⟨Q,U,f8,W,X,hg,th,by grind⟩
   clear Q U f8 W X;rintro y S ⟨Q,U,f8,W,X,hg,Y⟩;simp[XZ,X,af];exact⟨l.length-(i+1),by omega,(hI _ _ _).2 ⟨i+1,_,by omega,Q,U,f8,W,rfl,hg,Y,O⟩⟩
  ·have h0:l.length-i=0:=by omega
   rw[h0]at O;have O:Km l l.length []=ab:=O;simp[XZ,W,X,hi];exact cb _ _ ⟨U,f8,hg,by grind⟩
 clear Q U f5;rintro y S ⟨U,f8,hg,⟨u,Y⟩⟩;have rS:=hg.B bc;simp[XZ,U,f8,rS];refine Je (Jqq _ r (XO _) P S rh (Km l l.length []) _ 1 hg.D ⟨u,Y⟩ (bj.A fun f p e=>⟨p,ah hg f e⟩) (by decide) (by omega)) ?_;rintro _ S6 ⟨g6,rfl⟩;simp[XZ];exact ai _ _ (ah (hg.A g6)) fun _=>rfl
theorem JrN {s:Sch}(f:WF v)(h:SchC P v n s)(g:TyC P v b r)(i:s.a.length<=1000)(k:(s.a.map Prod.fst).Nodup):
  Dz 70 [.j n, .j b] v fun l d=>Gr v d/\l= .h (finS s.a r):=
 JrM (P:=fun c=>P c/\v.A c≠ .none) f (h.A fun c p e=>⟨⟨p,e⟩,rfl⟩) (g.A fun c p e=>⟨⟨p,e⟩,rfl⟩) (fun c p=>p.2) i k
theorem JtK (h0:z.c=[])(hw:WF v)(h:SchC P v n z)(hP:∀r,P r->v.A r≠ .none):
  Dz 36 [.j n] v fun v' bo=>Gr v bo/\v'= .d .i64 (Qx z):=by
 refine Jn tabM (aT Tryz.func36 rfl) rfl hw fun K av=> ?_;obtain⟨o,be⟩:=nxE v;have J:=qm z;have bf:=Jhb z;have ae:=h;obtain⟨c,tv,sv,rfl,h1,h2,h3⟩:=h;obtain⟨M,hM⟩:∃M,M=z.b:=⟨_,rfl⟩
 obtain⟨l,aj⟩:∃l,l=z.a:=⟨_,rfl⟩
 obtain⟨fs,ak⟩:∃l,l=z.c:=⟨_,rfl⟩
 rw[<-hM]at h1;rw[<-aj]at h2;rw[<-ak]at h3;rw[<-aj,<-hM,<-ak]at J bf;have bp:=h1;obtain⟨nv,kv,es,rfl,x1,x2,x3,x4⟩:=h1.B;have l1:=h2.H;have l2:=h3.H;have b8:=x1.A;have bq:=x1.B;have b9:=x2.A;have br:=x2.B;have bt:=h2.B;have bu:=h3.B;simp only[CT,Tryz.f36,XY,simprocAttr];rw[Ja];simp[XY,be,bq,br,bt.1,bu.1];obtain⟨S,hS⟩:=exE (v.B fun t=> .a t [.d .i64 M.A,ofL M.B,nv,kv,tv,sv]);have g0:Gr v S:=by rw[hS];exact Gr.G hw (Jc _)
 obtain⟨t0,W⟩:∃t,S.A (up 0 o)= .a t [.d .i64 M.A,ofL M.B,nv,kv,tv,sv]:=⟨_,by rw[hS];simp[XZ,be];rfl⟩
 rw[<-hS];clear hS;by_cases b1:12<l.length
 ·have al:(12:Int)<l.length:=by omega
  rw[Jd,Ja];simp[XZ,W,l1,al];refine av _ _ (fun r e=>g0.d r e) fun _=> ?_
  grind
 have al:¬(12:Int)<l.length:=by omega
 by_cases b2:12<fs.length
 ·have aw:(12:Int)<fs.length:=by omega
  rw[Jd,Ja];simp[XZ,W,l1,l2,al,aw]
  grind
 have aw:¬(12:Int)<fs.length:=by omega
 rw[Xa (fun h=>by omega)]at J;rw[Jd,Ja];simp[XY,W,l1,l2,al,aw];rw[Jd,Ja];simp[XY,W];refine Je (JtJ (P:=P) g0.D (h2.G (fun e x h=>h.A g0.H) g0.H) (by omega)) ?_;rintro _ S1 ⟨g1,rfl⟩;have G1:=g0.A g1;have W:=g1.B W;by_cases am:Ka none (l.map Prod.fst)=0;rotate_left
 ·simp[XZ,am];refine av _ _ (fun r e=>G1.d r e) fun _=> ?_
  grind
 rw[Xa (fun h=>h am)]at J;have ca:=qY am;simp[XY];rw[Ja];simp[XY,am];rw[Ja];simp[XY,W];refine Je (Jqo (P:=P) g1.D (ae.A G1.H) (by grind) (by grind)) ?_;rintro _ S2 ⟨g2,rm,rfl,cb,ax⟩;rw[<-aj]at ax;have W:=g2.B W;have G2:=G1.A g2;have w2:=g2.D;obtain⟨n2,ay⟩:=nxE S2;simp[XY,ay];obtain⟨S3,ao⟩:=exE (S2.B fun t=> .a t [.q rm, .d .i64 0]);have g3:Gr S2 S3:=by rw[ao];exact Gr.G w2 (Jc _)
 obtain⟨L,az⟩:=exE (up 0 n2);obtain⟨tk,rk⟩:∃u,S3.A L= .a u [.q rm, .d .i64 0]:=⟨_,by rw[ao,az];simp[XZ,ay];rfl⟩
 have bv:S2.A L= .none:=by rw[az];exact nx0 w2 ay 0
 rw[<-ao,<-az];clear ao;have G3:=G2.A g3;have a0:up 0 o≠L:=fun h=>by grind
 have W:=g3.B W;have bg:S2.A rm≠ .none:=by obtain⟨_,h,_⟩:=ax;exact h.A
 have qk:v.A L= .none:=G2.I bv;have af:∀r,v.A r≠ .none->r≠L:=fun r e h=>e (by grind);have L3:KE P S3 L rm l 0:=
  ⟨ax.A (g3.d rm bg) g3.H,⟨tk,rk⟩,fun r p=>af r (hP r p),fun e=>bg (by grind)⟩
 have keep:∀{S':St},Ch (fun r=>r=L) S3 S'->∀r,v.A r≠ .none->S'.A r=v.A r:=fun c r e=>by rw[c.d r (by rw[G3.d r e];exact e) (af r e),G3.d r e]
 have X:∀{S':St} {p:Pt} {u:Nat} {x:List V},Ch (fun r=>r=L) S3 S'->S3.A p= .a u x->p≠L->S'.A p= .a u x:=fun c e o=>by rw[c.d _ (Jb e) o,e]
 refine Ju (fun O S=>(O 1= .g (up 0 o) 0/\O 4= .g L 0/\Ch (fun r=>r=L) S3 S/\KE P S L rm l (JE (hasN l) (l.map Prod.snd) 1 0).2/\(JE (hasN l) (l.map Prod.snd) 1 0).1=0)) (fun J1 bw=> ?_) ?_
 ·rw[Ja];simp[XY,W,l1];obtain⟨I,hI⟩:=loE fun j O S=>∃(i ad:Nat),j+i=l.length/\O 1= .g (up 0 o) 0/\O 4= .g L 0/\O 33=tv/\O 34= .d .i64 l.length/\O 35= .d .i64 i/\Ch (fun r=>r=L) S3 S/\KE P S L rm l ad/\ad<=400/\JE (hasN l) (l.map Prod.snd) 1 0=JE (hasN l) ((l.map Prod.snd).drop i) 1 ad;refine JD I l.length (by omega) ((hI _ _ _).2 ⟨0,0,by omega,rfl,rfl,rfl,rfl,by rfl,Ch.G _ g3.D,L3,by omega,rfl⟩) ?_;intro j O S a2;obtain⟨i,ad,hj,Y,f4,bh,a5,ap,hC,hL,au,y⟩:=(hI _ _ _).1 a2;by_cases hi:i<l.length
  ·obtain⟨r,q,ag,ah,a1,a3,a4,ai,d1,d2,d3,d4⟩:=Jes h2 (keep hC) hi;obtain⟨N,a6⟩:∃N,N=l[i].1:=⟨_,rfl⟩
   obtain⟨T,hT⟩:∃T,T=l[i].2:=⟨_,rfl⟩
   rw[<-hT]at ai;rw[<-a6,<-hT]at a4;have hd:(l.map Prod.snd).drop i=T::(l.map Prod.snd).drop (i+1):=by
    rw[Xc (by grind),X6,<-hT]
   rw[hd,Kg]at y;have wS:=hC.D;obtain⟨nS,Z⟩:=nxE S;have oq:=fun k=>nes (Jt wS Z a3 k);have aa:=wiN (i:=i) (by omega);rw[Ja];simp[XY,a5,ap,hi];rw[Jd];simp[XY];rw[Jd];simp[XY];rw[Ja];simp[XY,bh,ap,a1,a4,Z,d2,d4];obtain⟨S4,a7⟩:=exE ((S.B fun t=> .a t [ofL [], .d .i64 0,ofL [], .e, .e]).D (up 0 nS) S.t fun u=> .a u [ofL N, .d .i64 T.A,ofL T.B,ag,ah]);have g4:Gr S S4:=by rw[a7];exact(Gr.F wS).M Z (Jc _) (Jc _)
   obtain⟨t4,r4⟩:∃t,S4.A (up 0 nS)= .a t [ofL N, .d .i64 T.A,ofL T.B,ag,ah]:=⟨_,by rw[a7];simp[XZ];rfl⟩
   rw[<-a7];rw[Ja];simp[XY,f4,r4];refine Je (mayD (deep:=1) g4.D (hL.D g4) (ai.H g4) (by decide) au) ?_;rintro _ S5 ⟨c5,L5,rfl⟩;have C5:Ch (fun r=>r=L) S3 S5:=(hC.A (Ch.H _ g4) fun r w=> .inl w).A c5 fun r w=> .inl w;have bx:=QN (hasN l) T 1 ad au;by_cases he:(mayS (hasN l) T 1 ad).1=0
   ·rw[Xa (by omega)]at y;simp[XZ,he,ap,aa];exact⟨l.length-(i+1),by omega,(hI _ _ _).2 ⟨i+1,_,by omega,Y,f4,bh,a5,rfl,C5,L5,bx.2 he,y⟩⟩
   ·rw[Xe (by omega)]at y;simp[XZ,he]
    grind
  ·rw[Xm (by grind),QT]at y;simp[XZ,a5,ap,hi];exact bw _ _ ⟨Y,f4,hC,by grind,by rw[y]⟩
 rintro O S ⟨Y,f4,hC,hL,a8⟩;rw[Xa (fun h=>h a8)]at J;have bz:=kY (hasN l) (l.map Prod.snd) 1 0 a8;have a9:=(YP (hasN l) (l.map Prod.snd) 1 0 (by decide)).2 a8;obtain⟨m1,b0⟩:∃m,m=(JE (hasN l) (l.map Prod.snd) 1 0).2:=⟨_,rfl⟩
 rw[<-b0]at J hL a9 bz;have ab:=X hC W a0;rw[Jd,Ja];simp[XY,Y,f4,ab];refine Je (mayD (deep:=1) hC.D hL (bp.A fun r p e=>⟨p,keep hC r e⟩) (by decide) a9) ?_;rintro _ S4 ⟨c4,L4,rfl⟩;have C4:Ch (fun r=>r=L) S3 S4:=hC.A c4 fun r w=> .inl w;by_cases he:(mayS (hasN l) M 1 m1).1=0;rotate_left
 ·simp[XZ,he]
  grind
 rw[Xa (fun h=>h he)]at J;have bi:=JaA (hasN l) M 1 m1 he;have bj:=(QN (hasN l) M 1 m1 a9).2 he;obtain⟨m2,b3⟩:∃m,m=(mayS (hasN l) M 1 m1).2:=⟨_,rfl⟩
 rw[<-b3]at J L4 bj bi;simp[XY];rw[Ja];simp[XY,he];have ab:=X C4 W a0;rw[Jd,Ja];simp[XY,Y,f4,ab];refine Je (Juv C4.D L4 (h3.G (fun e x h=>h.A fun r p e=>⟨p,keep C4 r e⟩) fun r p e=>⟨p,keep C4 r e⟩) (ak.trans h0)) ?_;rintro _ S5 ⟨c5,L5,rfl⟩;have C5:Ch (fun r=>r=L) S3 S5:=C4.A c5 fun r w=> .inl w;by_cases aq:(Qv (hasN l) none fs m2).1=0;rotate_left
 ·simp[XZ,aq]
  grind
 rw[Xa (fun h=>h aq)]at J;obtain⟨cc,cd,b4⟩:=Jcv (hasN l) none fs m2 bj aq;obtain⟨m3,b5⟩:∃m,m=(Qv (hasN l) none fs m2).2:=⟨_,rfl⟩
 rw[<-b5]at L5 b4;simp[XY];rw[Ja];simp[XY,aq];have ab:=X C5 W a0;have U:∀{S':St},Gr S5 S'->∀r,v.A r≠ .none->S'.A r=v.A r:=fun g r e=>by rw[g.d r (by grind),keep C5 r e]
 refine Ju (fun O S=>(O 1= .g (up 0 o) 0/\O 4= .g L 0/\Gr S5 S/\(l.any fun p=> !finS l p.2)=false)) (fun J2 b6=> ?_) ?_
 ·rw[Ja];simp[XY,Y,ab,l1];obtain⟨I,hI⟩:=loE fun j O S=>∃(i:Nat),j+i=l.length/\O 1= .g (up 0 o) 0/\O 4= .g L 0/\O 62=tv/\O 63= .d .i64 l.length/\O 64= .d .i64 i/\Gr S5 S/\(l.any fun p=> !finS l p.2)=((l.drop i).any fun p=> !finS l p.2);refine JD I l.length (by omega) ((hI _ _ _).2 ⟨0,by omega,Y,f4,rfl,rfl,by rfl,Gr.F C5.D,rfl⟩) ?_;clear Y f4;intro j O S a2;obtain⟨i,hj,Y,f4,bk,ba,ar,hg,y⟩:=(hI _ _ _).1 a2;by_cases hi:i<l.length
  ·obtain⟨r,q,ag,ah,a1,a3,a4,ai,d1,d2,d3,d4⟩:=Jes h2 (U hg) hi;rw[Xc hi,Gj]at y;obtain⟨N,a6⟩:∃N,N=l[i].1:=⟨_,rfl⟩
   obtain⟨T,hT⟩:∃T,T=l[i].2:=⟨_,rfl⟩
   rw[<-hT]at ai y;rw[<-a6,<-hT]at a4;have wS:=hg.D;obtain⟨nS,Z⟩:=nxE S;have oq:=fun k=>nes (Jt wS Z a3 k);have aa:=wiN (i:=i) (by omega);rw[Ja];simp[XY,ba,ar,hi];rw[Jd];simp[XY];rw[Jd];simp[XY];rw[Ja];simp[XY,bk,ar,a1,a4,Z,d2,d4];obtain⟨S6,bb⟩:=exE ((S.B fun t=> .a t [ofL [], .d .i64 0,ofL [], .e, .e]).D (up 0 nS) S.t fun u=> .a u [ofL N, .d .i64 T.A,ofL T.B,ag,ah]);have g6:Gr S S6:=by rw[bb];exact(Gr.F wS).M Z (Jc _) (Jc _)
   obtain⟨t6,r6⟩:∃t,S6.A (up 0 nS)= .a t [ofL N, .d .i64 T.A,ofL T.B,ag,ah]:=⟨_,by rw[bb];simp[XZ];rfl⟩
   rw[<-bb];have G6:=hg.A g6;have bc:=G6.B ab;rw[Ja];simp[XY,Y,bc,r6];refine Je (JrN (s:=z) G6.D (ae.A fun r p e=>⟨p,U G6 r e⟩) (ai.H g6) (by grind) (by grind)) ?_;rw[<-aj];rintro _ S7 ⟨g7,rfl⟩
   cases hf:finS l T with
   | true=>
     rw[hf]at y;simp[XZ,ar,aa];exact⟨l.length-(i+1),by omega,(hI _ _ _).2 ⟨i+1,by omega,Y,f4,bk,ba,rfl,G6.A g7,by grind⟩⟩
   | false=>
     rw[hf]at y;simp[XZ];refine av _ _ (U (G6.A g7)) fun _=> ?_
     grind
  ·rw[Xm (by omega)]at y;simp[XZ,ba,ar,hi];exact b6 _ _ ⟨Y,f4,hg,y⟩
 clear Y f4;rintro O S ⟨Y,f4,hg,bl⟩;rw[bl]at J;have J:Qx z=if jh l (Qn z)then 17 else 0:=J;have bc:=hg.B ab;rw[Jd,Ja];simp[XY,Y,bc];refine Je (JtI (P:=P) (Q:=fun r=>P r\/S.A r= .none) hg.D (ae.A fun r p e=>⟨p,U hg r e⟩) (by grind) h0 (fun r p=> .inl p) fun r p=> .inr p) ?_;rintro ev S6 ⟨g6,bm⟩;have kS:S.A L≠ .none:=by rw[hg.d L L5.B];exact L5.B
 have LS:KE (fun r=>P r\/S.A r= .none) S L rm l m3:=by
  have:=L5.D hg;exact⟨this.b.A rfl fun r p _=>⟨.inl p,rfl⟩,this.a,fun r p=>by grind,this.f⟩
 have bn:∀t∈Qn z,cntT t<1000000:=fun t ht=>by
  rw[bf]at ht;rcases Xs.1 ht with ht|ht
  ·rcases Xs.1 ht with ht|ht
   ·have:=JmQ ht;omega
   grind
  ·unfold qj at ht
   grind
 have bd:(Qn z).length<1000000:=by
  have hk:qj fs=[]:=by rw[ak,h0];rfl
  grind
 simp[XY,f4];refine Je (YX (fa:=[.g L 0]) (fb:=[]) (Jbp l) g6.D bm bd fun i hi S' E' g' b7=>JsP _ _ (XO _) _ S' L rm l m3 E' g'.D (LS.D (g6.A g')) b7 (by omega) (bn _ (Xh hi))) ?_;rintro _ S7 ⟨g7,rfl⟩;rw[qT]at J;have GF:=U (hg.A (g6.A g7))
 cases ho:(Qn z).any (Jbp l)with
 | true=>
   simp[XZ]
   grind
 | false=>
   simp[XZ]
   grind
theorem JtL (b:z.c=[])(f:WF v)(h:SchC P v n z):
  Dz 36 [.j n] v fun g a=>Gr v a/\g= .d .i64 (Qx z):=
 JtK (P:=fun r=>P r/\v.A r≠ .none) b f (h.A fun r p e=>⟨⟨p,e⟩,rfl⟩) fun r p=>p.2
theorem addZ (l:TabZ v s P k d)(w:∀a,P a->v.A a≠ .none)(m:TyC (fun a=>¬s a) v n r):
  Dz 37 [.g k 0, .j n] v fun b S=>∃i,TabZ S i P k (addT r 400 d).1/\Kept v s S i/\b= .p [.d .i64 ((addT r 400 d).2.1:Nat), .d .i64 (addT r 400 d).2.2.1]:=by
 obtain⟨o,F,l,hF⟩:=l;refine(addTop o l m fun a h=>h).A ?_;rintro b S ⟨c,⟨i,q,x,t,y,u⟩,rfl⟩;exact⟨i,⟨c.D,q,u,fun a f z=>by grind⟩,Kept.F c t,rfl⟩
theorem Jf5 (a n:Int)(g:St)(h:0<n)(j:n<4611686018427387904):Dz 99 [.d .i64 a, .d .i64 n] g fun v b=>v= .d .i64 (a%n)/\g=b:=by
 refine Jl (aT Tryz.func99 rfl) rfl ?_;have c:n≠0:=by omega
 have k:=Zr a c;have l:=Zc a h;rcases Jps a h with⟨e,f⟩|⟨e,f⟩
 ·simp only[CT,Tryz.f99,XZ,simprocAttr,c,e];rw[f]
 ·have i:IntKind.i64.wrap (a.tmod n+n)=a%n:=by rw[f,JX (by omega) (by omega)]
  simp only[CT,Tryz.f99,XZ,simprocAttr,c,e,i]
theorem Juw (z:Int)(e:St)(k:WF e):Dz 101 [.d .i64 z] e fun v f=>Gr e f/\v=ofL (JjE z):=by
 refine Jl (aT Tryz.func101 rfl) rfl ?_;obtain⟨q,g⟩:∃q,e.b=q:=⟨_,rfl⟩
 simp only[CT,Tryz.f101,XZ,simprocAttr,g];refine Je (Jf5 z 7 _ (by decide) (by decide)) ?_;rintro _ _ ⟨rfl,rfl⟩;have n:=Zr z (show(7:Int)≠0 by decide);have o:=Zc z (show(0:Int)<7 by decide);obtain⟨m,h⟩:∃m:Nat,z%7=m:=⟨(z%7).toNat,by omega⟩
 have i:JjE z=nms7.getD m []:=by unfold JjE;grind
 rw[h]at n o⊢;rw[i];clear i h;have j:∀l,Gr e (e.B fun u=> .a u l):=fun l=>Gr.G k (Jc _);have p:(e.B fun u=>Row.a u [ofL [97],ofL [98],ofL [99],ofL [110,97,109,101],ofL [110],ofL [73,110,116],ofL [116,121,112,101]]).A q= .a e.t [ofL [97],ofL [98],ofL [99],ofL [110,97,109,101],ofL [110],ofL [73,110,116],ofL [116,121,112,101]]:=by rw[<-g];exact JI _ _
 have c:m=0\/m=1\/m=2\/m=3\/m=4\/m=5\/m=6:=by omega
 rcases c with rfl|rfl|rfl|rfl|rfl|rfl|rfl
 all_goals simp[XZ,p]
 all_goals first|exact⟨⟨by decide,by decide⟩,j _,rfl⟩|exact⟨j _,rfl⟩
theorem wrap64 (z:Int):In64 (IntKind.i64.wrap z):=by
 have a:=Zr z (show(18446744073709551616:Int)≠0 by decide);have b:=Zc z (show(0:Int)<18446744073709551616 by decide);have e:IntKind.i64.wrap z=if(9223372036854775808:Int)<=z%18446744073709551616 then z%18446744073709551616-18446744073709551616 else z%18446744073709551616:=by
  simp[IntKind.wrap,IntKind.bits,IntKind.signed]
 unfold In64;omega
theorem kidC {r:Rw}(M:WF v)(h:RwC s v n r)(i:Nat)(hi:i<1000):Dz 100 [.j n, .d .i64 i] v fun b w=>Gr v w/\∃W,b= .j W/\RwC s w W (kidS r i):=by
 refine Jl (aT Tryz.func100 rfl) rfl ?_;obtain⟨nv,kv,l,rfl,hk,hn,X,Y,N,Z,⟨aa,ab⟩,h4⟩:=h.A;obtain⟨n0,c⟩:=nxE v;have c1:=Y.A;have s1:=Y.B;have c2:=N.A;have s2:=N.B;have len2:=N.G;simp only[CT,Tryz.f100,XY,simprocAttr];rw[Ja];simp[XY,c,s1,s2];have ad:∀f g:Nat->Row,Gr v ((v.B f).B g)->True:=fun _ _ _=>trivial;have gg:Gr v ((v.B fun t=> .a t [.d .i64 r.A, .d .i64 r.n,nv,kv]).B fun t=> .a t [.d .i64 0, .d .i64 0, .e, .e]):=((Gr.F M).L (Jc _)).L (Jc _);by_cases Q:r.D.length=0
 ·rw[Z,Q]at len2;rw[Jd,Ja];simp only[XZ,simprocAttr,c,len2,Hb];have O:=gg.J (p:=up 1 n0) (f:=fun u=> .a u [.d .i64 (IntKind.i64.wrap (r.n+i)), .d .i64 r.A, .e, .e]) (nx0 M c 1) (by simp only[XZ,simprocAttr,c]) (by simp only[XZ,simprocAttr,c];rfl) (Jc _);refine⟨O,_,rfl, ?_⟩;rw[kidS,Xe Q];exact .mk (es:=[]) (wrap64 _) hk (fun z X=>absurd X (by simp)) (SlAt.K _ _ _) (SlAt.K _ _ _) rfl ⟨by decide,by decide⟩ fun i h=>absurd h (by simp)
 ·have x:(l.length:Int)≠0:=by omega
  rw[Jd,Ja];simp only[XY,simprocAttr,c,len2,x];have hj:i%l.length<l.length:=Hg _ (by omega);have y:(i:Int).tmod (l.length:Int)=((i%l.length:Nat):Int):=rfl;obtain⟨q,o,a1,a2,a3,a4,a5⟩:=N.H hj;have m:=h4 _ hj (by omega);obtain⟨S,T,ae,he,af,ag,ah,b1,b2,b3,b4,b5⟩:=m.A;rw[he]at a4;have c3:=b1.A;have s3:=b1.B;have c4:=b2.A;have s4:=b2.B;have oq:=fun k=>nes (Jt M c a3 k);simp only[XZ,simprocAttr,c,len2,x,y,a1,a4,s3,s4,oq];have O:=gg.J (p:=up 1 n0) (f:=fun u=> .a u [.d .i64 r.D[i%l.length].A, .d .i64 r.D[i%l.length].n,S,T]) (nx0 M c 1) (by simp[XZ,c]) (by simp[XZ,c];rfl) (Jc _);refine⟨O,_,rfl, ?_⟩;have n:∀j,j=i%r.D.length->∀U:j<r.D.length,kidS r i=r.D[j]:=by
   rintro j rfl U;rw[kidS,Xa Q]
   grind
  rw[n (i%l.length) (by rw[Z]) (by omega)];have:=m.F O;rw[he]at this;exact this
theorem fewC {r:Rw}(h:RwC s v n r):∀(k:St),Gr v k->∀c:Int,-4611686018427387904<c->c<4611686018427387904->Dz 33 [.j n, .d .i64 c] k fun b X=>Gr k X/\∃m,b= .d .i64 m/\0<=m/\(m<=c\/m=0):=by
 induction h with
 | @mk rk rn zs ks nv kv z hk hn hz Y O h3 hl h4 ih=>
 intro k Z c aa ab;have hw:=Z.D;refine Jl (aT Tryz.func33 rfl) rfl ?_;obtain⟨n0,f⟩:=nxE k;have c1:=Y.A;have s1:=Y.B;have c2:=O.A;have s2:=O.B;have len1:=Y.G;have len2:=O.G;rw[Yg]at len1;simp only[CT,Tryz.f33,XY,simprocAttr];rw[Ja];simp[XY,f,s1,s2];have gb:Gr k (k.B fun t=> .a t [.d .i64 rk, .d .i64 rn,nv,kv]):=Gr.G hw (Jc _);by_cases Q:c<=0
 ·rw[Jd,Ja];simp only[XZ,simprocAttr,Q]
  grind
 by_cases ha:(10:Int)<z.length
 ·rw[Jd,Ja];simp only[XZ,simprocAttr,Q,f,len2,ha]
  grind
 by_cases hb:(20:Int)<zs.length
 ·rw[Jd,Ja];simp only[XZ,simprocAttr,Q,f,len2,len1,ha,hb]
  grind
 rw[Jd,Ja];simp[XY,Q,f,len2,len1,ha,hb];have K:IntKind.i64.wrap (c-1)=c-1:=JX (by omega) (by omega);rw[Ja];simp[XY,K];refine Ju (fun l S=>(Gr k S/\∃m,l 1= .d .i64 m/\0<=m/\m<=c)) (fun J hJ=> ?_) ?_
 ·rw[Ja];simp[XY];refine Jo (fun j l S=>∃(i:Nat) (m t:Int),j+i=z.length/\Gr k S/\l 1= .d .i64 m/\0<=m/\m<=c/\l 2= .g (up 0 n0) 0/\l 5= .d .i64 i/\S.A (up 0 n0)= .a k.t [.d .i64 rk, .d .i64 rn,nv,kv]) z.length (by omega) ⟨0,c-1,0,by omega,gb,rfl,by omega,by omega,rfl,by rfl,by rw[<-f];exact JI _ _⟩ ?_;rintro L hL j l S ⟨i,m,_,hj,x,y,p,u,T,U,W⟩;by_cases M:i<z.length
  ·by_cases N:0<m
   ·obtain⟨q,o,a1,a2,a3,a4,a5⟩:=(O.I (Z.A x)).H M;have w:=wiN (i:=i) (by omega);simp[XZ,y,T,U,W,len2,M,N,a1,a4];refine Je (ih i M (by omega) S (Z.A x) m (by omega) (by omega)) ?_;rintro _ S' ⟨g',m',rfl,b1,b2⟩;simp[XZ,U,w];exact⟨z.length-(i+1),by omega,hL _ _ _ ⟨i+1,m',0,by omega,x.A g',rfl,b1,by omega,T,rfl,g'.B W⟩⟩
   ·simp[XZ,y,T,U,W,len2,M,N];exact hJ _ _ ⟨x,m,y,p,u⟩
  ·simp[XZ,T,U,W,len2,M];exact hJ _ _ ⟨x,m,y,p,u⟩
 rintro l S ⟨x,m,y,p,u⟩;simp only[XZ,simprocAttr,y]
 grind
end Go.Proofs.YtdajkeoobbonjaaGreat
