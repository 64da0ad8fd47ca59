/- The Maker: what is wanted. Raw nodes: not too much; how many they are then. The Maker:  -/
import Derived.Test.YtmcjecniobkggaaGreatQ8
set_option linter.constructorNameAsVariable false
set_option maxHeartbeats 64000000
set_option linter.unusedVariables false
set_option linter.unusedSimpArgs false
set_option linter.unusedSectionVars false
set_option maxRecDepth 100000
namespace Go.Proofs.YtmcjecniobkggaaGreat
open Eva Go.RowKit
variable {n b j:Pt->Prop}{t h T:List V}{k c:St}{z g:Nat}{i:List (Opn×Nat)}{r:V}{q:V->St->Prop}{p w:Pt}{f:EnvS}{l:Option (List Nat)}{m:Tb}{a:Sch}{u:Bool}{x:R10}{y:Int}{W:Table}{K:Fr}
theorem JpX {Q:Pt->Prop}{t1:Nat}(h:OpsR k n c z r)(f:∀j,n j\/k.A j= .none->Q j)(q:c.A p= .a t1 [r])(s:Q p):∃o,OprC Q c (z+1) [.d .i64 5,ofL [], .g,ofL [], .d .i64 0, .h false, .m p 0 1 1 1] o/\Yx (z+1) o:=by
 obtain⟨o,j,t,w,y,L⟩:=h;refine⟨.mk 5 [] [] [] 0 false [o::j],⟨.g,_,rfl,SlAt.K _ _ _,⟨[[r]],SlAt.J (es:=[[r]]) q s (by simp),rfl, ?_⟩⟩, ?_⟩
 ·intro i a b
  match i,a with
  |0,_=>exact⟨r,rfl,t.B (fun e x h=>h.A fun j a _=>⟨f j a,rfl⟩) fun j a _=>⟨f j a,rfl⟩⟩
 ·refine⟨⟨by simp,by simp,fun l u=> ?_⟩,fun _=>⟨by simp,fun l u=> ?_⟩,by show(5:Int)≠6;decide⟩
  ·grind
  grind
theorem OpsR.A {c S S':St}{P:Pt->Prop}{d:Nat}{v:V}(h:OpsR c P S d v)(k:∀r,P r\/c.A r= .none->S.A r≠ .none->S'.A r=S.A r):OpsR c P S' d v:=by
 obtain⟨o,r,f,g⟩:=h;exact⟨o,r,f.B (fun e x h=>h.A fun r a b=>⟨a,k r a b⟩) fun r a b=>⟨a,k r a b⟩,g⟩
theorem Jsi {E:EnvS}(hO:OfF a m)(hg:∀c∈i,jo m E c)(hN:i.length<1000)(d:Nat)(hd:d<1000)(a1:∀d',d=d'+1->∀(Y:St) (P:Pt->Prop),DT b Y j p a m->KG P Y r i->JfL Y P p r d')(Y:St)(P:Pt->Prop)(hD:DT b Y j p a m)(a2:KG P Y r i):JfL Y P p r d:=by
 intro S N re q G h;have hl:KG (fun q=>P q/\Y.A q≠ .none) Y r i:=a2.za fun q y z=>⟨⟨y,z⟩,rfl⟩
 have hw:=G.1;refine Jn tabM (aT Tryz.func34 rfl) rfl hw fun K ak=> ?_;have h0:=h;obtain⟨k,n,kv,es,rfl,hk,hn,h2,h3,bc,h4⟩:=h.B;have c2:=h2.A;have s2:=h2.B;obtain⟨n0,ar⟩:=nxE S;simp only[CT,Tryz.f34,XY,simprocAttr];rw[Ja];simp[XY,ar,s2];generalize a3:up 0 n0=p8;generalize au:up 1 n0=X;refine nm2 hw ar a3 au ?_;intro S1 G1 bd av _ ⟨t8,r8⟩ ⟨t10,r10⟩;have GG:∀{S2:St},Gr S1 S2->GrR Y S2:=fun g=>G.B (G1.B g);rw[Ja];simp[XY,r8];refine Jc (qm k 9 S1 (by decide) (by decide)) ?_;rintro _ _ ⟨rfl,rfl⟩;simp[XY];have kf:∀{S2:St} {t:Nat} {i:List V},Gr S1 S2->∀q,S.A q≠ .none->(S2.D X t fun u=> .a u i).A q=S.A q:=fun{S2 t i} g q e=>by rw[Ji _ _ _ fun x=>e (by grind),(G1.B g).d q e]
 obtain⟨w,al,be⟩:=Qe k (n:=9) (by decide);have al:k%9=(w:Nat):=al;rw[al];have bf:=G.A av;refine Jz (fun fr S'=>Gr S1 S'/\fr 0= .e p 0/\fr 1=r/\fr 2= .d .i64 N/\fr 4= .d .i64 (d:Nat)/\fr 8= .e p8 0/\fr 10= .e X 0/\fr 11= .d .i64 (w:Nat)) (fun J hJ=> ?_) ?_
 ·rw[Ja];simp[XY,r8];refine JpW hD hO hl hg hN (GG (Gr.F G1.D)) ?_;intro ce z S2 w0 w1 w2 w3 w4 w5 w6 wt G2 hb hc;obtain⟨rfl,hw⟩:=hb;obtain⟨n2,aw⟩:=nxE S2;simp[XY,hw,aw];generalize a4:up 0 n2=p9;refine nmA G2.D aw a4 ?_;intro S3 G3 bg ⟨t9,r9⟩;have g3:=G2.B G3;have r103:=g3.A r10;have ae:∀{fr:Fr},fr 0= .e p 0->fr 1=r->fr 2= .d .i64 N->fr 4= .d .i64 (d:Nat)->fr 8= .e p8 0->fr 10= .e X 0->fr 11= .d .i64 (w:Nat)->J fr S3:=fun y z c d e f g=>hJ _ _ ⟨g3,y,z,c,d,e,f,g⟩
  cases z with
  | false=>
    rw[Ja];simp[XZ];exact ae rfl rfl rfl rfl rfl rfl rfl
  | true=>
    obtain⟨L,hj,C,_⟩:=hc rfl;have ax:=QC C (hg _ (Xh hj)) d;have bb:K (.j [w0,w1,w2,w3,w4,w5,w6]) (S3.D X t10 fun u=> .a u [w0,w1,w2,w3,w4,w5,w6]):=ak _ _ (kf g3) fun g=>⟨_,_,rfl,ax.1.A fun q y z=>⟨.inl y.1,by rw[Ji _ _ _ fun e=>y.2 (by grind),G3.d q z]⟩,ax.2⟩
    by_cases bh:w<4
    ·have af:(w:Int)<4:=by omega
     rw[Ja];simp[XZ,af,r9,r103,hw];omega
    have af:¬(w:Int)<4:=by omega
    by_cases d0:d=0;rotate_left
    ·have aa:¬(d:Int)<=0:=by omega
     rw[Ja];simp only[XZ,simprocAttr,af,aa];exact ae rfl rfl rfl rfl rfl rfl rfl
    have aa:(d:Int)<=0:=by omega
    by_cases bi:w<7
    ·have am:(w:Int)<7:=by omega
     rw[Ja];simp only[XZ,simprocAttr,af,aa,am,r9,r103,hw];omega
    ·have am:¬(w:Int)<7:=by omega
     rw[Ja];simp only[XZ,simprocAttr,af,aa,am];exact ae rfl rfl rfl rfl rfl rfl rfl
 ·rintro fr S' ⟨g2,f0,f1,f2,f4,f8,ab,ay⟩;have r82:=g2.A r8;have r102:=g2.A r10;have ai:∀{ag:Fr} {Q:V->St->Prop},(∀z0 z1 z2 z3 z4 z5 z6 M,Gr S1 M->((z0.B=true/\z0.A=some [z0])/\(z1.B=true/\z1.A=some [z1])/\(z2.B=true/\z2.A=some [z2])/\(z3.B=true/\z3.A=some [z3])/\(z4.B=true/\z4.A=some [z4])/\(z5.B=true/\z5.A=some [z5])/\(z6.B=true/\z6.A=some [z6]))->K (.j [z0,z1,z2,z3,z4,z5,z6]) (M.D X t10 fun u=> .a u [z0,z1,z2,z3,z4,z5,z6])->Q (.j [z0,z1,z2,z3,z4,z5,z6]) M)->J8 (tabT tabD) false none 77 [.d .i64 N, .d .i64 n] ag S' Q:=by
   intro ag Q hQ;refine Jc (Jnq (P:=fun _=>False) (d:=d) N n g2.D) ?_;rintro _ M ⟨G5,oe,o,rfl,C,W⟩;obtain⟨z0,z1,z2,z3,z4,z5,z6,rfl,hz⟩:=JmP C;have C':=fun(a5:St)=>C.A (Q:=fun q=>P q\/Y.A q= .none) (st':=a5) fun q y z=>y.elim;exact hQ z0 z1 z2 z3 z4 z5 z6 M (g2.B G5) hz (ak _ _ (kf (g2.B G5)) fun g=>⟨_,_,rfl,C' _,W⟩)
  by_cases d0:d=0
  ·rw[Je,Ja];simp only[XY,simprocAttr,f4,d0];rw[Ja];simp only[XZ,simprocAttr,f2,f8,r82];refine ai ?_;intro z0 z1 z2 z3 z4 z5 z6 M g5 hz hK;simp[XZ,ab,g5.A r10,hz];exact hK
  have aa:¬(d:Int)<=0:=by omega
  by_cases w8:w=8
  ·have ao:(w:Int)=8:=by omega
   rw[Je,Ja];simp only[XY,simprocAttr,f4,ay,aa,ao];rw[Ja];simp only[XZ,simprocAttr,f2,f8,r82];refine ai ?_;intro z0 z1 z2 z3 z4 z5 z6 M g5 hz hK;simp[XZ,ab,g5.A r10,hz];exact hK
  have ao:¬(w:Int)=8:=by omega
  obtain⟨d,rfl⟩:∃d',d=d'+1:=⟨d-1,by omega⟩
  rw[Je,Ja];simp only[XY,simprocAttr,f4,ay,aa,ao];obtain⟨n4,az⟩:=nxE S';rw[Ja];simp only[XY,simprocAttr,az];generalize a0:up 0 n4=ad;refine nmA g2.D az a0 ?_;intro S4 G4 aj ⟨t14,r14⟩;have g4:=g2.B G4;have R4:=GG g4;have D4:DT b S4 j p a m:=hD.A R4.1 fun q u=>R4.2 q (hD.f q u);have l4:KG (fun q=>P q/\Y.A q≠ .none) S4 r i:=hl.za fun q y z=>⟨y,R4.2 q z⟩
  have W4:=a1 d rfl S4 _ D4 l4;have ap:GrR S4 S4:=⟨g4.D,fun _ _=>rfl⟩
  have h4:R9C (fun _=>True) S4 [.d .i64 k, .d .i64 n,kv] q:=h0.D (G1.B g4);have r84:=g4.A r8;have hd:d<1000:=by omega
  obtain⟨J2,ah⟩:=opE fun fr S'=>fr 10= .e X 0/\fr 14= .e ad 0/\∃(M:St) (v:V),Gr S4 M/\OpsR S4 (fun q=>P q/\Y.A q≠ .none) M (d+1) v/\v.B=true/\v.A=some [v]/\S'=M.D ad t14 fun u=> .a u [v];have cl:∀{f:Nat} {args:List V} {ag:Fr} {Q:V->St->Prop},Dz f args S4 (fun v S'=>Gr S4 S'/\OpsR S4 (fun q=>P q/\Y.A q≠ .none) S' (d+1) v)->(∀v M,Gr S4 M->OpsR S4 (fun q=>P q/\Y.A q≠ .none) M (d+1) v->v.B=true->v.A=some [v]->Q v M)->J8 (tabT tabD) false none f args ag S4 Q:=by
   intro f args ag Q h1 hQ;refine Jc h1 ?_;rintro v M ⟨G5,O⟩;have bj:v.B=true/\v.A=some [v]:=by
    obtain⟨o,q,h1,_⟩:=O;exact h1.G
   grind
  refine QE J2 ?_ ?_
  ·rw[Ja];simp[XY,f2];by_cases k2:N=2
   ·rw[Ja];simp[XZ,f0,f1,f4,f8,r84,k2];refine cl (Jua D4 hO l4 hg hN W4 hd ap h4) ?_;intro v M G5 O v1 v2;simp[XZ,G5.A r14,v1,v2];exact(ah _ _).2 ⟨ab,rfl,M,v,G5,O,v1,v2,rfl⟩
   ·rw[Ja];simp[XY,k2];by_cases k1:N=1
    ·rw[Ja];simp[XZ,f0,f1,f4,f8,r84,k1];refine cl (Jrh D4 hO l4 hg hN W4 hd ap h4) ?_;intro v M G5 O v1 v2;simp[XZ,G5.A r14,v1,v2];exact(ah _ _).2 ⟨ab,rfl,M,v,G5,O,v1,v2,rfl⟩
    ·rw[Ja];simp[XZ,f0,f1,f4,f8,r84,k1];refine cl (Jth W4 hd ap h4) ?_;intro v M G5 O v1 v2;simp[XZ,G5.A r14,v1,v2];exact(ah _ _).2 ⟨ab,rfl,M,v,G5,O,v1,v2,rfl⟩
  ·intro fr S6 a6;obtain⟨ab,a7,M,v,G5,O,v1,v2,rfl⟩:=(ah _ _).1 a6;have bk:=(GG g2).A aj;have O:=O.A (S':=M.D ad t14 fun u=> .a u [v]) fun q y z=>by
    refine Ji _ _ _ fun e=> ?_
    grind
   have g6:Gr S1 (M.D ad t14 fun u=> .a u [v]):=by
    exact(g2.B ((G4.B G5).J aj (Jb (G5.A r14)) (by rw[G5.A r14];rfl) (Jd _)))
   obtain⟨t5,r146⟩:∃t,(M.D ad t14 fun u=> .a u [v]).A ad= .a t [v]:=⟨_,Jk _ _ _ _⟩
   have R6:=GG g6;generalize (M.D ad t14 fun u=> .a u [v])=S6 at*;obtain⟨n6,aq⟩:=nxE S6;have r106:=g6.A r10;have a8:=fun k=>nes (Jr g6.D aq (Jb r106) k);rw[Ja];simp[XZ,ab,a7,r146,r106,aq,a8,v1];refine nmK (K:=fun T=>K _ (T.D X t10 fun u=> .a u _)) g6.D aq ?_;intro S7 G7 a9 ⟨t7,r7⟩;refine ak _ _ (kf (g6.B G7)) fun g=> ?_;have ba:up 0 n6≠X:=fun e=>by grind
   have O8:=O.A (S':=S7.D X t10 fun u=> .a u [.d .i64 5,ofL [], .g,ofL [], .d .i64 0, .h false, .m (up 0 n6) 0 1 1 1]) fun q y z=>by
    rw[Ji _ _ _ fun e=> ?_,G7.d q z];rcases y with y|y
    ·grind
    ·rw[e,G4.A r102]at y;cases y
   obtain⟨o,q1,q2⟩:=JpX (Q:=fun q=>P q\/Y.A q= .none) (p:=up 0 n6) (t1:=t7) O8 (fun q y=>y.elim (fun y=> .inl y.1) fun y=> .inr (R4.A y)) (by rw[Ji _ _ _ ba];exact r7) (.inr (R6.A a9))
   grind
theorem Jub {E:EnvS}(g:OfF a m)(j:∀c∈i,jo m E c)(k:i.length<1000):∀d,d<1000->∀(e:St) (P:Pt->Prop),DT n e b p a m->KG P e r i->JfL e P p r d:=by
 intro d
 induction d with
 |zero=>exact fun f=>Jsi g j k 0 f fun o h=>by omega
 | succ d q=>
   intro f;refine Jsi g j k (d+1) f fun o h=> ?_
   grind
theorem Juc {r:R9}(h:R9C n k t r):∀(f:St),Gr k f->∀c:Int,-4611686018427387904<c->c<4611686018427387904->Dz 14 [.j t, .d .i64 c] f fun v U=>Gr f U/\∃m,v= .d .i64 m/\0<=m/\(m<=c\/m=0):=by
 induction h with
 | @mk Y Z ks kv y hk hn N h3 hl h4 ih=>
 intro f W c aa ab;have hw:=W.D;refine Jl (aT Tryz.func14 rfl) rfl ?_;obtain⟨n0,g⟩:=nxE f;have c2:=N.A;have s2:=N.B;have len2:=N.G;simp only[CT,Tryz.f14,XY,simprocAttr];rw[Ja];simp[XY,g,s2];have gb:Gr f (f.B fun b=> .a b [.d .i64 Y, .d .i64 Z,kv]):=Gr.G hw (Jd _);by_cases X:c<=0
 ·rw[Je,Ja];simp only[XZ,simprocAttr,X]
  grind
 by_cases ha:(6:Int)<y.length
 ·rw[Je,Ja];simp only[XZ,simprocAttr,X,g,len2,ha]
  grind
 rw[Je,Ja];simp[XY,X,g,len2,ha];have z:IntKind.i64.wrap (c-1)=c-1:=JV (by omega) (by omega);rw[Ja];simp[XY,z];refine Jz (fun l S=>(Gr f S/\∃m,l 1= .d .i64 m/\0<=m/\m<=c)) (fun J hJ=> ?_) ?_
 ·rw[Ja];simp[XY];refine Jy (fun j l S=>∃(i:Nat) (m b:Int),j+i=y.length/\Gr f S/\l 1= .d .i64 m/\0<=m/\m<=c/\l 2= .e (up 0 n0) 0/\l 5= .d .i64 i/\S.A (up 0 n0)= .a f.t [.d .i64 Y, .d .i64 Z,kv]) y.length (by omega) ⟨0,c-1,0,by omega,gb,rfl,by omega,by omega,rfl,by rfl,by rw[<-g];exact JM _ _⟩ ?_;rintro L hL j l S ⟨i,m,_,hj,w,x,p,s,O,Q,T⟩;by_cases K:i<y.length
  ·by_cases M:0<m
   ·obtain⟨q,o,a1,a2,a3,a4,a5⟩:=(N.H (W.B w)).I K;have u:=wiN (i:=i) (by omega);simp[XZ,x,O,Q,T,len2,K,M,a1,a4];refine Jc (ih i K (by omega) S (W.B w) m (by omega) (by omega)) ?_;rintro _ S' ⟨g',m',rfl,b1,b2⟩;simp[XZ,Q,u];exact⟨y.length-(i+1),by omega,hL _ _ _ ⟨i+1,m',0,by omega,w.B g',rfl,b1,by omega,O,rfl,g'.A T⟩⟩
   ·simp[XZ,x,O,Q,T,len2,K,M];exact hJ _ _ ⟨w,m,x,p,s⟩
  ·simp[XZ,O,Q,T,len2,K];exact hJ _ _ ⟨w,m,x,p,s⟩
 rintro l S ⟨w,m,x,p,s⟩;simp only[XZ,simprocAttr,x]
 grind
theorem Jti (h:R10C n k t x):∀(z:St),Gr k z->∀p:Int,-4611686018427387904<p->p<4611686018427387904->Dz 5 [.j t, .d .i64 p] z fun v ab=>Gr z ab/\∃m,v= .d .i64 m/\0<=m/\(m=0\/m+(sz10 x:Nat)<=p):=by
 induction h with
 | @mk rk rn w ks a b c kv U hk hn h9 h2 h3 hl h4 ih=>
 intro z g0 p af ag;have hw:=g0.D;refine Jl (aT Tryz.func5 rfl) rfl ?_;obtain⟨n0,W⟩:=nxE z;have c2:=h2.A;have s2:=h2.B;have len2:=h2.G;obtain⟨f,y,kw,rfl,rfl,rfl,X⟩:∃f y kw,a= .d .i64 f/\b= .d .i64 y/\c=kw/\kw.B=true:=by
  cases h9 with
  |mk _ _ k2 _ _ _=>exact⟨_,_,_,rfl,rfl,rfl,k2.B⟩
 have ah:c.A=some [c]:=by cases c<;>first|rfl|(cases X;done)
 simp only[CT,Tryz.f5,XY,simprocAttr];rw[Ja];simp[XY,W,s2,X];refine Jmu ?_;intro Sb M;have gb:Gr z Sb:=by rw[M];exact Gr.G hw (Jd _)
 obtain⟨tb,K⟩:∃g,Sb.A (up 0 n0)= .a g [.d .i64 rk, .d .i64 rn, .d .i64 f, .d .i64 y,c,kv]:=⟨_,by rw[M];simp[XZ,W];rfl⟩
 clear M;by_cases h0:p<=0
 ·rw[Je,Ja];simp only[XZ,simprocAttr,h0]
  grind
 by_cases ha:(8:Int)<U.length
 ·rw[Je,Ja];simp only[XZ,simprocAttr,h0,K,len2,ha]
  grind
 rw[Je,Ja];simp[XY,h0,K,len2,ha];refine Jc (Juc h9 Sb (g0.B gb) 20 (by decide) (by decide)) ?_;rintro _ S2 ⟨g2,m2,rfl,_,_⟩;have ad:=g2.A K;have ae:=gb.B g2;by_cases s:m2=0
 ·simp only[XZ,simprocAttr,s]
  grind
 simp[XY,s];have Y:IntKind.i64.wrap (p-1)=p-1:=JV (by omega) (by omega);rw[Ja];simp[XY,Y];refine Jz (fun N S=>(Gr z S/\∃m,N 1= .d .i64 m/\0<=m/\(m=0\/m+(1+KM ks:Nat)<=p))) (fun J hJ=> ?_) ?_
 ·rw[Ja];simp[XY];refine Jy (fun j N S=>∃(i:Nat) (m:Int),j+i=U.length/\Gr z S/\N 1= .d .i64 m/\0<=m/\m<=p/\(m=0\/m+(1+KM (ks.take i):Nat)<=p)/\N 2= .e (up 0 n0) 0/\N 5= .d .i64 i/\S.A (up 0 n0)= .a tb [.d .i64 rk, .d .i64 rn, .d .i64 f, .d .i64 y,c,kv]) U.length (by omega) ⟨0,p-1,by omega,ae,rfl,by omega,by omega, .inr (by simp[KM]),rfl,by rfl,ad⟩ ?_;rintro L hL j N S ⟨i,m,hj,O,T,u,Z,aa,f2,f5,K⟩;by_cases hi:i<U.length
  ·by_cases s:0<m
   ·obtain⟨q,o,a1,a2,a3,a4,a5⟩:=(h2.H (g0.B O)).I hi;have Q:=wiN (i:=i) (by omega);simp[XZ,T,f2,f5,K,len2,hi,s,a1,a4];refine Jc (ih i hi (by omega) S (g0.B O) m (by omega) (by omega)) ?_;rintro _ S' ⟨g',m',rfl,b1,b2⟩;simp[XZ,f5,Q];have hq:=Jad (l:=ks) (i:=i) (by omega);exact⟨U.length-(i+1),by omega,hL _ _ _ ⟨i+1,m',by omega,O.B g',rfl,b1,by omega,by omega,f2,rfl,g'.A K⟩⟩
   ·simp[XZ,T,f2,f5,K,len2,hi,s];exact hJ _ _ ⟨O,m,T,u, .inl (by omega)⟩
  ·simp[XZ,f2,f5,K,len2,hi];rw[Xr (by omega)]at aa;exact hJ _ _ ⟨O,m,T,u,aa⟩
 rintro N S ⟨O,m,T,u,Z⟩;simp only[XZ,simprocAttr,T];exact⟨O,m,rfl,u,by rw[JhO];exact Z⟩
theorem nm2K {K:St->Prop}(f:WF k)(e:k.b=up 0 p)(c:∀S',Gr k S'->k.A (up 0 p)= .none->k.A (up 1 p)= .none->(∃d,S'.A (up 0 p)= .a d t)->(∃d,S'.A (up 1 p)= .a d h)->K S'):K ((k.B fun d=> .a d t).B fun d=> .a d h):=by
 have i:=Gr.G f (Jd t);have l:(k.B fun d=> .a d t).A (up 0 p)= .a k.t t:=Ye e _;have g:(k.B fun d=> .a d t).b=up 1 p:=by
  show up 1 k.b=_;rw[e];rfl
 have j:=Gr.G i.D (Jd h);exact c _ (i.B j) (nx0 f e 0) (nx0 f e 1) ⟨_,j.A l⟩ ⟨_,Ye g _⟩
theorem Jri {args:List V}(h:W z=W g)(a:Does W g args k q):Does W z args k q:=by
 obtain⟨v,b,c,N,d⟩:=a;refine⟨v,b,c,N+1,fun n e=> ?_⟩;have:=d n (by omega);obtain⟨n,rfl⟩:∃m,n=m+1:=⟨n-1,by omega⟩
 rw[<-this];unfold run;rw[h]
theorem Jrj {E:EnvS}{id:Nat}(h:WF k)(i:EnvC n k t E)(l:E.a.length<100000)(m:E.b.length<100000)(o:∀x∈E.b,-1<=x.1):
  Dz 82 [.j t, .d .i64 (id:Nat)] k fun v c=>Gr k c/\∃f,v= .j f/\EnvC (fun r=>n r\/k.A r= .none) c f (KJ E id):=by
 refine Jri (g:=146) ?_ (Jd5 h i l m o);rw[(aT Tryz.func82 rfl),(aT Tryz.func146 rfl)];rfl
theorem JpY {P:Pt->Prop}{S:St}:∀(d:Nat) {e:List V} {o:Opn},OprC P S d e o->fitO d o->fitO (d+1) o
 |0,_,_,h,_=>h.elim
 | d+1,_, .mk k m f y n b p,⟨z,K,_,_,L,M,N,q⟩,⟨r,s,g⟩=>⟨r,s,fun c a=>⟨(g c a).1,fun o l=>by
    obtain⟨i,t,rfl⟩:=X1 a;obtain⟨v,_,u,O,Q,w⟩:=q i (by omega) t;obtain⟨j,x,rfl⟩:=X1 l;exact JpY d (w j (by omega) x) ((g _ a).2 _ l)⟩⟩
theorem JpZ {P:Pt->Prop}{S:St}:∀(d:Nat) {e:List V} {o:Opn},OprC P S d e o->docO d o->docO (d+1) o
 |0,_,_,h,_=>h.elim
 | d+1,_, .mk k q l x n b p,⟨y,z,_,_,K,L,M,r⟩,g=>fun a=>⟨(g a).1,fun c f=>⟨((g a).2 c f).1,fun o m=>by
    obtain⟨i,s,rfl⟩:=X1 f;obtain⟨v,_,t,N,O,u⟩:=r i (by omega) s;obtain⟨j,w,rfl⟩:=X1 m;exact JpZ d (u j (by omega) w) (((g a).2 _ f).2.1 _ m),((g a).2 c f).2.2⟩⟩
def PipR (P:Pt->Prop)(S:St)(v:V):Prop:=∃p,PipC P S 3 v p/\fitP 3 p/\docP 3 p
theorem PipR.A {P Q:Pt->Prop}{S S':St}{v:V}(h:PipR P S v)(k:∀r,P r->S.A r≠ .none->Q r/\S'.A r=S.A r):PipR Q S' v:=by
 obtain⟨p,a,b⟩:=h;exact⟨p,a.A k,b⟩
theorem Jj6 {d:Nat}{e:List V}{w M:Str}{s:List Str}{p:Pipe}(N:PipC n k 2 r p)(g:Yx 3 (.mk 5 w s M y u p)):PipR n k r:=by
 obtain⟨O,Q,T,K⟩:=N;obtain⟨⟨_,U,L⟩,W,_⟩:=g;obtain⟨X,z⟩:=W rfl;have up:∀c∈p,∀o∈c,∃e,OprC n k 2 e o:=by
  intro c m o q;obtain⟨i,Y,rfl⟩:=X1 m;obtain⟨v,_,Z,a1,a2,a3⟩:=K i (by omega) Y;obtain⟨j,hj,rfl⟩:=X1 q
  grind
 have t:∀f,n f->k.A f≠ .none->n f/\k.A f=k.A f:=kR;refine⟨p,⟨O,Q,T,fun i a u=>(K i a u).A (fun e x h=>h.F) t⟩,⟨U,fun c m=>⟨(L c m).1,fun o q=> ?_⟩⟩,X,fun c m=>⟨(z c m).1,fun o q=> ?_,(z c m).2.2⟩⟩
 ·obtain⟨e,l⟩:=up c m o q;exact JpY 2 l ((L c m).2 o q)
 ·obtain⟨e,l⟩:=up c m o q;exact JpZ 2 l ((z c m).2.1 o q)
theorem Jrk {o:Opn}{t1 t2:Nat}(d:OprC n k 3 h o)(g:Yx 3 o)(u:k.A p= .a t1 h)(f:k.A w= .a t2 [.m p 0 1 7 1])(l:n p)(r:n w):PipR n k (.m w 0 1 1 1):=by
 obtain⟨v,x,y⟩:=g;refine⟨[[o]],⟨[[.m p 0 1 7 1]],SlAt.J (es:=[[.m p 0 1 7 1]]) f r (by simp),rfl,fun i a b=> ?_⟩,⟨by simp,fun c s=> ?_⟩,by simp,fun c s=> ?_⟩
 ·match i,a with
  | 0,_=>exact⟨_,rfl,[h],SlAt.J (es:=[h]) (t:=t1) (by grind) l (by simp[d.D]),rfl,fun j a b=>by
     grind⟩
 ·grind
 grind
theorem JmQ {o:Opn}(y:WF k)(h:OprC n k 3 t o)(g:Yx 3 o):
  Dz 33 [.j t] k fun v z=>Gr k z/\PipR (fun r=>n r\/k.A r= .none) z v:=by
 refine Jn tabM (aT Tryz.func33 rfl) rfl y fun K l=> ?_;have W:=h;obtain⟨c,X,L,sx,i,b,p⟩:=o;obtain⟨pv,qv,rfl,M,w⟩:=h;have d1:=M.A;have N:=M.B;have d3:=w.G.2;have O:=w.G.1;obtain⟨Y,m⟩:=nxE k;simp only[CT,Tryz.f33,XY,simprocAttr];rw[Ja];simp[XY,m,N,O];generalize x:up 0 Y=p1;refine nm1 y m x ?_;intro Q s Z ⟨t1,r1⟩;by_cases T:c=5
 ·subst T;rw[Je,Ja];simp[XZ,r1];exact l _ _ (fun r e=>s.d r e) fun u=>Jj6 (d:=0) (e:=[]) (LstAt.B w (fun _ _ h=>h.A (fun _ _ h=>OprC.A (fun r a b=>⟨.inl a,u.d r b⟩) h) (fun r a b=>⟨.inl a,u.d r b⟩)) fun r a b=>⟨.inl a,u.d r b⟩) g
 ·obtain⟨n1,q⟩:=nxE Q;rw[Je,Ja];simp[XY,r1,T];rw[Ja];simp[XZ,r1,q,N,O];refine nm2K (K:=K _) s.D q ?_;intro S2 G2 a1 a2 ⟨t2,r2⟩ ⟨t3,r3⟩;have f:∀r,Q.A r= .none->k.A r= .none:=fun r e=>s.I e;have U:=s.B G2;exact l _ _ (fun r e=>U.d r e) fun u=>Jrk (t1:=t2) (t2:=t3) (W.A fun r a b=>⟨.inl a,U.d r b⟩) g r2 r3 (.inr (f _ a1)) (.inr (f _ a2))
structure MkS (Z U:Pt->Prop) (ru rm:Pt) (s:Sch) (tb:Tb) (S:St):Prop where
 d:DT Z S U ru s tb
 c:OfF s tb
 i:s.c=[]
 f:∀nd∈tb.a,nd.b.length<=4
 e:∃t nv,S.A rm= .a t [.e ru 0,nv, .g]/\SlAt (fun _=>True) S nv 1 [[ofL [116]]]
section
variable {Z U : Pt -> Prop} {ru rm : Pt} {s : Sch} {tb : Tb} {S S' : St}
theorem MkS.F (h:MkS Z U ru rm s tb S)(g:Gr S S'):MkS Z U ru rm s tb S':=by
 refine⟨h.d.B g,h.c,h.i,h.f, ?_⟩;obtain⟨t,a,b,j⟩:=h.e;exact⟨t,a,g.A b,j.H g⟩
theorem MkS.D (h:MkS Z U ru rm s tb S)(n:Nat):MkS Z U ru rm s tb {S with a:=n}:=by
 refine⟨h.d.D (Js h.d.wf n),h.c,h.i,h.f, ?_⟩;obtain⟨t,b,g,j⟩:=h.e;exact⟨t,b,g,j.D kR⟩
end
def ju (P:Pt->Prop)(S:St)(e:List V):Prop:=∃(k:Int) (nm:Str) (pv:V),e=[.d .i64 k, .d .i64 0,ofL [],ofL nm,pv, .g, .g, .h false, .g]/\(k=2\/k=4\/k=9\/(k=3/\nm≠[]))/\PipR P S pv
theorem ju.A {P Q:Pt->Prop}{S S':St}{e:List V}(h:ju P S e)(k:∀r,P r->S.A r≠ .none->Q r/\S'.A r=S.A r):ju Q S' e:=by
 obtain⟨a,b,c,d,e,f⟩:=h;exact⟨a,b,c,d,e,f.A k⟩
theorem PipR.D (h:PipR n k r):r.B=true/\r.A=some [r]:=by
 obtain⟨p,a,_⟩:=h;exact LstAt.G a
theorem JcA {P:Pt->Prop}{o:Opn}(c:WF k)(h:OprC P k 3 t o)(g:Yx 3 o)(d:∀v S',Gr k S'->PipR (fun r=>P r\/k.A r= .none) S' v->q v S'):J8 (tabT tabD) u l 33 [.j t] K k q:=by
 cases u with
 |false=>exact Jc (JmQ c h g) fun v S' h=>d v S' h.1 h.2
 | true=>
   refine Jj (P:=fun v S'=>PipR (fun r=>P r\/k.A r= .none) S' v) (JmQ (Js c k.t) (OprC.A (st:=k) (st':={k with a:=k.t}) kR h) g) ?_;intro v S' G b;exact d v S' G (PipR.A (S:={S' with a:=k.t}) b kR)
theorem YT (w:WF k)(a n:Int)(b:0<n)(c:n<4611686018427387904)(e:∀S',Gr k S'->q (.d .i64 (a%n)) S'):J8 (tabT tabD) u l 35 [.d .i64 a, .d .i64 n] K k q:=by
 cases u with
 |false=>exact Jc (Jhd a n k b c) fun v S' h=>by obtain⟨rfl,rfl⟩:=h;exact e k (Gr.F w)
 | true=>
   refine Jj (P:=fun v _=>v= .d .i64 (a%n)) ((Jhd a n _ b c).A fun v S' h=>⟨h.2▸Gr.F (Js w k.t),h.1⟩) ?_
   grind
theorem Jd6 (h:R10C n k t x):∃(f g i y:Int) (c j:V) (w:R9) (l:List R10),t=[.d .i64 f, .d .i64 g, .d .i64 i, .d .i64 y,c,j]/\(c.B=true/\c.A=some [c])/\(j.B=true/\j.A=some [j])/\R9C n k [.d .i64 i, .d .i64 y,c] w/\Yu n k j l/\x= .mk f g w l:=by
 cases h with
 | @mk s u w l a b c j v M N p m z K L=>
   obtain⟨i,y,rfl,rfl,o⟩:∃i y,a= .d .i64 i/\b= .d .i64 y/\c.B=true/\c.A=some [c]:=by
    cases p with
    |mk _ _ q _ _ _=>exact⟨_,_,rfl,rfl,q.B,q.A⟩
   exact⟨s,u,i,y,c,j,w,l,rfl,o,⟨m.B,m.A⟩,p,⟨v,m,z,K,L⟩,rfl⟩
theorem Jtj {E:EnvS}(hM:MkS n b p w a m k)(hr:R10C (fun _=>True) k h x)(hl:KG j k r i)(hg:∀c∈i,jo m E c)(hN:i.length<1000)(hp:ju j k T):
  Dz 37 [.e w 0, .j h,r, .j T] k fun v S'=>Gr k S'/\∃e,v= .j e/\ju (fun x=>j x\/k.A x= .none) S' e:=by
 have hw:=hM.d.wf;refine Jn tabM (aT Tryz.func37 rfl) rfl hw fun K ao=> ?_;have ap:=hp;obtain⟨f,nm,pv,rfl,hk,aq⟩:=hp;obtain⟨v1,v2⟩:=aq.D;obtain⟨tm,nv,ag,ah⟩:=hM.e;have ar:=ah.G;obtain⟨rk,rn,z,y,c,kv,M,ks,rfl,⟨c1,c2⟩,⟨k1,k2⟩,h9,a9,rfl⟩:=Jd6 hr;have ab:JU r=some (.d .i64 (i.length:Nat), .a):=by
  obtain⟨es,q1,q2,_⟩:=hl;have:=q1.G
  grind
 obtain⟨n0,ai⟩:=nxE k;simp only[CT,Tryz.f37,XY,simprocAttr];rw[Ja];simp[XY,ai,v1,c1,k1];generalize au:up 0 n0=p5;generalize av:up 1 n0=p7;generalize aw:up 2 n0=p8;refine nm3 hw ai au av aw ?_;intro S1 G1 ⟨ba,bb,bc⟩ ⟨bd,be,bf⟩ ⟨t5,r5⟩ ⟨t7,r7⟩ ⟨t8,r8⟩;have M1:=hM.F G1;have aj:=G1.A ag;have aa:JU nv=some (.d .i64 1, .a):=ar;have ax:¬(1:Int)=0:=by decide
 rw[Je,Ja];simp[XY,aj,aa,ax];rw[Ja];simp[XY,r5,aj,aa];refine YT G1.D _ 1 (by decide) (by decide) ?_;intro S2 G2;have ay:rn%1=0:=Int.emod_one _;rw[ay];simp[XY];rw[Je,Ja];simp[XY];have Y:∀{S5:St} {t:Nat} {e:List V},Gr S1 S5\/Gr k S5->ju (fun x=>(j x\/k.A x= .none)/\x≠p8) S5 e->K (.j e) (S5.D p8 t fun u=> .a u e):=by
  intro S5 t e g N;have g:Gr k S5:=g.elim (fun g=>G1.B g) id;have kf:∀x,x≠p8->(S5.D p8 t fun u=> .a u e).A x=S5.A x:=fun x z=>Ji _ _ _ z;exact ao _ _ (fun x z=>by rw[kf x fun y=>z (by grind),g.d x z]) fun _=>⟨e,rfl,N.A fun x O Q=>⟨O.1,kf x O.2⟩⟩
 refine Jy (fun W fr S'=>S'=S2/\fr 0= .e w 0/\fr 2=r/\fr 5= .e p5 0/\fr 7= .e p7 0/\fr 8= .e p8 0/\fr 9= .d .i64 0/\fr 10= .d .i64 0) 1 (by omega) ⟨rfl,rfl,rfl,rfl,rfl,rfl,rfl,rfl⟩ ?_;rintro L hL W fr S' ⟨rfl,f0,f2,f5,f7,f8,f9,ad⟩;have r52:=G2.A r5;have r72:=G2.A r7;have r82:=G2.A r8;have g2:=G1.B G2;by_cases hn:0<i.length;rotate_left
 ·have ae:¬(0:Int)<i.length:=by omega
  simp only[XZ,simprocAttr,f2,f7,f8,ad,ab,ae,r72,r82,v1];exact Y (.inr g2) (ap.A fun x O Q=>⟨⟨.inl O,fun e=>Q (by grind)⟩,g2.d x Q⟩)
 have ae:(0:Int)<i.length:=by omega
 rw[Je,Ja];simp only[XY,simprocAttr,f2,ad,ab,ae];rw[Je];simp only[XY,simprocAttr];rw[Ja];simp only[XY,simprocAttr,f2,f5,ad,r52,ab];refine YT G2.D _ i.length (by omega) (by omega) ?_;intro S3 G3;obtain⟨X,hm,ak⟩:=Qe (IntKind.i64.wrap (IntKind.i64.wrap (rn.tdiv 3)+0)) hn;rw[hm];have g3:=g2.B G3;have l3:KG (fun x=>j x/\k.A x≠ .none) S3 r i:=hl.za fun x O Q=>⟨⟨O,Q⟩,g3.d x Q⟩
 obtain⟨q,o,e,a1,⟨a2,_⟩,a3,a4,a5,a6,a7⟩:=l3.A ak;obtain⟨z0,z1,z2,z3,z4,z5,z6,rfl,_,hz⟩:=Jj4 a5;obtain⟨hC,hG⟩:=QC a5 (hg _ (Xh ak)) 2;obtain⟨n3,al⟩:=nxE S3;simp[XY,a1,a4,hz,al];generalize am:up 0 n3=bg;refine nmA G3.D al am ?_;intro S4 G4 a8 ⟨t11,r11⟩;have g4:=g3.B G4;have af:=g4.A ag;have l0:JU .g=some (.d .i64 0, .a):=rfl;rw[Ja];simp[XY,f0,af,l0];obtain⟨az,a0,b1,b3,b4,b6⟩:∃x q,Jo 1 nv (.d .i64 0)=some (.e x q, .a)/\S4.A x≠ .none/\ld1 (S4.A x) q=some (ofL [116], .a)/\k.A x≠ .none:=by
  obtain⟨x,q,x1,_,x3,_,x5⟩:=ah.I (i:=0) (by decide);exact⟨x,q,x1,by rw[g4.d x x3];exact x3,by rw[g4.d x x3];grind,x3⟩
 rw[Ja];simp[XZ,f0,f9,af,b1,b4,r11];refine JcA (P:=fun x=>j x/\k.A x≠ .none) G4.D (hC.A G4.H) hG ?_;intro v S5 G5 hv;obtain⟨v3,v4⟩:=hv.D;have bh:=G5.A af;have bi:ld1 (S5.A az) a0=some (ofL [116], .a):=by rw[G5.d _ b3];exact b4
 have r85:=G5.A (G4.A (G3.A r82));simp[XZ,f8,v3,v4,r85];refine Y (.inr (g4.B G5)) ⟨9,[116],v,rfl, .inr (.inr (.inl rfl)),hv.A fun x O Q=>⟨⟨?_, ?_⟩,rfl⟩⟩
 ·rcases O with O|O
  ·grind
  ·exact .inr (g4.I O)
 ·rcases O with O|O
  ·grind
  ·exact fun e=>Jb (G4.A (G3.A r82)) (by grind)
theorem nm4 {c:C}{Q:Out->Prop}{q r u:Pt}{bs m:List V}(n:WF k)(i:k.b=up 0 p)(o:up 0 p=w)(s:up 1 p=q)(v:up 2 p=r)(L:up 3 p=u)
  (d:∀S',Gr k S'->(k.A w= .none/\k.A q= .none/\k.A r= .none/\k.A u= .none)->(w≠q/\w≠r/\w≠u/\q≠r/\q≠u/\r≠u)->(∃t,S'.A w= .a t bs)->(∃t,S'.A q= .a t h)->(∃t,S'.A r= .a t T)->(∃t,S'.A u= .a t m)->wC W z c K S' Q):wC W z c K ((((k.B fun t=> .a t bs).B fun t=> .a t h).B fun t=> .a t T).B fun t=> .a t m) Q:=by
 have j:=Gr.G n (Jd bs);have g:(k.B fun t=> .a t bs).A w= .a k.t bs:=by rw[<-o];exact Ye i _
 have M:(k.B fun t=> .a t bs).b=up 0 (up 1 p):=by
  show up 1 k.b=_;rw[i];rfl
 have l:=Ch.H (fun _=>False) j;refine nm3 (p:=q) (q:=r) (r:=u) j.D M (by rw[<-s];rfl) (by rw[<-v];rfl) (by rw[<-L];rfl) fun S' G ⟨N,O,P⟩ ⟨U,X,Y⟩ x y f=> ?_;exact d S' (j.B G) ⟨by rw[<-o];exact nx0 n i 0,l.B N,l.B O,l.B P⟩ ⟨fun e=>Jb g (by grind),fun e=>Jb g (by grind),fun e=>Jb g (by grind),U,X,Y⟩ ⟨_,G.A g⟩ x y f
structure MEnv (tb:Tb) (d:Nat) (E:EnvS):Prop where
 k:EnvK tb E
 v:E.a.length<=7
 n:E.b.length+d<=10
theorem Jp0 {s:Sch}{E:EnvS}(g:MkS n b p w s m k)(h:EnvC j k t E)(o:EnvK m E)(u:∀v S' f,Gr k S'->KG (fun r=>k.A r= .none) S' v f->(∀c∈f,jo m E c)->f.length<=60->q v S'):J8 (tabT tabD) true l 32 [.e p 0, .j t, .d .i64 2] K k q:=by
 have x:=g.D k.t;refine Jj (P:=fun v S'=>∃f,KG (fun r=>k.A r= .none) S' v f/\(∀c∈f,jo m E c)/\f.length<=60) (Jtg g.i x.d g.c (EnvC.A (st:=k) (st':={k with a:=k.t}) h kR) o 2 (by decide)) ?_;rintro v S' G ⟨f,y,z,L⟩;exact u v S' f G (KG.za (S:={S' with a:=k.t}) y kR) z L
theorem YN {c:Opn×Nat}(h:jF n k t c):∃(a:Int) (j:Str) (l:V) (o:Str) (f:Int) (b:Bool) (m:V),t=[.d .i64 a,ofL j,l,ofL o, .d .i64 f, .h b,m, .d .i64 (c.2:Nat)]/\(l.B=true/\l.A=some [l])/\(m.B=true/\m.A=some [m])/\∃i p,c.1= .mk a j i o f b p/\SlAt n k l 1 (strs i):=by
 obtain⟨u,rfl,r⟩:=h;obtain⟨⟨a,j,i,o,f,b,p⟩,g⟩:=c;obtain⟨l,m,rfl,q,s⟩:=r;exact⟨a,j,l,o,f,b,m,rfl,⟨q.B,q.A⟩,s.G,i,p,rfl,q⟩
theorem Jud {E:EnvS}{pe:List V}(hM:MkS n b p w a m k)(hr:R10C (fun _=>True) k T x)(hE:EnvC j k h E)(hK:MEnv m z E)(hp:ju j k pe):
  Dz 36 [.e w 0, .j h, .j T, .j pe] k fun v S'=>Gr k S'/\∃e,v= .j e/\ju (fun x=>j x\/k.A x= .none) S' e:=by
 have hw:=hM.d.wf;refine Jn tabM (aT Tryz.func36 rfl) rfl hw fun K a0=> ?_;have a2:=hp;obtain⟨f,nm,pv,rfl,hk,a8⟩:=hp;obtain⟨v1,v2⟩:=a8.D;obtain⟨tm,nv,ap,bp⟩:=hM.e;obtain⟨rk,rn,o,y,c,kv,N,ks,rfl,⟨c1,c2⟩,⟨k1,k2⟩,h9,bq,rfl⟩:=Jd6 hr;have a9:=hE;obtain⟨vv,br,rfl,h1,h2,e1,e2⟩:=Ki hE;have ai:=h1.G;rw[XU]at ai;have bt:=hK.v;obtain⟨n0,aq⟩:=nxE k;simp only[CT,Tryz.f36,XY,simprocAttr];rw[Ja];simp[XY,aq,v1,c1,k1,e1.1,e2.1];generalize ba:up 0 n0=p5;generalize bb:up 1 n0=p6;generalize bc:up 2 n0=p7;generalize bd:up 3 n0=p8;refine nm4 hw aq ba bb bc bd ?_;intro S1 G1 ⟨bu,bv,bw,bx⟩ _ ⟨t5,r5⟩ ⟨t6,r6⟩ ⟨t7,r7⟩ ⟨t8,r8⟩;have ae:∀{S5:St} {t:Nat} {e:List V},Gr k S5->ju (fun x=>(j x\/k.A x= .none)/\x≠p8) S5 e->K (.j e) (S5.D p8 t fun u=> .a u e):=by
  intro S5 t e g O;have kf:∀x,x≠p8->(S5.D p8 t fun u=> .a u e).A x=S5.A x:=fun x o=>Ji _ _ _ o;exact a0 _ _ (fun x o=>by rw[kf x fun y=>o (by grind),g.d x o]) fun _=>⟨e,rfl,O.A fun x W X=>⟨W.1,kf x W.2⟩⟩
 rw[Je,Ja];simp[XY];refine Jy (fun Y fr S'=>∃i:Nat,Y+i=E.a.length/\Gr S1 S'/\fr 0= .e w 0/\fr 5= .e p5 0/\fr 6= .e p6 0/\fr 7= .e p7 0/\fr 8= .e p8 0/\fr 9= .d .i64 (i:Nat)) E.a.length (by omega) ⟨0,by omega,Gr.F G1.D,rfl,rfl,rfl,rfl,rfl,by rfl⟩ ?_;rintro L hL Y fr S2 ⟨i,hj,G2,f0,f5,f6,f7,f8,f9⟩;have g2:=G1.B G2;have r52:=G2.A r5;have r62:=G2.A r6;have r72:=G2.A r7;have r82:=G2.A r8;have bz:=g2.A ap;by_cases hi:i<E.a.length;rotate_left
 ·simp[XZ,f5,f7,f8,f9,r52,ai,hi,r72,r82,v1];exact ae g2 (a2.A fun x W X=>⟨⟨.inl W,fun e=>X (by grind)⟩,g2.d x X⟩)
 have am:IntKind.i64.wrap ((i:Int)+1)=((i+1:Nat):Int):=by rw[JV (by omega) (by omega)];omega
 rw[Je,Ja];simp[XY,f5,f9,r52,ai,hi];rw[Je];simp[XY];rw[Ja];simp[XY,f5,f6,f9,r52,r62,ai];refine YT G2.D _ E.a.length (by omega) (by omega) ?_;intro S3 G3;obtain⟨aa,hm,be⟩:=Qe (IntKind.i64.wrap (rn+i)) (show 0<E.a.length by omega);rw[hm];have g3:=g2.B G3;obtain⟨rv,qv,b1,_,_,b4,_⟩:=(h1.H g3).I (i:=aa) (by grind);simp[varE]at b4;have bf:=(hK.k.b _ (Xh be)).2;generalize E.a[aa]=va at*;obtain⟨va,vt⟩:=va;simp at b4 bf;have r53:=G3.A r52;obtain⟨n3,ar⟩:=nxE S3;simp[XY,b1,b4,ar];generalize au:up 0 n3=bg;refine nmA G3.D ar au ?_;intro S4 G4 bn ⟨t10,r10⟩;have g4:=g3.B G4;have bh:=g4.A ap;have r54:=G4.A r53;rw[Ja];simp[XY,f0,f5,bh,r54];refine Jp0 (hM.F g4) (a9.A g4.H) hK.k ?_;intro lv S5 l G5 hl hg hN;have ao:JU lv=some (.d .i64 (l.length:Nat), .a):=by
  obtain⟨es,q1,q2,_⟩:=hl;have:=q1.G
  grind
 have g5:=g4.B G5;simp[XY];rw[Ja];simp[XY];have r55:=G5.A r54;have r105:=G5.A r10;have r65:=G5.A (G4.A (G3.A r62));have r85:=G5.A (G4.A (G3.A r82));obtain⟨M,aj⟩:=loE fun Y fr S'=>∃q:Nat,Y+q=l.length/\Gr S5 S'/\fr 0= .e w 0/\fr 5= .e p5 0/\fr 6= .e p6 0/\fr 7= .e p7 0/\fr 8= .e p8 0/\fr 9= .d .i64 (i:Nat)/\fr 10= .e bg 0/\fr 11=lv/\fr 12= .d .i64 (q:Nat);refine JC M l.length (by omega) ((aj _ _ _).2 ⟨0,by omega,Gr.F G5.D,f0,f5,f6,f7,f8,f9,rfl,rfl,by rfl⟩) ?_;clear f0 f5 f6 f7 f8 f9;intro j2 fr S6 bi;obtain⟨q,hq,G6,f0,f5,f6,f7,f8,f9,ab,af,ag⟩:=(aj _ _ _).1 bi;by_cases av:q<l.length;rotate_left
 ·simp[XZ,f9,af,ag,ao,av,am];exact⟨E.a.length-(i+1),by omega,hL _ _ _ ⟨i+1,by omega,G2.B (G3.B (G4.B (G5.B G6))),f0,f5,f6,f7,f8,rfl⟩⟩
 have ah:IntKind.i64.wrap ((q:Int)+1)=((q+1:Nat):Int):=by rw[JV (by omega) (by omega)];omega
 have r66:=G6.A r65;rw[Je,Ja];simp[XY,af,ag,ao,av];rw[Je];simp[XY];rw[Ja];simp[XY,f6,af,ag,r66,ao];refine YT G6.D _ l.length (by omega) (by omega) ?_;intro S7 G7;obtain⟨m2,bj,al⟩:=Qe (IntKind.i64.wrap (IntKind.i64.wrap (rn.tdiv 5)+q)) (show 0<l.length by omega);rw[bj];have bk:=G6.B G7;have l7:=hl.za (S':=S7) (Q:=fun x=>S4.A x= .none) bk.H;obtain⟨rq,oq,e,a1,_,a3,a4,a5,a6,a7⟩:=l7.A al;obtain⟨ck,aw,b0,b2,cn,cb,b3,rfl,z2,z6,bl,cp,b5,_⟩:=YN a5;obtain⟨hC,hG⟩:=QC a5 (hg _ (Xh al)) 2;obtain⟨n7,ax⟩:=nxE S7;simp[XY,a1,a4,z2,z6,ax];generalize ay:up 0 n7=b6;refine nmA G7.D ax ay ?_;intro S8 G8 bo ⟨t13,r13⟩;have ad:=G7.B G8;have r108:=ad.A (G6.A r105);by_cases ht:l[m2].2=vt;rotate_left
 ·have ak:¬((l[m2].2:Nat):Int)=(vt:Nat):=by omega
  rw[Ja];simp[XZ,ab,ag,r108,r13,ak,ah];exact⟨l.length-(q+1),by omega,(aj _ _ _).2 ⟨q+1,by omega,G6.B ad,f0,f5,f6,f7,f8,f9,ab,af,rfl⟩⟩
 have ak:((l[m2].2:Nat):Int)=(vt:Nat):=by omega
 by_cases hv:aw=va
 ·rw[Ja];simp[XZ,ab,ag,r108,r13,ak,hv,ah];exact⟨l.length-(q+1),by omega,(aj _ _ _).2 ⟨q+1,by omega,G6.B ad,f0,f5,f6,f7,f8,f9,ab,af,rfl⟩⟩
 rw[Ja];simp[XY,ab,r108,r13,ak,hv];rw[Ja];simp[XZ,ab,r108,r13];refine JcA (P:=fun x=>S4.A x= .none) G8.D (hC.A G8.H) hG ?_;intro v S9 G9 az;obtain⟨v3,v4⟩:=az.D;have r109:=G9.A r108;have g9:=g5.B (G6.B (ad.B G9));have r89:=G9.A (ad.A (G6.A r85));simp[XZ,f8,v3,v4,r89];refine ae g9 ⟨4,va,v,rfl, .inr (.inl rfl),az.A fun x W X=> ?_⟩;have bm:S4.A x= .none:=by
  rcases W with W|W
  ·exact W
  ·exact Ch.B (Ch.H (fun _=>False) (G5.B (G6.B ad))) W
 exact⟨⟨.inr (g4.I bm),fun e=>Jb (G4.A (G3.A r82)) (by grind)⟩,rfl⟩
def NodR (P:Pt->Prop)(S:St)(d B:Nat)(e:List V):Prop:=∃n,NodC P S 3 d e n/\fitN (fitP 3) d n/\docN 3 d n/\sizN d n<=B
def kz (P:Pt->Prop)(S:St)(d B:Nat)(v:V):Prop:=∃l,NodsC P S 3 d v l/\fitL (fitP 3) d l/\docL 3 d l/\sizL d l<=B
section
variable {P Q : Pt -> Prop} {S S' : St} {d B B' : Nat} {e : List V} {v : V}
theorem NodR.A (h:NodR P S d B e)(k:∀r,P r->S.A r≠ .none->Q r/\S'.A r=S.A r):NodR Q S' d B e:=by
 obtain⟨n,a,b⟩:=h;exact⟨n,a.A k,b⟩
theorem NodR.D (h:NodR P S d B e)(k:B<=B'):NodR P S d B' e:=by
 obtain⟨n,a,b,c,f⟩:=h;exact⟨n,a,b,c,by omega⟩
theorem kz.A (h:kz P S d B v)(k:∀r,P r->S.A r≠ .none->Q r/\S'.A r=S.A r):kz Q S' d B v:=by
 obtain⟨n,a,b⟩:=h;exact⟨n,a.A k,b⟩
theorem kz.F (h:kz P S d B v):v.B=true/\v.A=some [v]:=by
 obtain⟨p,a,_⟩:=h;exact LstAt.G a
theorem kz.D :kz P S d B .g:=⟨[],LstAt.F,⟨by simp,by simp⟩,(by simp[docL]),by simp[sizL]⟩
theorem JhZ {a c:V}(K:y=5\/y=6\/y=7)(i:PipR P S r)(j:kz P S d z a)(n:kz P S d g c):NodR P S (d+1) (1+z+g) [.d .i64 y, .d .i64 0,ofL [],ofL [],r,a,c, .h u, .g]:=by
 obtain⟨p,q,s,f⟩:=i;obtain⟨l,l1,l2,l3,l4⟩:=j;obtain⟨m,t,v,w,x⟩:=n;refine⟨.mk y 0 [] [] p l m u [],⟨r,a,c, .g,rfl,q,l1,t,LstAt.F⟩,⟨s,fun e=>by omega,l2,v,by simp⟩,⟨by omega,fun e=>absurd e f.1,fun e=>by omega,fun _=>f,fun e=>by omega,l3,w,(by simp)⟩, ?_⟩;show 1+(l.map (sizN d)).sum+(m.map (sizN d)).sum+0<=_;unfold sizL at l4 x;omega
theorem qn (h:ju P S e):NodR P S (d+1) 1 e:=by
 obtain⟨k,b,c,rfl,j,p,f,i,a⟩:=h;exact⟨.mk k 0 [] b p [] [] false [],⟨c, .g, .g, .g,rfl,f,LstAt.F,LstAt.F,LstAt.F⟩,⟨i,fun e=>by grind,⟨by simp,by simp⟩,⟨by simp,by simp⟩,by simp⟩,⟨by omega,fun e=>absurd e a.1,fun e=>by omega,fun _=>a,fun e=>by rfl,(by simp),(by simp),(by simp)⟩,by simp[sizN]⟩
theorem Jp1 (t:Str):NodR P S (d+1) 1 [.d .i64 1, .d .i64 0,ofL t,ofL [], .g, .g, .g, .h false, .g]:=
 ⟨.mk 1 0 t [] [] [] [] false [],⟨.g, .g, .g, .g,rfl,LstAt.F,LstAt.F,LstAt.F,LstAt.F⟩,⟨⟨by simp,(by simp)⟩,fun e=>by omega,⟨by simp,by simp⟩,⟨by simp,by simp⟩,by simp⟩,⟨by omega,fun e=> .inl rfl,fun e=>rfl,fun e=>absurd rfl e,fun e=>by omega,(by simp),(by simp),(by simp)⟩,by simp[sizN]⟩
end
def AccR {α:Type}(C:(Pt->Prop)->St->List V->α->Prop)(Q:Pt->Prop)(S0 S:St)(v:V)(z:Nat)(l:List α):Prop:=∃es,SlF S0 S v z es/\es.length=l.length/\∀i (h:i<es.length) (h':i<l.length),C (fun r=>Q r/\rowOf v≠some r) S es[i] l[i]
theorem Jp2 {α:Type}{C:(Pt->Prop)->St->List V->α->Prop}(hC:∀{P w:Pt->Prop} {k S':St} {t:List V} {x:α},C P k t x->(∀c,P c->k.A c≠ .none->w c/\S'.A c=k.A c)->C w S' t x){S0:St}{l:List α}{x:α}(K:Gr S0 k)(hn:k.b=up 0 p)(h:AccR C n S0 k r z l)(hx:C (fun c=>n c/\rowOf r≠some c) k t x)(N:t.length=z)(O:Kk t=true)(hl:l.length<1000){R:V->St->Prop}
  (f:∀S' o,Gr S0 S'->AccR C n S0 S' o z (l++[x])->(∀c,rowOf o=some c->k.A c= .none)->(∀g,k.A g≠ .none->rowOf r≠some g->S'.A g=k.A g)->R o S'):wW (appV (k.B fun j=> .a j t) z r (.m (up 0 p) 0 1 z 1)) (k.B fun j=> .a j t) R:=by
 obtain⟨T,U,W,h3⟩:=h;have q:Gr k (k.B fun j=> .a j t):=Gr.G K.D (Jd _);have s:SlAt (fun c=>c=up 0 p) (k.B fun j=> .a j t) (.m (up 0 p) 0 1 z 1) z [t]:=by
  have:=Ql (st:=k) (z:=z) (e:=t) N
  grind
 refine QG (S0:=S0) (K.B q) (U.G q) s (fun y hy=>by grind) (by simp) (by simp) (by grind) ?_;intro S' o X Y Z hk;have L:∀c,rowOf o=some c->k.A c= .none:=fun c u=>by
  rw[Z]at u;injection u with u;have:=J9 q.D;rw[u]at this;exact q.I this
 have M:∀g,k.A g≠ .none->rowOf r≠some g->S'.A g=k.A g:=fun g a b=>(hk g (by rw[q.d g a];exact a) b).trans (q.d g a);have kk:∀c,(n c/\rowOf r≠some c)->k.A c≠ .none->(n c/\rowOf o≠some c)/\S'.A c=k.A c:=fun c a b=>⟨⟨a.1,fun t=>b (L c t)⟩,M c b a.2⟩
 refine f S' o X ⟨T++[t],Y,by simp[W],fun i a b=> ?_⟩ L M
 grind
def AccO {α:Type}(C:(Pt->Prop)->St->List V->α->Prop)(Q:Pt->Prop)(S:St)(v:V)(z:Nat)(l:List α):Prop:=∃es,KL S v z es/\es.length=l.length/\∀i (h:i<es.length) (h':i<l.length),C (fun r=>Q r/\rowOf v≠some r) S es[i] l[i]
theorem JmR {α:Type}{C:(Pt->Prop)->St->List V->α->Prop}(hC:∀{P u:Pt->Prop} {k S':St} {t:List V} {x:α},C P k t x->(∀f,P f->k.A f≠ .none->u f/\S'.A f=k.A f)->C u S' t x){l:List α}{x:α}(y:WF k)(K:k.b=up 0 p)(h:AccO C n k r z l)(U:C (fun f=>n f/\rowOf r≠some f) k t x)(L:t.length=z)(s:Kk t=true)(W:l.length<1000){R:V->St->Prop}
  (g:∀S' q,Ch (fun j=>rowOf r=some j) k S'->AccO C n S' q z (l++[x])->(∀f,rowOf q=some f->k.A f= .none)->R q S'):wW (appV (k.B fun o=> .a o t) z r (.m (up 0 p) 0 1 z 1)) (k.B fun o=> .a o t) R:=by
 obtain⟨M,N,O,X⟩:=h;refine Jay y K N L s (by omega) ?_;intro S' q c T w;have Y:∀f,(n f/\rowOf r≠some f)->k.A f≠ .none->(n f/\rowOf q≠some f)/\S'.A f=k.A f:=fun f a b=>⟨⟨a.1,fun t=>b (w f t)⟩,c.d f b a.2⟩
 refine g S' q c ⟨M++[t],T,by simp[O],fun i a b=> ?_⟩ w
 grind
theorem AccO.D {α:Type}{C:(Pt->Prop)->St->List V->α->Prop}{Q:Pt->Prop}:AccO C Q k .g z ([]:List α):=⟨[],KL.F _ _,rfl,fun i h=>absurd h (XO _)⟩
theorem AccO.A {α:Type}{C:(Pt->Prop)->St->List V->α->Prop}(hC:∀{P c:Pt->Prop} {S S':St} {e:List V} {x:α},C P S e x->(∀r,P r->S.A r≠ .none->c r/\S'.A r=S.A r)->C c S' e x){Q:Pt->Prop}{S S':St}{v:V}{z:Nat}{l:List α}(h:AccO C Q S v z l)(k:∀r,(Q r\/rowOf v=some r)->S.A r≠ .none->S'.A r=S.A r):AccO C Q S' v z l:=by
 obtain⟨f,d,g,j⟩:=h;exact⟨f,d.B fun r e=>k r (.inr e) (d.A e),g,fun i a b=>hC (j i a b) fun r p q=>⟨p,k r (.inl p.1) q⟩⟩
theorem AccO.F {α:Type}{C:(Pt->Prop)->St->List V->α->Prop}{l:List α}(h:AccO C n k r z l):r.B=true/\r.A=some [r]:=by
 obtain⟨b,a,_⟩:=h;exact⟨a.D.B,a.D.A⟩
def CasR (d B:Nat)(P:Pt->Prop)(S:St)(e:List V)(c:Str×List Nod):Prop:=CasC (NodC P S 3 d) P S e c/\fitL (fitP 3) d c.2/\docL 3 d c.2/\sizL d c.2<=B
theorem CasR.A {d B:Nat}{P Q:Pt->Prop}{S S':St}{e:List V}{c:Str×List Nod}(h:CasR d B P S e c)(k:∀r,P r->S.A r≠ .none->Q r/\S'.A r=S.A r):CasR d B Q S' e c:=⟨h.1.A (fun _ _ h=>NodC.A k h) k,h.2⟩
theorem Jtk {B:Nat}(a:Str)(h:kz n k z B r):∃c,CasR z B n k [ofL a,r] c:=by
 obtain⟨l,b,e⟩:=h;exact⟨(a,l),⟨r,rfl,b⟩,e⟩
theorem Jk5 {α:Type}{f:α->Nat}{b:Nat}:∀{l:List α},(∀x∈l,f x<=b)->(l.map f).sum<=l.length*b
 |[],_=>by simp
 | a::r,h=>by
   have d:=h a (Xu ..);have e:=Jk5 fun x c=>h x (Xl _ c);rw[XV,Gu,XJ,ZS];omega
theorem Jnr {o:Nat}{v t:V}{s:List (Str×List Nod)}(L:PipR n k r)(M:kz n k z o v)(q:AccO (CasR z g) n k t 2 s)(N:∀j,rowOf t=some j->n j)(O:s.length<=4):NodR n k (z+1) (1+4*g+o) [.d .i64 8, .d .i64 0,ofL [],ofL [],r, .g,v, .h u,t]:=by
 obtain⟨p,Q,T,w⟩:=L;obtain⟨m,U,W,X,Y⟩:=M;obtain⟨Z,c1,c2,K⟩:=q;have hC:∀c∈s,fitL (fitP 3) z c.2/\docL 3 z c.2/\sizL z c.2<=g:=fun c q=>by
  obtain⟨i,hi,rfl⟩:=X1 q;exact(K i (by omega) hi).2
 refine⟨.mk 8 0 [] [] p [] m u s,⟨r, .g,v,t,rfl,Q,LstAt.F,U,Z,c1.D.D fun j a g=>⟨N j a,rfl⟩,c2,fun i x y=>(K i x y).1.A (fun _ _ h=>NodC.A (fun j a g=>⟨a.1,rfl⟩) h) fun j a g=>⟨a.1,rfl⟩⟩,⟨T,fun e=>by omega,⟨by simp,by simp⟩,W,by omega,fun c q=>(hC c q).1⟩,⟨by omega,fun e=>absurd e w.1,fun e=>by omega,fun _=>w,fun e=>rfl,by simp,X,fun c q=>(hC c q).2.1⟩, ?_⟩;have hs:=Jk5 (f:=fun c:Str×List Nod=>(c.2.map (sizN z)).sum) (b:=g) (l:=s) fun c q=>(hC c q).2.2;have h4:s.length*g<=4*g:=Zb _ O;show 1+0+(m.map (sizN z)).sum+(s.map fun c=>(c.2.map (sizN z)).sum).sum<=_;unfold sizL at Y;omega
theorem QD {args:List V}{P:V->St->Prop}(h:∀n,WF {k with a:=n}->Does W z args {k with a:=n} fun v S'=>Gr {k with a:=n} S'/\P v S')(c:WF k)(d:∀v S' n,P v S'->P v {S' with a:=n})(e:∀v S',Gr k S'->P v S'->q v S'):J8 W u l z args K k q:=by
 cases u with
 |false=>exact Jc (h k.a c) fun v S' b=>e v S' b.1 b.2
 | true=>
   refine Jj (P:=fun v S'=>P v {S' with a:=k.a}) ((h k.t (Js c k.t)).A fun v S' b=>⟨b.1,d v S' _ b.2⟩) ?_;intro v S' G b;exact e v S' G (d v {S' with a:=k.a} S'.a b)
def Jda (Z U:Pt->Prop)(ru rm:Pt)(s:Sch)(tb:Tb)(d:Nat):Prop:=∀(S:St) (P:Pt->Prop) (e:List V) (E:EnvS) (rv:V) (rs:List R10),MkS Z U ru rm s tb S->EnvC P S e E->MEnv tb d E->Yu (fun _=>True) S rv rs->Dz 7 [.e rm 0, .j e,rv, .d .i64 (d:Nat)] S fun v S'=>Gr S S'/\kz (fun r=>P r\/S.A r= .none) S' (d+1) (4^d*KM rs) v
section
variable {Z U P : Pt -> Prop} {ru rm : Pt} {s : Sch} {tb : Tb} {S : St} {E : EnvS} {e : List V} {mk : Bool} {ow : Option (List Nat)} {fr : Fr} {Q : V -> St -> Prop}
theorem JbL (H:Jda Z U ru rm s tb z)(c:MkS Z U ru rm s tb S)(f:EnvC P S e E)(i:MEnv tb z E){b:List R10}(k:Yu (fun _=>True) S r b)(l:∀v S',Gr S S'->kz (fun a=>P a\/S.A a= .none) S' (z+1) (4^z*KM b) v->v.B=true->v.A=some [v]->Q v S'):J8 (tabT tabD) mk ow 7 [.e rm 0, .j e,r, .d .i64 (z:Nat)] fr S Q:=by
 refine QD (P:=fun v S'=>kz (fun a=>P a\/S.A a= .none) S' (z+1) (4^z*KM b) v) (fun n w=>H _ P e E r b (c.D n) (f.A kR) i (k.A kR)) c.d.wf (fun v S' n h=>h.A kR) fun v S' g h=>l v S' g h h.F.1 h.F.2
theorem Jh0 {id:Nat}(f:WF S)(i:EnvC P S e E)(b:EnvK tb E)(o:∀a S',Gr S S'->EnvC (fun r=>P r\/S.A r= .none) S' a (KJ E id)->Q (.j a) S'):J8 (tabT tabD) mk ow 82 [.j e, .d .i64 (id:Nat)] fr S Q:=by
 refine QD (P:=fun v S'=>∃a,v= .j a/\EnvC (fun r=>P r\/S.A r= .none) S' a (KJ E id)) (fun n w=>Jrj w (i.A kR) b.e b.d fun x k=>(b.c x k).1) f (fun v S' n h=> ?_) fun v S' g h=> ?_
 ·obtain⟨a,l,m⟩:=h;exact⟨a,l,m.A kR⟩
 grind
theorem atT {id:Nat}(f:MkS Z U ru rm s tb S)(hid:id<tb.a.length)(m:∀S' x y,Gr S S'->SlAt (fun r=>U r\/Z r) S' x 1 (strs (Jg tb id).b)->SlAt (fun r=>U r\/Z r) S' y 1 (ints (Jg tb id).c)->Q (.j [.d .i64 (Jg tb id).a,ofL (Jg tb id).d,x,y]) S'):J8 (tabT tabD) mk ow 81 [.e ru 0, .d .i64 (id:Nat)] fr S Q:=by
 refine QD (P:=fun v S'=>∃x y,v= .j [.d .i64 (Jg tb id).a,ofL (Jg tb id).d,x,y]/\SlAt (fun r=>U r\/Z r) S' x 1 (strs (Jg tb id).b)/\SlAt (fun r=>U r\/Z r) S' y 1 (ints (Jg tb id).c)) (fun n w=>(atD (f.d.D w) f.c hid).A fun v S' h=> ?_) f.d.wf (fun v S' n h=> ?_) fun v S' g h=> ?_
 ·omega
 ·obtain⟨x,y,i,k,l⟩:=h;exact⟨x,y,i,k.D kR,l.D kR⟩
 grind
theorem Jsj (k:MkS Z U ru rm s tb S)(m:KG P S r i)(p:∀c∈i,jo tb E c)(q:i.length<1000){b:R9}(u:R9C (fun _=>True) S t b)(L:∀f o S',Gr S S'->OprC (fun b=>P b\/S.A b= .none) S' 3 f o->Yx 3 o->Q (.j f) S'):J8 (tabT tabD) mk ow 34 [.e ru 0,r, .d .i64 y, .j t, .d .i64 2] fr S Q:=by
 refine QD (P:=fun v S'=>∃f o,v= .j f/\OprC (fun b=>P b\/S.A b= .none) S' 3 f o/\Yx 3 o) (fun n w=>Jub k.c p q 2 (by decide) _ P (k.d.D w) (m.za kR) _ y t b ⟨w,fun _ _=>rfl⟩ (u.A kR)) k.d.wf (fun v S' n h=> ?_) fun v S' g h=> ?_
 ·obtain⟨f,o,x,z,K⟩:=h;exact⟨f,o,x,OprC.A (st:=S') (st':={S' with a:=n}) kR z,K⟩
 grind
theorem Jue (b:WF S)(c:EnvC P S e E)(f:EnvK tb E)(a:Str)(i:∀S',Gr S S'->Q (.d .i64 (QK E a)) S'):J8 (tabT tabD) mk ow 73 [.j e,ofL a] fr S Q:=by
 refine QD (P:=fun v _=>v= .d .i64 (QK E a)) (fun n w=>findD w (c.A kR) f.e a) b (fun v S' n h=>h) fun v S' g h=> ?_
 grind
theorem Jp3 (g:MkS Z U ru rm s tb S)(m:KG P S r i)(o:∀c∈i,jo tb E c)(q:i.length<1000){n:Int}(u:∀k b S' v w x z K L M t,Gr S S'->Box8 k v w x z K L M t->(b=true->∃f,∃h:f<i.length,jF P S' k i[f]/\(Jg tb i[f].2).a=y)->Q (.p [.j k, .h b]) S'):J8 (tabT tabD) mk ow 76 [.e ru 0,r, .d .i64 y, .d .i64 n] fr S Q:=by
 cases mk with
 |false=>exact JpW g.d g.c m o q ⟨g.d.wf,fun _ _=>rfl⟩ u
 |true=>exact Jsh g.d g.c m o q ⟨g.d.wf,fun _ _=>rfl⟩ u
end
theorem MEnv.A {E:EnvS}(h:MEnv m (z+1) E){id:Nat}(f:id<m.a.length):MEnv m z (KJ E id):=by
 have g:(KJ E id).b.length<=E.b.length:=ZX _ _;have i:=h.n;have j:=h.k.d;exact⟨⟨f,h.k.b,fun x a=>h.k.c x ((Hf.1 a).1),h.k.e,by omega⟩,h.v,by omega⟩
theorem MEnv.F {E:EnvS}(h:MEnv m (z+1) E):MEnv m z E:=⟨h.k,h.v,by have:=h.n;omega⟩
theorem MEnv.D {E:EnvS}(h:MEnv m (z+1) E){x:Int×List Str×Nat}(g: -1<=x.1/\x.2.1.length<100000/\x.2.2<m.a.length):MEnv m z (KB E x):=by
 have i:=h.n;have e:(KB E x).b.length=E.b.length+1:=by simp[KB]
 refine⟨⟨h.k.f,h.k.b,fun y a=> ?_,h.k.e,by omega⟩,h.v,by omega⟩;rcases Xy.1 a with a|a
 ·exact h.k.c y a
 ·rw[Xn.1 a];exact g
theorem Jp4 {P:Pt->Prop}{e:List R10}(h:Yu P c r e)(k:Nat)(p:k<=e.length):∃f g,QV c 6 r none (some (.d .i64 (k:Nat))) none=some (f, .a)/\QV c 6 r (some (.d .i64 (k:Nat))) none none=some (g, .a)/\Yu P c f (e.take k)/\Yu P c g (e.drop k):=by
 obtain⟨q,j,l,s,m⟩:=h;obtain⟨f,n,o,_⟩:=JeZ j (k:=k) (by omega);obtain⟨g,o1,o2,_⟩:=Je0 j (k:=k) (by omega);refine⟨f,g,n,o1,⟨_,o,by simp[l],by simp;omega,fun i a b=> ?_⟩,⟨_,o2,by simp[l],by simp;omega,fun i a b=> ?_⟩⟩
 ·simp;exact m i _ _
 ·simp;exact m _ _ _
theorem MkS.A {Z U:Pt->Prop}{g j:Pt}{s:Sch}{l:Tb}{S S':St}(h:MkS Z U g j s l S)(w:WF S')(k:∀r,S.A r≠ .none->S'.A r=S.A r):MkS Z U g j s l S':=by
 refine⟨h.d.A w fun r u=>k r (h.d.f r u),h.c,h.i,h.f, ?_⟩;obtain⟨t,n,m,o⟩:=h.e;exact⟨t,n,by rw[k _ (Jb m)];exact m,o.D fun r a b=>⟨a,k r b⟩⟩
theorem nmWK {K:St->Prop}(d:WF k)(c:k.A p= .a z t)(b:∀S',Ch (fun r=>r=p) k S'->(∃z,S'.A p= .a z h)->K S'):K (k.D p z fun u=> .a u h):=
 b _ ((Ch.G _ d).J (Jb c) (by rw[c];rfl) (.inl rfl) (Jd _)) ⟨_,Jk _ _ _ _⟩
theorem _root_.Eva.EnvC.D {c:V}{E:EnvS}(h:EnvC n k [.d .i64 y,r,c] E):LstAt (NarC n k) n k c 3 E.b:=by
 obtain⟨a,b,e,g,f⟩:=h;simp at e;obtain⟨_,rfl,rfl,_⟩:=e;exact f
theorem nmW2 {c:C}{Q:Out->Prop}{t:Nat}{d:List V}(j:WF k)(g:k.A p= .a t h)(b:∀S',Ch (fun r=>r=p) k S'->(∃t,S'.A p= .a t d)->wC W z c K S' Q):wC W z c K ((k.D p t fun u=> .a u T).D p k.t fun u=> .a u d) Q:=by
 have i:=(Ch.G (fun r=>r=p) j).J (f:=fun u=> .a u T) (t:=t) (Jb g) (by rw[g];rfl) (.inl rfl) (Jd _);have r1:(k.D p t fun u=> .a u T).A p= .a k.t T:=Jk _ _ _ _;exact nmW i.D r1 fun S' C e=>b S' (i.A C fun r w=> .inl w) e
theorem Jrl {P:Pt->Prop}{E:EnvS}{pe:List V}(H:Jda b j p w a m z)(hM:MkS b j p w a m k)(hr:R10C (fun _=>True) k T x)(hE:EnvC P k h E)(hK:MEnv m (z+1) E)(hl:KG P k r i)(hg:∀c∈i,jo m E c)(hN:i.length<=60)(gm:0<i.length)(hp:ju P k pe):
  Dz 38 [.e w 0, .j h, .j T, .d .i64 ((z+1:Nat):Nat), .d .i64 y,r, .j pe] k fun v S'=>Gr k S'/\∃e,v= .j e/\NodR (fun x=>P x\/k.A x= .none) S' (z+2) (4^(z+1)*sz10 x) e:=by
 have hw:=hM.d.wf;refine Jn tabM (aT Tryz.func38 rfl) rfl hw fun K ew=> ?_;have gn:=hp;obtain⟨L,nm,pv,rfl,hk,go⟩:=hp;obtain⟨v1,v2⟩:=go.D;obtain⟨tm,nv,ex,iw⟩:=hM.e;obtain⟨rk,rn,M,N,c,kv,O,ks,rfl,⟨c1,c2⟩,⟨k1,k2⟩,h9,ey,rfl⟩:=Jd6 hr;have ez:=hE;obtain⟨vv,gp,rfl,h1,h2,e1,e2⟩:=Ki hE;have io:=hK.n;have gq:JU r=some (.d .i64 (i.length:Nat), .a):=by
  obtain⟨es,q1,q2,_⟩:=hl;have:=q1.G
  rwa [q2]at this
 have gr:JU kv=some (.d .i64 (ks.length:Nat), .a)/\ks.length<2^63:=by
  obtain⟨es,q1,q2,q3,_⟩:=ey;have:=q1.G;rw[q2]at this;exact⟨this,q3⟩
 have b9:IntKind.i64.wrap (((z+1:Nat):Int)-1)=((z:Nat):Int):=by rw[JV (by omega) (by omega)];omega
 obtain⟨n0,e3⟩:=nxE k;simp only[CT,Tryz.f38,XY,simprocAttr];rw[Ja];simp only[XY,simprocAttr,e3,v1,c1,k1,e1.1,e2.1];generalize gs:up 0 n0=p8;generalize gt:up 1 n0=p9;generalize e4:up 2 n0=e5;generalize e6:up 3 n0=bb;refine nm4 hw e3 gs gt e4 e6 ?_;intro S1 G1 ⟨ix,iy,ip,dh⟩ _ ⟨t8,r8⟩ ⟨t9,r9⟩ ⟨t13,r13⟩ ⟨t14,r14⟩;obtain⟨n1,dt⟩:=nxE S1;have o9:=fun L=>nes (Jr G1.D dt (Jb r9) L);obtain⟨he,gu⟩:∃he:Bool,he=decide (rn.tmod 3=0):=⟨_,rfl⟩
 rw[Ja];simp only[XY,simprocAttr,r9,dt,<-gu];generalize e7:up 0 n1=aj;refine nmA G1.D dt e7 ?_;intro S2 G2 bq ⟨t15,r15⟩;have g2:=G1.B G2;have hq:IntKind.i64.wrap (((ks.length:Nat):Int).tdiv 2)=((ks.length/2:Nat):Int):=by
  have:((ks.length:Nat):Int).tdiv 2=((ks.length/2:Nat):Int):=rfl;rw[this,JV (by omega) (by omega)]
 have r92:=G2.A r9;rw[Ja];simp only[XY,simprocAttr,r92,gr.1,hq];obtain⟨bv,ov,gv,gw,gx,gy⟩:=Jp4 (P:=fun x=>k.A x≠ .none) (ey.A fun x W Y=>⟨Y,g2.d x Y⟩) (ks.length/2) (by omega);have gz:KM (ks.take (ks.length/2))+KM (ks.drop (ks.length/2))=KM ks:=by rw[<-JcZ,XW]
 rw[JhO,<-gz]at ew;generalize ks.take (ks.length/2)=kb at*;generalize ks.drop (ks.length/2)=ko at*;rw[Ja];simp only[XY,simprocAttr,r92,gv,gw];have r142:=G2.A r14;have ax:bb≠aj:=fun e=>Jb r14 (by rw[e];exact bq);obtain⟨Q,hQ⟩:∃Q:Pt->Prop,∀x,Q x<->(P x\/k.A x= .none)/\x≠bb/\x≠aj:=⟨fun x=>(P x\/k.A x= .none)/\x≠bb/\x≠aj,fun x=>Iff.rfl⟩
 have b6:k.A aj= .none:=G1.I bq;have ao:∀{S':St},Ch (fun x=>x=aj) S2 S'->∀x,k.A x≠ .none->S'.A x=k.A x:=fun{S'} aa x W=>by
  rw[aa.d x (by rw[g2.d x W];exact W) fun e=>W (by rw[e];exact b6),g2.d x W]
 have i0:∀{S':St},Ch (fun x=>x=aj) S2 S'->∀x,k.A x= .none->S2.A x≠ .none->x≠aj->S'.A x=S2.A x:=fun{S'} aa x _ Y c=>aa.d x Y c;have aw:∀{S':St} {P':Pt->Prop},Ch (fun x=>x=aj) S2 S'->S'.A aj≠ .none->(∀x,P' x->Q x)->∀x,(P' x\/S'.A x= .none)->Q x:=fun{S' P'} g c6 aa x W=>by
  rcases W with W|W
  ·exact aa x W
  ·exact(hQ x).2 ⟨.inr (g2.I (g.B W)),fun e=>by
    rw[e,g.d bb (Jb r142) ax]at W;exact Jb r142 W,fun e=>c6 (by rw[<-e];exact W)⟩
 have PQ:∀x,P x/\k.A x≠ .none->Q x:=fun x W=>(hQ x).2 ⟨.inl W.1,fun e=>W.2 (by rw[e];exact dh),fun e=>W.2 (by rw[e];exact b6)⟩;have du:∀x,Q x->x≠aj:=fun x W=>((hQ x).1 W).2.2;have a8:∀{S':St} {t B:Nat} {e:List V},Ch (fun x=>x=aj) S2 S'->NodR Q S' (z+2) B e->B<=4^(z+1)*(1+(KM kb+KM ko))->K (.j e) (S'.D bb t fun u=> .a u e):=by
  intro S' t B e g aa hB;have kf:∀x,x≠bb->(S'.D bb t fun u=> .a u e).A x=S'.A x:=fun x M=>Ji _ _ _ M;exact ew _ _ (fun x M=>by rw[kf x fun N=>M (by rw[N];exact dh),ao g x M]) fun _=>⟨e,rfl,(aa.A fun x W Y=>⟨((hQ x).1 W).1,kf x ((hQ x).1 W).2.1⟩).D hB⟩
 obtain⟨X,hX⟩:∃X,X=4^z:=⟨_,rfl⟩
 have i1:1<=X:=by rw[hX];exact Nat.one_le_pow _ _ (by decide)
 have bnd:∀W Y:Nat,1+4^z*W+4^z*Y<=4^(z+1)*(1+(W+Y)):=fun W Y=>by
  rw[Hu,<-hX];have e:X*(1+(W+Y))=X+X*W+X*Y:=by rw[GN,GN,Gf];omega
  rw[Hs,e];omega
 have g0:∀W Y:Nat,1+4*(4^z*W)+4^z*Y<=4^(z+1)*(1+(W+Y)):=fun W Y=>by
  rw[Hu,<-hX];have e:X*(1+(W+Y))=X+X*W+X*Y:=by rw[GN,GN,Gf];omega
  rw[Hs,e];omega
 refine Jz (fun fr S'=>fr 0= .e w 0/\fr 3= .d .i64 ((z+1:Nat):Nat)/\fr 4= .d .i64 y/\fr 5=r/\fr 8= .e p8 0/\fr 9= .e p9 0/\fr 13= .e e5 0/\fr 14= .e bb 0/\fr 15= .e aj 0/\fr 17=bv/\Ch (fun x=>x=aj) S2 S'/\∃ev t,kz Q S' (z+1) (4^z*KM ko) ev/\ev.B=true/\ev.A=some [ev]/\S'.A aj= .a t [.d .i64 0, .d .i64 0,ofL [],ofL [], .g, .g,ev, .h he, .g]) (fun J hJ=> ?_) ?_
 ·cases he with
  | false=>
    rw[Ja];simp only[XZ,simprocAttr,r15];exact hJ _ _ ⟨rfl,rfl,rfl,rfl,rfl,rfl,rfl,rfl,rfl,rfl,Ch.G _ g2.D, .g,t15,kz.D,rfl,rfl,r15⟩
  | true=>
    rw[Ja];simp only[XZ,simprocAttr,r15,G2.A r8,b9];refine JbL (P:=fun x=>P x/\k.A x≠ .none) H (hM.F g2) (ez.A fun x W Y=>⟨⟨W,Y⟩,g2.d x Y⟩) hK.F (gy.A fun x W Y=>⟨trivial,rfl⟩) ?_;intro ev S3 G3 ca br dv;have r153:=G3.A r15;simp only[XZ,simprocAttr,r153,br,dv];refine nmWK (K:=J _) G3.D r153 ?_;intro S4 C4 ⟨t,r154⟩;exact hJ _ _ ⟨rfl,rfl,rfl,rfl,rfl,rfl,rfl,rfl,rfl,rfl,(Ch.H _ G3).A C4 fun x O=> .inl O,ev,t,ca.A fun x W Y=>⟨aw (Ch.G _ g2.D) (Jb r15) PQ x W,C4.d x Y (du x (aw (Ch.G _ g2.D) (Jb r15) PQ x W))⟩,br,dv,r154⟩
 ·rintro fr S3 ⟨f0,f3,f4,f5,f8,f9,c7,ay,aq,a3,C3,ev,t3,ca,br,dv,r153⟩;have M3:=hM.A C3.D (ao C3);rw[Je];simp only[XY,simprocAttr];have lf:∀{S' dw:St},Ch (fun x=>x=aj) S' dw->∀x,Q x->S'.A x≠ .none->Q x/\dw.A x=S'.A x:=fun{S' dw} aa x W Y=>⟨W,aa.d x Y (du x W)⟩
  have ai:∀{S':St} {ab:Pt} {t:Nat} {i:List V},Ch (fun x=>x=aj) S2 S'->S2.A ab= .a t i->ab≠aj->S'.A ab= .a t i:=fun{S' ab t i} aa e n=>(aa.d ab (Jb e) n).trans e;have bi:p8≠aj:=fun e=>Jb r8 (by rw[e];exact bq);have bj:p9≠aj:=fun e=>Jb r9 (by rw[e];exact bq);have cd:e5≠aj:=fun e=>Jb r13 (by rw[e];exact bq);have r82:=G2.A r8;have r132:=G2.A r13;have bk:=g2.A ex;have bl:w≠aj:=fun e=>Jb ex (by rw[e];exact b6);have lT:∀{S':St},Ch (fun x=>x=aj) S2 S'->KG (fun x=>P x/\k.A x≠ .none) S' r i:=fun{S'} aa=>hl.za fun x W Y=>⟨⟨W,Y⟩,ao aa x Y⟩
  have eT:∀{S':St},Ch (fun x=>x=aj) S2 S'->EnvC (fun x=>P x/\k.A x≠ .none) S' [.d .i64 (E.c:Nat),vv,gp] E:=fun{S'} aa=>ez.A fun x W Y=>⟨⟨W,Y⟩,ao aa x Y⟩
  have bT:∀{S':St},Ch (fun x=>x=aj) S2 S'->Yu (fun _=>True) S' bv kb:=fun{S'} aa=>gx.A fun x W Y=>⟨trivial,by rw[ao aa x W,g2.d x W]⟩
  by_cases k7:y<=7
  ·rw[Ja];simp only[XY,simprocAttr,f4,k7];rw[Ja];simp only[XY,simprocAttr,aq,r153];refine nmW C3.D r153 ?_;intro S4 bt ⟨t4,r154⟩;have C4:=C3.A bt fun x O=> .inl O;have bu:=ca.A (lf bt);have bz:=ai C4 bk bl;have r94:=ai C4 r92 bj;rw[Ja];simp only[XY,simprocAttr,f0,f5,f9,bz,r94];refine Jp3 (hM.A C4.D (ao C4)) (lT C4) hg (by omega) ?_;intro ce Y S5 w0 w1 w2 w3 w4 w5 w6 wt G5 hb hc;obtain⟨rfl,hw⟩:=hb;obtain⟨n5,bc⟩:=nxE S5;simp only[XY,simprocAttr,hw,bc];generalize e8:up 0 n5=fa;refine nmA G5.D bc e8 ?_;intro S6 G6 fb ⟨t19,r19⟩;have a6:=G5.B G6;have C6:=C4.I a6;have di:=bu.A (lf (Ch.H _ a6));have b0:=a6.A bz;have r96:=a6.A r94;have r156:=a6.A r154;by_cases fc:Y=true/\¬rn.tmod 2=0;rotate_left
   ·have av:Y=false\/(Y=true/\rn.tmod 2=0):=by
     cases Y with
     |false=>exact .inl rfl
     |true=>exact .inr ⟨rfl,ZY.1 fun aa=>fc ⟨rfl,aa⟩⟩
    rcases av with rfl|⟨rfl,hz⟩
    rw[Je,Ja];simp only[XY,simprocAttr];rotate_left;rw[Je,Ja];simp only[XY,simprocAttr,f9,r96,hz]
    all_goals
     rw[Ja];simp only[XZ,simprocAttr,f0,f5,f9,b0,r96];refine Jsj (hM.A C6.D (ao C6)) (lT C6) hg (by omega) (h9.A fun x W Y=>⟨W,ao C6 x Y⟩) ?_;intro oe o S7 G7 hC hG;have C7:=C6.I G7;have r157:=G7.A r156;simp only[XZ,simprocAttr];refine JcA (P:=Q) G7.D (hC.A fun x W Y=>⟨aw C6 (Jb r156) PQ x W,rfl⟩) hG ?_;intro cf S8 G8 ak;have ak:=ak.A fun x W Y=>⟨aw C7 (Jb r157) (fun _ aa=>aa) x W,rfl⟩
     obtain⟨v3,v4⟩:=ak.D;have r158:=G8.A r157;have C8:=C7.I G8;simp only[XY,simprocAttr,aq,r158,v3,v4];refine nmW G8.D r158 ?_;intro S9 dx ⟨i3,r159⟩;have C9:=C8.A dx fun x O=> .inl O;have fd:=di.A (lf ((Ch.H _ (G7.B G8)).A dx fun x O=> .inl O));have fe:=ak.A (lf dx);rw[Ja];simp only[XY,simprocAttr,f0,f3,f8,a3,ai C9 r82 bi,b9];refine JbL H (hM.A C9.D (ao C9)) (eT C9) hK.F (bT C9) ?_;intro c8 bm am av b1 b2;have av:=av.A fun x W Y=>⟨aw C9 (Jb r159) PQ x W,rfl⟩
     have au:=am.A r159;simp only[XY,simprocAttr,aq,au,b1,b2];refine nmW am.D au ?_;intro ba ah ⟨t11,al⟩;have ar:=(C9.I am).A ah fun x O=> .inl O;have dj:=lf ((Ch.H _ am).A ah fun x O=> .inl O);rw[Ja];simp only[XZ,simprocAttr,ay,aq,al,v3,b1,br,ai ar r142 ax];exact a8 ar (JhZ (.inl rfl) (fe.A dj) (av.A (lf ah)) (fd.A dj)) (bnd _ _)
   obtain⟨rfl,hz⟩:=fc;rw[Je,Ja];simp only[XY,simprocAttr,f9,r96,hz];obtain⟨ad,hj,C,bd⟩:=hc rfl;obtain⟨ck,az,dy,dz,cn,cb,d0,bw,z2,z6,a0,cp,cg,bn⟩:=YN C;simp only[Xi,V.d.injEq]at bw;obtain⟨rfl,rfl,rfl,rfl,rfl,rfl,rfl,⟨_,ch⟩,_⟩:=bw;subst ch;have a9:=hg _ (Xh hj);obtain⟨hC,hG⟩:=QC C a9 2;have a2:=a9.a;have ff:=a9.b;rw[cg]at ff;have g1: -1<=QK E az:=by
    obtain⟨v,hv⟩:=a9.d;rw[cg]at hv;unfold QK;have hv:KO E az=some v:=hv;rw[hv];unfold KO at hv
    split at hv
    ·injection hv with hv;rw[<-hv];decide
    ·cases hq:QJ E.a az with
     |none=>rw[hq]at hv;cases hv
     | some ae=>
       rw[hq]at hv;have hv:some (ae:Int)=some v:=hv;injection hv with hv;show-1<=v;omega
   have i4:∀x,P x/\k.A x≠ .none->S5.A x≠ .none:=fun x W=>by rw[ao (C4.I G5) x W.2];exact W.2
   rw[Ja];simp only[XY,simprocAttr,r19];refine JcA (P:=Q) G6.D (hC.A fun x W Y=>⟨PQ x W,G6.d x Y⟩) hG ?_;intro cf S7 G7 ak;have ak:=ak.A fun x W Y=>⟨aw C6 (Jb r156) (fun _ aa=>aa) x W,rfl⟩
   obtain⟨v3,v4⟩:=ak.D;have r157:=G7.A r156;have C7:=C6.I G7;simp only[XY,simprocAttr,aq,r157,v3,v4];refine nmW G7.D r157 ?_;intro S8 bo ⟨fg,r158⟩;have C8:=C7.A bo fun x O=> .inl O;have cj:=di.A (lf ((Ch.H _ G7).A bo fun x O=> .inl O));have cl:=ak.A (lf bo);obtain⟨n8,d1⟩:=nxE S8;have r88:=ai C8 r82 bi;have i5:=fun L=>nes (Jr C8.D d1 (Jb r88) L);rw[Ja];simp only[XY,simprocAttr,f8,r88,d1,e1.1,e2.1];generalize fh:up 0 n8=d2;refine nmA C8.D d1 fh ?_;intro S9 G9 dk ⟨t21,r21⟩;have C9:=C8.I G9;have r89:=G9.A r88;obtain⟨nA,c9⟩:=nxE S9;have g3:=fun L=>nes (Jr G9.D c9 (Jb r89) L);rw[Ja];simp only[XY,simprocAttr,f8,r89,c9,g3];obtain⟨es,n1,n2,n3⟩:=(eT C9).D;obtain⟨x0,d3⟩:=exE (up 0 nA);obtain⟨bm,b7⟩:=exE (S9.B fun t=>Row.a t []);have am:Gr S9 bm:=by rw[b7];exact Gr.G G9.D (Jd _)
   obtain⟨tx,rx⟩:∃t,bm.A x0= .a t []:=⟨_,by rw[b7,d3];exact Ye c9 _⟩
   have da:S9.A x0= .none:=by rw[d3];exact nx0 G9.D c9 0
   rw[<-b7,<-d3];clear b7;have g4:SlF S9 bm (.m x0 0 0 3 0) 3 []:=⟨by simp, .inr ⟨x0,tx,da,by rw[rx];rfl, .inr rfl⟩⟩
   have i6:=hK.k.d;refine Qw (S0:=S9) am g4 (n1.H am) (Jd4 n2 n3) (by omega) (by simp;omega) fun Sa v5 ga fi dl g5=> ?_;simp at fi;have d4:fa≠aj:=fun e=>Jb (G5.A r154) (by rw[<-e];exact fb);have r199:=G9.A ((bo.d fa (Jb (G7.A r19)) d4).trans (G7.A r19));have fj:=ai C9 bk bl;have Ca:=C9.I ga;have g6:=ga.A r89;have fk:=ga.A r199;simp only[XZ,simprocAttr,f8,g6,fk];refine Jue ga.D (eT Ca) hK.k az ?_;intro Sb Gb;have gb:=ga.B Gb;have Cb:=C9.I gb;have fl:=gb.A r199;simp only[XZ,simprocAttr,f0,fl,gb.A fj];refine atT (hM.A Cb.D (ao Cb)) a2 ?_;intro Sc xa ya Gc cm cc;have gc:=gb.B Gc;have co:(Jg m i[ad].2).c.length=1:=by
    obtain⟨_,_,_,_,o5,_⟩:=hM.c.B a2;rw[o5.a,bd];rfl
   obtain⟨_,_,_,_,_,o6⟩:=hM.c.B a2;obtain⟨cq,cr,y1,_,y3,_,y5⟩:=cc.I (i:=0) (by simp[ints,co]);have be:=y5 0 (by simp[ints]);have bf:=o6 _ (Xh (show 0<(Jg m i[ad].2).c.length by omega));simp[ints]at be;generalize (Jg m i[ad].2).c[0]=ct at*;obtain⟨nC,fm⟩:=nxE Sc;have y1:Jo 1 ya (.d .i64 0)=some (.e cq cr, .a):=y1;simp only[XZ,simprocAttr,y1,be,fm,z2];have fn:∀x,P x/\k.A x≠ .none->rowOf v5≠some x:=fun x W e=>by
    have g7:S9.A x= .none:=by
     rcases dl with aa|aa
     ·rw[aa]at e;injection e with e;rw[<-e];exact da
     ·rw[aa]at e;injection e with e;rw[<-e];exact am.I (J9 am.D)
    exact W.2 (by rw[<-ao C9 x W.2];exact g7)
   have i7:∀ab,S9.A ab≠ .none->rowOf v5≠some ab:=fun ab W e=>by
    rcases dl with aa|aa
    ·rw[aa]at e;injection e with e;exact W (by rw[<-e];exact da)
    ·rw[aa]at e;injection e with e;exact W (by rw[<-e];exact am.I (J9 am.D))
   have Cc:=C9.I gc;have g8:AccR (fun P k=>NarC P k) (fun x=>P x/\k.A x≠ .none) S9 Sc v5 3 E.b:=⟨es,fi.G (Gb.B Gc),n2,fun ae W Y=>(n3 ae W Y).A fun x ab q=>⟨⟨ab,fn x ab⟩,gc.d x q⟩⟩
   have fo:NarC (fun x=>(P x/\k.A x≠ .none)/\rowOf v5≠some x) Sc [.d .i64 (QK E az),w2, .d .i64 (ct:Nat)] (QK E az,a0,ct):=⟨w2,rfl,bn.D fun x W Y=>⟨⟨W,fn x W⟩,by rw[ao Cc x W.2,ao (C4.I G5) x W.2]⟩⟩
   refine Jp2 (C:=fun P k=>NarC P k) (S0:=S9) (fun aa L=>NarC.A aa L) gc fm g8 fo rfl (by simp[KN,QB,Jbu,z2.1]) (by have:=hK.n;omega) ?_;intro Sd v6 gd fp i8 fq;have dm:=gd.A r21;have s6:v6.B=true/\v6.A=some [v6]:=by
    obtain⟨fs,q1,_,_⟩:=fp;exact⟨q1.D.B,q1.D.A⟩
   simp only[XY,simprocAttr,dm,s6];have ap:∀{fr:Fr} {Y:Nat} {ab:Pt} {o:Nat},fr 102= .m x0 0 0 3 0->fr Y= .e ab o->S9.A ab≠ .none->JP fr [([102],[Y])]=true:=fun h1 h2 h3=>JQ h1 h2 rfl fun e=>h3 (by injection e with e;rw[<-e];exact da);have ac:∀{fr:Fr} {ab:List Nat×List Nat} {x:List (List Nat×List Nat)},JP fr [ab]=true->JP fr x=true->JP fr (ab::x)=true:=fun h1 h2=>by rw[JfQ,h1,h2];rfl
   refine⟨ac (ap (o:=0) rfl f8 (Jb r89)) (ac (ap rfl rfl (Jb r199)) (ac (ap rfl rfl (Jb r199)) (ac (ap rfl rfl (Jb fj)) (ap rfl rfl (Jb r199))))), ?_⟩;refine nmW gd.D dm ?_;intro ba cu ⟨t11,d5⟩;have dn:=C8.B dk;have Cd:=C9.I gd;have ar:=Cd.A cu fun x O=> .inr (by rw[O];exact dn);have d6:aj≠d2:=fun e=>Jb r15 (by rw[e];exact dn);have al:=(cu.d aj (Jb (gd.A (G9.A r158))) d6).trans (gd.A (G9.A r158));have i9:∀x,Q x\/S9.A x= .none->x≠d2->Sd.A x≠ .none->ba.A x=Sd.A x:=fun x _ n e=>cu.d x e n;have g9:∀x,S8.A x≠ .none->x≠d2:=fun x W e=>W (by rw[e];exact dk);have dp:∀x,Q x->S8.A x≠ .none->Q x/\ba.A x=S8.A x:=fun x W Y=>⟨W,by
    have e1:=(G9.B gd).d x Y;rw[cu.d x (by rw[e1];exact Y) (g9 x Y),e1]⟩
   have d7:EnvC (fun x=>(P x/\k.A x≠ .none)\/S9.A x= .none) ba [.d .i64 (E.c:Nat),vv,v6] (KB E (QK E az,a0,ct)):=by
    obtain⟨fs,q1,q2,q3⟩:=fp;have nS:∀x,P x/\k.A x≠ .none->ba.A x=Sd.A x/\ba.A x=k.A x:=fun x W=>⟨by rw[ao ar x W.2,ao Cd x W.2],ao ar x W.2⟩
    refine⟨vv,v6,rfl,h1.D fun x W Y=>⟨.inl ⟨W,Y⟩,ao ar x Y⟩,fs,q1.D.D fun x W Y=>⟨.inr W,cu.d x Y fun e=>Jb r21 (by rw[<-e];exact W)⟩,q2,fun ae W Y=>(q3 ae W Y).A fun x ab q=>⟨.inl ab.1,(nS x ab.1).1⟩⟩
   rw[Ja];simp only[XY,simprocAttr,f0,f3,a3,d5,b9];refine JbL H (hM.A ar.D (ao ar)) d7 (hK.D ⟨g1,by show a0.length<100000;have:a0.length<90000:=ff;omega,bf⟩) (bT ar) ?_;intro c8 ft a7 av b1 b2;have av:=av.A fun x W Y=>⟨aw ar (Jb al) (fun x W=>aw C9 (Jb (G9.A r158)) PQ x W) x W,rfl⟩
   have bg:=a7.A al;simp only[XY,simprocAttr,aq,bg,b1,b2];refine nmW a7.D bg ?_;intro db b3 ⟨ir,bh⟩;have fu:=(ar.I a7).A b3 fun x O=> .inl O;have dq:=lf ((Ch.H _ a7).A b3 fun x O=> .inl O);rw[Ja];simp only[XZ,simprocAttr,ay,aq,bh,v3,b1,br,ai fu r142 ax];exact a8 fu (JhZ (.inl rfl) ((cl.A dp).A dq) (av.A (lf b3)) ((cj.A dp).A dq)) (bnd _ _)
  have n7:¬y<=7:=k7;have cw:∀{S':St} {t:Nat},Ch (fun x=>x=aj) S2 S'->K (.j [.d .i64 L, .d .i64 0,ofL [],ofL nm,pv, .g, .g, .h false, .g]) (S'.D bb t fun u=> .a u [.d .i64 L, .d .i64 0,ofL [],ofL nm,pv, .g, .g, .h false, .g]):=fun{S' t} C=>a8 C (qn (gn.A fun x W Y=>⟨PQ x ⟨W,Y⟩,ao C x Y⟩)) (by have:=bnd (KM kb) (KM ko);omega);by_cases k8:y<=8
  ·rw[Ja];simp only[XY,simprocAttr,f4,n7];rw[Ja];simp only[XY,simprocAttr,f4,k8];rw[Ja];simp only[XY,simprocAttr,aq,r153];refine nmW C3.D r153 ?_;intro S4 bt ⟨t4,r154⟩;have C4:=C3.A bt fun x O=> .inl O;have bu:=ca.A (lf bt);have bz:=ai C4 bk bl;have r94:=ai C4 r92 bj;rw[Ja];simp only[XY,simprocAttr,f5,f9,r94,gq];refine YT C4.D _ i.length (by omega) (by omega) ?_;intro S5 G5;obtain⟨af,hm,d8⟩:=Qe rn gm;rw[hm];have C5:=C4.I G5;obtain⟨rq,oq,e,a1,_,_,a4,a5,_,_⟩:=(lT C5).A d8;obtain⟨ck,az,dy,dz,cn,cb,d0,rfl,z2,z6,a0,cp,cg,bn⟩:=YN a5;have a9:=hg _ (Xh d8);obtain⟨hC,hG⟩:=QC a5 a9 2;have a2:=a9.a;generalize i[af].2=id at*;obtain⟨n5,bc⟩:=nxE S5;simp only[XY,simprocAttr,a1,a4,z2,z6,bc];generalize fv:up 0 n5=ha;refine nmA G5.D bc fv ?_;intro S6 G6 is ⟨t22,r22⟩;have C6:=C5.I G6;have a6:=G5.B G6;have b0:=a6.A bz;have r156:=a6.A r154;have r86:=ai C6 r82 bi;rw[Ja];simp only[XY,simprocAttr,r22];refine Jz (fun fr S'=>fr 0= .e w 0/\fr 3= .d .i64 ((z+1:Nat):Nat)/\fr 8= .e p8 0/\fr 14= .e bb 0/\fr 15= .e aj 0/\fr 17=bv/\fr 22= .e ha 0/\Gr S6 S'/\∃i2,i2<m.a.length/\fr 23= .d .i64 (i2:Nat)) (fun J2 fw=> ?_) ?_
   ·rw[Ja];simp only[XY,simprocAttr,f0,b0];refine atT (hM.A C6.D (ao C6)) a2 ?_;intro S7 xa ya G7 cm cc;by_cases h6:(Jg m id).a=6
    ·simp only[XY,simprocAttr,h6];simp only[XY,simprocAttr,f0,G7.A b0];refine atT (hM.A (C6.I G7).D (ao (C6.I G7))) a2 ?_;intro S8 xb yb G8 hd d9;obtain⟨_,_,_,_,o5,o6⟩:=hM.c.B a2;have co:(Jg m id).c.length=1:=by rw[o5.a,h6];rfl
     obtain⟨cq,cr,y1,_,y3,_,y5⟩:=d9.I (i:=0) (by simp[ints,co]);have be:=y5 0 (by simp[ints]);have y1:Jo 1 yb (.d .i64 0)=some (.e cq cr, .a):=y1;have bf:=o6 _ (Xh (show 0<(Jg m id).c.length by omega));simp[ints]at be;simp only[XZ,simprocAttr,y1,be];exact fw _ _ ⟨f0,f3,f8,ay,aq,a3,rfl,G7.B G8,_,bf,rfl⟩
    ·simp only[XZ,simprocAttr,h6];exact fw _ _ ⟨f0,f3,f8,ay,aq,a3,rfl,G7,_,a2,rfl⟩
   ·clear f0 f3 f4 f5 f8 f9 c7 ay aq a3;rintro fr S7 ⟨f0,f3,f8,ay,aq,a3,hf,G7,i2,hh,hn⟩;have C7:=C6.I G7;have r157:=G7.A r156;rw[Ja];simp only[XZ,simprocAttr,hf,G7.A r22];refine JcA (P:=Q) G7.D (hC.A fun x W Y=>⟨PQ x W,(G6.B G7).d x Y⟩) hG ?_;intro cf S8 G8 ak;have ak:=ak.A fun x W Y=>⟨aw C7 (Jb r157) (fun _ aa=>aa) x W,rfl⟩
    obtain⟨v3,v4⟩:=ak.D;have r158:=G8.A r157;have C8:=C7.I G8;simp only[XZ,simprocAttr,f0,f8,hn,ai C8 r82 bi];refine Jh0 (tb:=m) G8.D (eT C8) hK.k ?_;intro e9 S9 G9 cx;have r159:=G9.A r158;have C9:=C8.I G9;simp only[XZ,simprocAttr,f3,a3,b9];refine JbL H (hM.A C9.D (ao C9)) cx (hK.A hh) (bT C9) ?_;intro c8 bm am av b1 b2;have av:=av.A fun x W Y=>⟨aw C9 (Jb r159) (fun x W=>aw C8 (Jb r158) PQ x W) x W,rfl⟩
    have au:=am.A r159;simp only[XY,simprocAttr,aq,au,v3,v4,b1,b2];refine nmW2 am.D au ?_;intro ba ah ⟨t11,al⟩;have ar:=(C9.I am).A ah fun x O=> .inl O;have ea:=lf ((Ch.H _ G9).A ((Ch.H _ am).A ah fun x O=> .inl O) fun x O=> .inl O);have eb:=lf (((Ch.H _ a6).I G7).I G8|>.A (((Ch.H _ G9).I am).A ah fun x O=> .inl O) fun x O=> .inl O);rw[Ja];simp only[XZ,simprocAttr,ay,aq,al,v3,b1,br,ai ar r142 ax];exact a8 ar (JhZ (.inr (.inl rfl)) (ak.A ea) (av.A (lf ah)) (bu.A eb)) (bnd _ _)
  have n8:¬y<=8:=k8;by_cases fx:y<=10
  ·rw[Ja];simp only[XY,simprocAttr,f4,n7];rw[Ja];simp only[XY,simprocAttr,f4,n8];rw[Ja];simp only[XY,simprocAttr,f4,fx];rw[Ja];simp only[XY,simprocAttr,aq,r153];refine nmW C3.D r153 ?_;intro S4 bt ⟨t4,r154⟩;have C4:=C3.A bt fun x O=> .inl O;have bu:=ca.A (lf bt);have bz:=ai C4 bk bl;have r94:=ai C4 r92 bj;obtain⟨n4,ec⟩:=nxE S4;have ho:=fun L=>nes (Jr C4.D ec (Jb r94) L);rw[Ja];simp only[XY,simprocAttr,f0,f5,f9,bz,r94,ec,ho];generalize hs:up 0 n4=px;refine nm1c C4.D ec hs ?_;intro Sx Gx jj ⟨tx,rx⟩;refine YT Gx.D _ 2 (by decide) (by decide) ?_;intro Sy Gy;obtain⟨af,hm,d8⟩:=Qe rn (n:=2) (by decide);have hm:rn%2=(af:Nat):=hm;rw[hm];have hi:∃q:Int,ld1 (.a tx [.d .i64 4, .d .i64 5]) af=some (.d .i64 q, .a)/\(q=4\/q=5):=by
    have:af=0\/af=1:=by omega
    rcases this with rfl|rfl
    ·exact⟨_,rfl, .inl rfl⟩
    ·exact⟨_,rfl, .inr rfl⟩
   obtain⟨kd,fq,ht⟩:=hi;have hu:Jo 1 (.m px 0 2 1 2) (.d .i64 (af:Nat))=some (.e px af, .a):=by
    have:af=0\/af=1:=by omega
    rcases this with rfl|rfl<;>rfl
   have ed:=Gx.B Gy;have hx:=Gy.A rx;have Cy:=C4.I ed;simp only[XY,simprocAttr,f9,ed.A r94,hu,hx,fq];refine Jp3 (hM.A Cy.D (ao Cy)) (lT Cy) hg (by omega) ?_;intro ce Y S5 w0 w1 w2 w3 w4 w5 w6 wt G5 hb hc;obtain⟨rfl,hw⟩:=hb;obtain⟨n5,bc⟩:=nxE S5;simp only[XY,simprocAttr,hw,bc];generalize fy:up 0 n5=j0;refine nmA G5.D bc fy ?_;intro S6 G6 it ⟨t24,r24⟩;have a6:=ed.B (G5.B G6);have C6:=C4.I a6;have b0:=a6.A bz;have r156:=a6.A r154
   cases Y with
   | false=>
     rw[Je,Ja];simp only[XY,simprocAttr];rw[Ja];simp only[XZ,simprocAttr,c7,ay,ai C6 r132 cd,ai C6 r142 ax,v1];exact cw C6
   | true=>
     rw[Je,Ja];simp only[XY,simprocAttr];obtain⟨ad,hj,C,bd⟩:=hc rfl;obtain⟨ck,az,dy,dz,cn,cb,d0,bw,z2,z6,a0,cp,cg,bn⟩:=YN C;simp only[Xi,V.d.injEq]at bw;obtain⟨rfl,rfl,rfl,rfl,rfl,rfl,rfl,⟨_,ch⟩,_⟩:=bw;subst ch;have a9:=hg _ (Xh hj);obtain⟨hC,hG⟩:=QC C a9 2;have a2:=a9.a;generalize i[ad].2=id at*;rw[Ja];simp only[XZ,simprocAttr,r24];refine JcA (P:=Q) G6.D (hC.A fun x W Y=>⟨PQ x W,G6.d x Y⟩) hG ?_;intro cf S7 G7 ak;have ak:=ak.A fun x W Y=>⟨aw C6 (Jb r156) (fun _ aa=>aa) x W,rfl⟩
     obtain⟨v3,v4⟩:=ak.D;have r157:=G7.A r156;have C7:=C6.I G7;simp only[XZ,simprocAttr,f0,f8,ai C7 r82 bi,G7.A b0,G7.A r24];refine atT (hM.A C7.D (ao C7)) a2 ?_;intro S8 xb yb G8 hd d9;obtain⟨_,_,_,_,o5,o6⟩:=hM.c.B a2;have co:(Jg m id).c.length=1:=by
      rw[o5.a,bd,jE,Xd (by omega)]
     obtain⟨cq,cr,y1,_,y3,_,y5⟩:=d9.I (i:=0) (by simp[ints,co]);have be:=y5 0 (by simp[ints]);have y1:Jo 1 yb (.d .i64 0)=some (.e cq cr, .a):=y1;have bf:=o6 _ (Xh (show 0<(Jg m id).c.length by omega));simp[ints]at be;generalize (Jg m id).c[0]=ct at*;have r158:=G8.A r157;have C8:=C7.I G8;simp only[XZ,simprocAttr,y1,be];refine Jh0 (tb:=m) G8.D (eT C8) hK.k ?_;intro e9 S9 G9 cx;have r159:=G9.A r158;have C9:=C8.I G9;simp only[XZ,simprocAttr,f3,a3,b9];refine JbL H (hM.A C9.D (ao C9)) cx (hK.A bf) (bT C9) ?_;intro c8 bm am av b1 b2;have av:=av.A fun x W Y=>⟨aw C9 (Jb r159) (fun x W=>aw C8 (Jb r158) PQ x W) x W,rfl⟩
     have au:=am.A r159;simp only[XY,simprocAttr,aq,au,v3,v4,b1,b2];refine nmW2 am.D au ?_;intro ba ah ⟨t11,al⟩;have ar:=(C9.I am).A ah fun x O=> .inl O;have ea:=lf ((Ch.H _ (G8.B G9)).A ((Ch.H _ am).A ah fun x O=> .inl O) fun x O=> .inl O);have eb:=lf (((Ch.H _ a6).I G7).I G8|>.A (((Ch.H _ G9).I am).A ah fun x O=> .inl O) fun x O=> .inl O);rw[Ja];simp only[XZ,simprocAttr,ay,aq,al,v3,b1,br,ai ar r142 ax];exact a8 ar (JhZ (.inr (.inr rfl)) (ak.A ea) (av.A (lf ah)) (bu.A eb)) (bnd _ _)
  have hy:¬y<=10:=fx;rw[Ja];simp only[XY,simprocAttr,f4,n7];rw[Ja];simp only[XY,simprocAttr,f4,n8];rw[Ja];simp only[XY,simprocAttr,f4,hy];have fz:=ai C3 bk bl;have r93:=ai C3 r92 bj;rw[Ja];simp only[XY,simprocAttr,f0,f5,f9,fz,r93];refine Jp3 (hM.A C3.D (ao C3)) (lT C3) hg (by omega) ?_;intro ce Y S5 w0 w1 w2 w3 w4 w5 w6 wt G5 hb hc;obtain⟨rfl,hw⟩:=hb;obtain⟨n5,bc⟩:=nxE S5;simp only[XY,simprocAttr,hw,bc];generalize f1:up 0 n5=f2;refine nmA G5.D bc f1 ?_;intro S6 G6 f6 ⟨t26,r26⟩;have dc:=G5.B G6;have C6:=C3.I dc;have b0:=dc.A fz;have r156:=dc.A r153
  cases Y with
  | false=>
    rw[Je,Ja];simp only[XY,simprocAttr];rw[Ja];simp only[XZ,simprocAttr,c7,ay,ai C6 r132 cd,ai C6 r142 ax,v1];exact cw C6
  | true=>
    rw[Je,Ja];simp only[XY,simprocAttr];obtain⟨ad,hj,C,bd⟩:=hc rfl;obtain⟨ck,az,dy,dz,cn,cb,d0,bw,z2,z6,a0,cp,cg,bn⟩:=YN C;simp only[Xi,V.d.injEq]at bw;obtain⟨rfl,rfl,rfl,rfl,rfl,rfl,rfl,⟨_,ch⟩,_⟩:=bw;subst ch;have a9:=hg _ (Xh hj);obtain⟨hC,hG⟩:=QC C a9 2;have a2:=a9.a;generalize i[ad].2=id at*;rw[Ja];simp only[XY,simprocAttr,r26];refine JcA (P:=Q) G6.D (hC.A fun x W Y=>⟨PQ x W,G6.d x Y⟩) hG ?_;intro cf S7 G7 ak;have ak:=ak.A fun x W Y=>⟨aw C6 (Jb r156) (fun _ aa=>aa) x W,rfl⟩
    obtain⟨v3,v4⟩:=ak.D;have r157:=G7.A r156;simp only[XY,simprocAttr,aq,r157,v3,v4];refine nmW2 G7.D r157 ?_;intro S8 bo ⟨fg,r158⟩;have C8:=(C6.I G7).A bo fun x O=> .inl O;have cl:=ak.A (lf bo);have cj:=ca.A (lf ((Ch.H _ (dc.B G7)).A bo fun x O=> .inl O));have ef:f2≠aj:=fun e=>Jb (G5.A r153) (by rw[<-e];exact f6);have r268:=(bo.d f2 (Jb (G7.A r26)) ef).trans (G7.A r26);rw[Ja];simp only[XY,simprocAttr,f0,ai C8 bk bl,r268];refine atT (hM.A C8.D (ao C8)) a2 ?_;intro S9 xa ya G9 cm cc;obtain⟨n9,f7⟩:=nxE S9;have h0:=cm.B;have j1:=cm.A;have h5:=cc.B;have j2:=cc.A;simp only[XY,simprocAttr,f7,h0,h5];generalize ge:up 0 n9=eg;refine nmA G9.D f7 ge ?_;intro bm am gf ⟨t28,r28⟩;rw[Je,Ja];simp only[XY,simprocAttr];have dd:=C8.I (G9.B am);have au:=(G9.B am).A r158;have eh:=cl.A (lf (Ch.H _ (G9.B am)));have ei:=cj.A (lf (Ch.H _ (G9.B am)));have cy:=cm.H am;have ej:=cc.H am;have gg:=hM.d.f;obtain⟨_,_,_,_,o5,o6⟩:=hM.c.B a2;have j3:(Jg m id).c.length=(Jg m id).b.length:=by rw[o5.a,bd,jE];rfl
    have h4:(Jg m id).b.length<=4:=hM.f _ (by
     obtain⟨_,_,o3,_⟩:=hM.c.B a2;exact Gz o3)
    have ek:=cy.G;rw[show(strs (Jg m id).b).length=(Jg m id).b.length by simp[strs]]at ek;obtain⟨Lp,de⟩:=loE fun ad fr S'=>∃(ae:Nat) (cv:V) (cs:List (Str×List Nod)) (t:Nat),ad+ae=(Jg m id).b.length/\Ch (fun x=>x=aj) bm S'/\fr 0= .e w 0/\fr 3= .d .i64 ((z+1:Nat):Nat)/\fr 8= .e p8 0/\fr 9= .e p9 0/\fr 14= .e bb 0/\fr 15= .e aj 0/\fr 17=bv/\fr 28= .e eg 0/\fr 29= .d .i64 (ae:Nat)/\S'.A aj= .a t [.d .i64 8, .d .i64 0,ofL [],ofL [],cf, .g,ev, .h he,cv]/\AccO (CasR (z+1) (4^z*KM kb)) Q S' cv 2 cs/\(∀x,rowOf cv=some x->bm.A x= .none)/\cs.length<=ae;refine JC Lp (Jg m id).b.length (by omega) ((de _ _ _).2 ⟨0, .g,[],fg,by omega,Ch.G _ dd.D,f0,f3,f8,f9,ay,aq,a3,rfl,by simp only[XZ,simprocAttr]<;>rfl,au,AccO.D,(fun x e=>by cases e),XC _⟩) ?_;clear f0 f3 f4 f5 f8 f9 c7 ay aq a3;intro ad fr ba h7;obtain⟨ae,cv,cs,t,hj,ah,f0,f3,f8,f9,ay,aq,a3,cz,b4,al,bx,c0,j4⟩:=(de _ _ _).1 h7;have ar:=dd.A ah fun x O=> .inl O;have el:eg≠aj:=fun e=>Jb (G9.A r158) (by rw[<-e];exact gf);have bp:=(ah.d eg (Jb r28) el).trans r28;obtain⟨h8,j5⟩:=bx.F;have ib:∀x,rowOf cv=some x->ba.A x≠ .none:=by
     obtain⟨es,q1,_⟩:=bx;exact fun x e=>q1.A e
    by_cases hi:ae<(Jg m id).b.length;rotate_left
    ·have em:¬(ae:Int)<(Jg m id).b.length:=by omega
     simp only[XZ,simprocAttr,ay,aq,cz,b4,bp,ek,em,al,v3,br,h8,ai ar r142 ax];exact a8 ar (Jnr (eh.A (lf ah)) (ei.A (lf ah)) bx (fun x e=>aw dd (Jb au) PQ x (.inr (c0 x e))) (by omega)) (g0 _ _)
    have em:(ae:Int)<(Jg m id).b.length:=by omega
    have c3:IntKind.i64.wrap ((ae:Int)+1)=((ae+1:Nat):Int):=by rw[JV (by omega) (by omega)];omega
    rw[Je,Ja];simp only[XY,simprocAttr,cz,b4,bp,ek,em];rw[Je];simp only[XY,simprocAttr];by_cases gh:he=true/\(ae:Int)>0/\rn.tmod 2=0
    ·obtain⟨rfl,c4,hz⟩:=gh;rw[Je,Ja];simp only[XZ,simprocAttr,f9,aq,b4,al,ai ar r92 bj,c4,hz,c3];exact⟨(Jg m id).b.length-(ae+1),by omega,(de _ _ _).2 ⟨ae+1,cv,cs,t,by omega,ah,f0,f3,f8,f9,ay,aq,a3,cz,rfl,al,bx,c0,by omega⟩⟩
    have h3:he=false\/(he=true/\¬(ae:Int)>0)\/(he=true/\(ae:Int)>0/\¬rn.tmod 2=0):=by
     cases he with
     |false=>exact .inl rfl
     | true=>
       by_cases W:(ae:Int)>0
       ·exact .inr (.inr ⟨rfl,W,fun Y=>gh ⟨rfl,W,Y⟩⟩)
       ·exact .inr (.inl ⟨rfl,W⟩)
    have c6:∀x,j x\/b x->x≠aj:=fun x W e=>gg x W (by rw[e];exact b6);have en:=cy.D (st':=ba) fun x W Y=>⟨W,ah.d x Y (c6 x W)⟩
    have eo:=ej.D (st':=ba) fun x W Y=>⟨W,ah.d x Y (c6 x W)⟩
    obtain⟨gi,gj,x1,_,x3,_,x5⟩:=en.I (i:=ae) (by simpa[strs]using hi);have df:=x5 0 (by simp[strs]);obtain⟨j6,la,y1,_,y3,_,y5⟩:=eo.I (i:=ae) (by simp[ints];omega);have be:=y5 0 (by simp[ints]);have bf:=o6 _ (Xh (show ae<(Jg m id).c.length by omega));simp[ints,strs]at df be;generalize (Jg m id).c[ae]=ct at*;generalize (Jg m id).b[ae]=ep at*;rcases h3 with rfl|⟨rfl,c4⟩|⟨rfl,c4,hz⟩
    rw[Je,Ja];simp only[XY,simprocAttr,aq,al];rotate_left;rw[Je,Ja];simp only[XY,simprocAttr,aq,b4,al,c4];rotate_left;rw[Je,Ja];simp only[XY,simprocAttr,f9,aq,b4,al,c4,hz,ai ar r92 bj]
    all_goals
     simp only[XZ,simprocAttr,f0,f8,cz,b4,bp,x1,df,y1,be,ai ar r82 bi];refine Jh0 (tb:=m) ar.D (eT ar) hK.k ?_;intro e9 ft a7 cx;have bg:=a7.A al;have eq:=a7.A bp;have iu:ld1 (ft.A gi) gj=some (ofL ep, .a):=by rw[a7.d _ x3];exact df
     have dg:=ar.I a7;simp only[XZ,simprocAttr,f3,a3,b9];refine JbL H (hM.A dg.D (ao dg)) cx (hK.A bf) (bT dg) ?_;intro c8 db b5 av b1 b2;obtain⟨c,ic⟩:=Jtk ep (av.A (Q:=fun x=>Q x/\rowOf cv≠some x) (S':=db) fun x W Y=>⟨⟨aw dg (Jb bg) (fun x W=>aw ar (Jb al) PQ x W) x W,fun e=>by
      have e0:=ib x e;rcases W with(W|W)|W
      ·exact W.2 (dd.B (c0 x e)|>g2.I)
      ·exact e0 W
      ·exact e0 (a7.I W)⟩,rfl⟩)
     have bh:=b5.A bg;have ih:=b5.A eq;have iv:ld1 (db.A gi) gj=some (ofL ep, .a):=by rw[(a7.B b5).d _ x3];exact df
     obtain⟨lb,dr⟩:=nxE db;simp[XZ,b1,b2,dr];refine JmR (C:=CasR (z+1) (4^z*KM kb)) (fun aa L=>aa.A L) b5.D dr (bx.A (fun aa L=>aa.A L) fun x _ Y=>(a7.B b5).d x Y) ic rfl (by simp[KN,QB,b1];rfl) (by omega) ?_;intro lc ii er b8 ds;obtain⟨w1,w2⟩:=b8.F;have ij:rowOf cv≠some aj:=fun e=>Jb au (c0 _ e);have c5:=(er.d aj (Jb bh) ij).trans bh;simp[XZ,aq,b4,c5,w1,w2,c3];refine nmWK (K:=fun ag=>∃j',j'<ad/\Lp j' _ ag) er.D c5 ?_;intro ld gk ⟨gl,et⟩;have eu:=((ah.I (a7.B b5)).A er fun x O=> .inr (c0 x O)).A gk fun x O=> .inl O;refine⟨(Jg m id).b.length-(ae+1),by omega,(de _ _ _).2 ⟨ae+1,ii,cs++[c],gl,by omega,eu,f0,f3,f8,f9,ay,aq,a3,cz,rfl,et,b8.A (fun aa L=>aa.A L) (fun x W Y=>gk.d x Y fun e=> ?_),(fun x e=>(ah.I (a7.B b5)).B (ds x e)),by simp;omega⟩⟩;rcases W with W|W
     ·exact du x W e
     ·exact Jb bh (by rw[<-e];exact ds x W)
theorem QR (b:St)(c:Fr)(i n j m:Nat)(Q:V->St->Prop):resP b c [.a i n, .a j m] Q=wW (Yo b n (c i)) b fun v b=>wW (Yo b m (c j)) b fun w b=>Q (.p [v,w]) b:=by
 have h:=qC c b n (.s i);have h:(Kw b n (c i)).map (fun l=>(V.j l,Eff.a))=Yo b n (c i):=h;have k:=qC c b m (.s j);have k:(Kw b m (c j)).map (fun l=>(V.j l,Eff.a))=Yo b m (c j):=k;rw[<-h];simp only[resP,QA,jR,Zx,List.mapM_nil]
 cases Kw b n (c i)with
 |none=>rfl
 | some a=>
   show _=wW (Yo b m (c j)) b fun w b=>Q (.p [_,w]) b;rw[<-k]
   cases Kw b m (c j)<;>rfl
theorem JcB {B:Nat}(h:NodR n k z B t):∃(c a:Int) (f q:Str) (i j l:V) (r:Bool) (m:V),t=[.d .i64 c, .d .i64 a,ofL f,ofL q,i,j,l, .h r,m]/\((i.B=true/\i.A=some [i])/\(j.B=true/\j.A=some [j])/\(l.B=true/\l.A=some [l])/\(m.B=true/\m.A=some [m])):=by
 obtain⟨g,s,_⟩:=h
 cases z with
 |zero=>exact s.elim
 | succ z=>
   obtain⟨c,a,f,q,p,b,o,r,y⟩:=g;obtain⟨i,j,l,m,rfl,u,v,w,x⟩:=s;exact⟨_,_,_,_,_,_,_,_,_,rfl,LstAt.G u,LstAt.G v,LstAt.G w,LstAt.G x⟩
theorem Jj7 (h:ju n k t):NodR n k 1 1 t:=qn h
theorem Juf {P:Pt->Prop}{E:EnvS}{r:R10}(H:∀d',z=d'+1->Jda b j p w a m d')(hM:MkS b j p w a m k)(hr:R10C (fun _=>True) k T r)(hE:EnvC P k h E)(hK:MEnv m z E):
  Dz 19 [.e w 0, .j h, .j T, .d .i64 (z:Nat)] k fun v S'=>Gr k S'/\∃e ad E2,v= .p [.j e, .j ad]/\NodR (fun r=>P r\/k.A r= .none) S' (z+1) (4^z*sz10 r) e/\EnvC (fun r=>P r\/k.A r= .none) S' ad E2/\MEnv m z E2:=by
 have hw:=hM.d.wf;refine Jn tabM (aT Tryz.func19 rfl) rfl hw fun K cs=> ?_;obtain⟨tm,nv,ct,d1⟩:=hM.e;have cu:=hr;obtain⟨rk,rn,x,y,c,kv,L,ks,rfl,⟨c1,c2⟩,⟨k1,d2⟩,h9,d3,cv⟩:=Jd6 hr;have cw:1<=sz10 r:=by rw[cv,JhO];omega
 have cx:=hE;obtain⟨vv,ak,rfl,h1,h2,e1,e2⟩:=Ki hE;have av:=h1.G;rw[XU]at av;have dw:=hK.n;obtain⟨n0,bo⟩:=nxE k;simp only[CT,Tryz.f19,XY,simprocAttr];rw[Ja];simp[XY,bo,c1,k1,e1.1,e2.1];generalize cy:up 0 n0=p5;generalize cz:up 1 n0=p6;generalize c0:up 2 n0=p8;generalize c3:up 3 n0=p9;refine nm4 hw bo cy cz c0 c3 ?_;intro S1 G1 ⟨d4,d5,d6,d7⟩ ⟨d8,bp,c4,d9,ea,c5⟩ ⟨t5,r5⟩ ⟨t6,r6⟩ ⟨t8,r8⟩ ⟨t9,r9⟩;have ba:=G1.A ct;obtain⟨Q,hQ⟩:∃Q:Pt->Prop,∀r,Q r<->(P r\/k.A r= .none)/\r≠p8/\r≠p9/\r≠p5:=⟨fun r=>(P r\/k.A r= .none)/\r≠p8/\r≠p9/\r≠p5,fun r=>Iff.rfl⟩
 have PQ:∀r,P r/\k.A r≠ .none->Q r:=fun r M=>(hQ r).2 ⟨.inl M.1,fun e=>M.2 (by grind),fun e=>M.2 (by grind),fun e=>M.2 (by grind)⟩;have NQ:∀r,S1.A r= .none->Q r:=fun r M=>(hQ r).2 ⟨.inr (G1.I M),fun e=>Jb r8 (by grind),fun e=>Jb r9 (by grind),fun e=>Jb r5 (by grind)⟩;have ab:∀{S':St} {t t' B:Nat} {e ad:List V} {E2:EnvS},(∀r,k.A r≠ .none->S'.A r=k.A r)->NodR Q S' (z+1) B e->B<=4^z*sz10 r->EnvC Q S' ad E2->MEnv m z E2->K (.p [.j e, .j ad]) ((S'.D p8 t fun u=> .a u e).D p9 t' fun u=> .a u ad):=by
  intro S' t t' B e ad E2 hs N hB c6 c7;have kf:∀r,r≠p8->r≠p9->((S'.D p8 t fun u=> .a u e).D p9 t' fun u=> .a u ad).A r=S'.A r:=fun r x y=>by rw[Ji _ _ _ y,Ji _ _ _ x]
  have kq:∀r,Q r->S'.A r≠ .none->(P r\/k.A r= .none)/\((S'.D p8 t fun u=> .a u e).D p9 t' fun u=> .a u ad).A r=S'.A r:=fun r M O=>⟨((hQ r).1 M).1,kf r ((hQ r).1 M).2.1 ((hQ r).1 M).2.2.1⟩
  exact cs _ _ (fun r x=>by rw[kf r (fun y=>x (by grind)) (fun y=>x (by grind)),hs r x]) fun _=>⟨e,ad,E2,rfl,(N.A kq).D hB,c6.A kq,c7⟩
 have eT:∀{S':St},Gr S1 S'->EnvC (fun r=>P r/\k.A r≠ .none) S' [.d .i64 (E.c:Nat),vv,ak] E:=fun{S'} g=>cx.A fun r M O=>⟨⟨M,O⟩,by rw[(G1.B g).d r O]⟩
 rw[Ja];simp[XY,ba,r5];refine Jp0 (hM.F G1) (eT (Gr.F G1.D)) hK.k ?_;intro lv S2 l G2 hl hg hN;have ae:JU lv=some (.d .i64 (l.length:Nat), .a):=by
  obtain⟨es,q1,q2,_⟩:=hl;have:=q1.G
  grind
 simp[XY];have lT:∀{S':St},Gr S2 S'->KG (fun r=>S1.A r= .none) S' lv l:=fun{S'} g=>hl.za g.H;rw[Ja];simp[XY,G2.A ba,G2.A r6];refine YT G2.D _ 3 (by decide) (by decide) ?_;intro S3 G3;have g3:=G2.B G3;simp[XY,g3.A r6];refine Jsj (hM.F (G1.B g3)) (lT G3) hg (by omega) (h9.A (G1.B g3).H) ?_;intro oe o S4 G4 hC hG;have g4:=g3.B G4;simp[XY];refine JcA (P:=fun r=>S1.A r= .none) G4.D (hC.A fun r M O=>⟨M.elim id fun M=>g3.I M,rfl⟩) hG ?_;intro pv S5 G5 aw;have aw:=aw.A (Q:=fun r=>S1.A r= .none) (S':=S5) fun r M O=>⟨M.elim id fun M=>g4.I M,rfl⟩
 obtain⟨v1,v2⟩:=aw.D;have g5:=g4.B G5;obtain⟨n5,bq⟩:=nxE S5;simp[XY,v1,v2,bq];generalize br:up 0 n5=c8;refine nmA G5.D bq br ?_;intro S6 G6 dx ⟨t11,r11⟩;have g6:=g5.B G6;have c9:ju (fun r=>S1.A r= .none) S6 [.d .i64 2, .d .i64 0,ofL [],ofL [],pv, .g, .g, .h false, .g]:=⟨2,[],pv,rfl, .inl rfl,aw.A G6.H⟩
 rw[Ja];simp[XY,g6.A r6];refine YT G6.D _ 12 (by decide) (by decide) ?_;intro S7 G7;have g7:=g6.B G7;obtain⟨W,hk,bt⟩:=Qe rk (n:=12) (by decide);have hk:rk%12=(W:Nat):=hk;rw[hk];simp[XY];obtain⟨J,hJ⟩:=opE fun fr S'=>S'=S7/\fr 0= .e w 0/\fr 3= .d .i64 (z:Nat)/\fr 5= .e p5 0/\fr 6= .e p6 0/\fr 8= .e p8 0/\fr 9= .e p9 0/\fr 10=lv/\fr 11= .e c8 0/\∃k2:Nat,fr 12= .d .i64 (k2:Nat)/\k2<12/\(4<k2->0<l.length/\0<z);have a2:((W:Int).tmod 5)=((W%5:Nat):Int):=rfl;have h5:W%5<5:=Ha _ (by decide);refine QE J ?_ ?_
 ·by_cases bb:l.length=0
  ·have aa:(l.length:Int)=0:=by omega
   rw[Ja];simp[XZ,ae,aa,a2];exact(hJ _ _).2 ⟨rfl,rfl,rfl,rfl,rfl,rfl,rfl,rfl,rfl,W%5,rfl,by omega,by omega⟩
  have aa:¬(l.length:Int)=0:=by omega
  by_cases ax:(z:Int)<=0;rotate_left
  ·rw[Ja];simp only[XZ,simprocAttr,ae,aa,ax];exact(hJ _ _).2 ⟨rfl,rfl,rfl,rfl,rfl,rfl,rfl,rfl,rfl,W,rfl,bt,fun _=>⟨by omega,by omega⟩⟩
  by_cases h4:(W:Int)>4
  ·rw[Ja];simp only[XZ,simprocAttr,ae,aa,ax,h4,a2];exact(hJ _ _).2 ⟨rfl,rfl,rfl,rfl,rfl,rfl,rfl,rfl,rfl,W%5,rfl,by omega,by omega⟩
  ·rw[Ja];simp only[XZ,simprocAttr,ae,aa,ax,h4];exact(hJ _ _).2 ⟨rfl,rfl,rfl,rfl,rfl,rfl,rfl,rfl,rfl,W,rfl,bt,fun N=>by omega⟩
 intro fr S7 bu;obtain⟨rfl,f0,f3,f5,f6,f8,f9,am,ao,k2,bv,eb,bw⟩:=(hJ _ _).1 bu;have aq:=G1.B g7;have r57:=g7.A r5;have r67:=g7.A r6;have r87:=g7.A r8;have r97:=g7.A r9;have r117:=G7.A r11;have a8:=c9.A (Q:=fun r=>S1.A r= .none) G7.H;have ec:=g7.A ba;clear bu;have ap:∀{fr:Fr},fr 8= .e p8 0->fr 5= .e p5 0->JP fr [([8],[5])]=true:=fun h1 h2=>JQ h1 h2 rfl fun e=>bp (by injection e with e;grind);have af:=nes c5;have ai:∀{S':St},Gr S7 S'->∀r,k.A r≠ .none->S'.A r=k.A r:=fun{S'} g r M=>(aq.B g).d r M;have eQ:∀{S':St},Gr S7 S'->EnvC Q S' [.d .i64 (E.c:Nat),vv,ak] E:=fun{S'} g=>(eT (g7.B g)).A fun r M O=>⟨PQ r M,rfl⟩
 have ar:1<=4^z*sz10 r:=Nat.mul_pos (Nat.pow_pos (by decide)) cw;have da:∀{t t':Nat},K (.p [.j [.d .i64 2, .d .i64 0,ofL [],ofL [],pv, .g, .g, .h false, .g], .j [.d .i64 (E.c:Nat),vv,ak]]) ((S7.D p8 t fun u=> .a u [.d .i64 2, .d .i64 0,ofL [],ofL [],pv, .g, .g, .h false, .g]).D p9 t' fun u=> .a u [.d .i64 (E.c:Nat),vv,ak]):=fun{t t'}=>ab (ai (Gr.F G7.D)) (qn (a8.A fun r M O=>⟨NQ r M,rfl⟩)) ar (eQ (Gr.F G7.D)) hK;rw[Je,Ja];simp[XY,bv];by_cases q0:(k2:Int)=0
 ·rw[Ja];simp[XY,q0];obtain⟨n7,ag⟩:=nxE S7;have o6:=fun W=>nes (Jr G7.D ag (Jb r67) W);rw[Ja];simp[XZ,f6,ag,o6,r67];generalize db:up 0 n7=px;refine nm1c G7.D ag db ?_;intro Sx Gx ed ⟨tx,rx⟩;refine YT Gx.D _ 4 (by decide) (by decide) ?_;intro Sy Gy;obtain⟨X,hm,bc⟩:=Qe rn (n:=4) (by decide);have hm:rn%4=(X:Nat):=hm;rw[hm];have hi:∃ss:Str,ld1 (.a tx [ofL [116],ofL [32],ofL [120,10],ofL [45]]) X=some (ofL ss, .a):=by
   have:X=0\/X=1\/X=2\/X=3:=by omega
   rcases this with rfl|rfl|rfl|rfl
   all_goals exact⟨_,rfl⟩
  obtain⟨ss,dc⟩:=hi;have dd:Jo 1 (.m px 0 4 1 4) (.d .i64 (X:Nat))=some (.e px X, .a):=by
   have:X=0\/X=1\/X=2\/X=3:=by omega
   rcases this with rfl|rfl|rfl|rfl<;>rfl
  have gy:=Gx.B Gy;have de:=Gy.A rx;simp[XZ,QR,dd,de,dc,f5,f8,f9,gy.A r57,gy.A r87,gy.A r97,e1.1,e2.1,af];refine⟨ap f8 f5, ?_⟩;exact ab (ai gy) (Jp1 ss) ar (eQ gy) hK
 rw[Ja];simp only[XY,simprocAttr,q0];by_cases bd:(k2:Int)=1\/(k2:Int)=2
 ·have df:¬(2:Int)=1:=by decide
  rcases bd with q1|q1
  rw[Je,Ja];simp only[XY,simprocAttr,q1];rotate_left;rw[Je,Ja];simp[XY,q1,df]
  all_goals
   rw[Ja];simp[XZ,QR,f5,f8,f9,ao,r57,r87,r97,r117,v1,e1.1,e2.1,af];refine⟨ap f8 f5, ?_⟩
   grind
 have q1:¬(k2:Int)=1:=fun N=>bd (.inl N);have q2:¬(k2:Int)=2:=fun N=>bd (.inr N);rw[Je,Ja];simp[XY,q1,q2];by_cases q3:(k2:Int)=3
 ·rw[Ja];simp[XY,q3];by_cases bb:l.length=0
  ·have aa:(l.length:Int)=0:=by omega
   rw[Je,Ja];simp[XY,am,ae,aa];rw[Ja];simp only[XZ,simprocAttr,QR,f5,f8,f9,ao,r57,r87,r97,r117,v1,e1.1,e2.1,af];refine⟨ap f8 f5, ?_⟩
   grind
  have aa:¬(l.length:Int)=0:=by omega
  by_cases bx:(E.a.length:Int)>6
  ·rw[Je,Ja];simp only[XY,simprocAttr,f5,am,r57,av,ae,aa,bx];rw[Ja];simp only[XZ,simprocAttr,QR,f5,f8,f9,ao,r57,r87,r97,r117,v1,e1.1,e2.1,af];refine⟨ap f8 f5, ?_⟩
   grind
  rw[Je,Ja];simp only[XY,simprocAttr,f5,am,r57,av,ae,aa,bx];have ha:IntKind.i64.wrap (97+(E.a.length:Int))=((97+E.a.length:Nat):Int):=by rw[JV (by omega) (by omega)];omega
  have hu:IntKind.u8.wrap ((97+E.a.length:Nat):Int)=((97+E.a.length:Nat):Int):=by
   have:E.a.length<7:=by omega
   generalize E.a.length=q at*
   match q,this with
   |0,_=>rfl
   |1,_=>rfl
   |2,_=>rfl
   |3,_=>rfl
   |4,_=>rfl
   |5,_=>rfl
   |6,_=>rfl
  obtain⟨n7,ag⟩:=nxE S7;have o5:=fun W=>nes (Jr G7.D ag (Jb r57) W);rw[Ja];simp only[XY,simprocAttr,f5,r57,av,ha,hu,ag];obtain⟨A1,ay⟩:=exE (S7.B fun t=>Row.a t [V.d .u8 ((97+E.a.length:Nat):Int)]);have be:Gr S7 A1:=by rw[ay];exact Gr.G G7.D (Jd _)
  have dg:A1.A (up 0 n7)= .a S7.t [V.d .u8 ((97+E.a.length:Nat):Int)]:=by rw[ay,<-ag,KW,Xd rfl]
  have bz:=Jqy dg (by omega);rw[<-ay];clear ay;simp only[XY,simprocAttr,Jts,bz];have dh:=be.A r67;rw[Ja];simp only[XY,simprocAttr,f6,am,dh,ae];refine YT be.D _ l.length (by omega) (by omega) ?_;intro S8 G8;obtain⟨X,hm,bc⟩:=Qe rn (show 0<l.length by omega);rw[hm];have g8:=be.B G8;have di:=(((G3.B G4).B (G5.B G6)).B G7).B g8;obtain⟨rq,oq,e,a1,_,a3,a4,a5,a6,a7⟩:=(lT di).A bc;obtain⟨ck,dy,ef,eg,cn,cb,eh,rfl,z2,z6,dj,cp,ei,dk⟩:=YN a5;have b0:=hg _ (Xh bc);obtain⟨hC,hG⟩:=QC a5 b0 2;have ej:=b0.a;generalize l[X].2=id at*;obtain⟨n8,b5⟩:=nxE S8;simp only[XY,simprocAttr,a1,a4,z2,z6,b5];generalize b6:up 0 n8=bf;refine nmA G8.D b5 b6 ?_;intro S9 G9 dz ⟨t14,r14⟩;have g9:=g8.B G9;have r59:=g9.A r57;obtain⟨nm,b7⟩:∃nm:Str,nm=[118,UInt8.ofNat (97+E.a.length)]:=⟨_,rfl⟩
  have b8:nm≠[]:=by grind
  obtain⟨nA,az⟩:=nxE S9;have dl:=fun W=>nes (Jr G9.D az (Jb r59) W);rw[Ja];simp only[XY,simprocAttr,f5,r59,az,dl];obtain⟨x0,bg⟩:=exE (up 0 nA);obtain⟨bh,aj⟩:=exE (S9.B fun t=>Row.a t []);have b9:Gr S9 bh:=by rw[aj];exact Gr.G G9.D (Jd _)
  obtain⟨tx,rx⟩:∃t,bh.A x0= .a t []:=⟨_,by rw[aj,bg];exact Ye az _⟩
  have ca:S9.A x0= .none:=by rw[bg];exact nx0 G9.D az 0
  rw[<-aj,<-bg];clear aj;have dm:SlF S9 bh (.m x0 0 0 2 0) 2 []:=⟨by simp, .inr ⟨x0,tx,ca,by grind, .inr rfl⟩⟩
  have dn:=aq.B g9;have n1:=h1.D (Q:=fun _=>True) (st':=S9) fun r M O=>⟨trivial,dn.d r O⟩
  refine Qw (S0:=S9) b9 dm (n1.H b9) (Jcq _) (by grind) (by grind) fun Sa v5 ga cc d0 dp=> ?_;simp at cc;obtain⟨nC,cd⟩:=nxE Sa;simp only[XZ,simprocAttr,ga.A r14,cd];rw[<-b7];clear b7;have ek:rowOf v5=some x0\/S9.A x0= .none:= .inr ca;have dq:AccR (fun _ _ e x=>e=varE x) (fun _=>True) S9 Sa v5 2 E.a:=⟨E.a.map varE,cc,by simp,fun i M O=>by simp⟩
  refine Jp2 (C:=fun _ _ e x=>e=varE x) (S0:=S9) (x:=(nm,id)) (fun N W=>N) ga cd dq rfl rfl rfl (by omega) ?_;intro Sd v6 gd dr el em;have ah:SlF S9 Sd v6 2 ((E.a++[(nm,id)]).map varE):=by
   obtain⟨ds,q1,q2,q3⟩:=dr;have:ds=(E.a++[(nm,id)]).map varE:=ZP (by simp[q2]) fun i M O=>by grind
   grind
  have s6:=ah.D.B;have dt:=ah.D.A;have ce:=gd.A r59;simp[XY,f5,ce,s6,dt];refine⟨JQ (v:= .m x0 0 0 2 0) (w:= .e bf 7) (q:=bf) rfl rfl rfl fun e=>Jb r14 (by injection e with e;grind), ?_⟩;refine nmW gd.D ce ?_;intro du C5 ⟨en,r511⟩;have bi:=g9.B gd;have bj:=(C5.d bf (Jb (gd.A r14)) fun e=>Jb (g8.A r57) (by grind)).trans (gd.A r14);rw[Ja];simp[XZ,bj];refine JcA (P:=fun r=>S1.A r= .none) C5.D (hC.A fun r M O=>⟨M,by rw[C5.d r (by rw[(G9.B gd).d r O];exact O) fun e=>Jb r5 (by grind),(G9.B gd).d r O]⟩) hG ?_;intro dv cf a0 a9;obtain⟨v3,v4⟩:=a9.D;have au:∀{Y:Pt} {t:Nat} {l:List V},S7.A Y= .a t l->Y≠p5->cf.A Y= .a t l:=fun{Y t l} N n=>by
   have h1:=bi.A N;exact a0.A ((C5.d Y (Jb h1) n).trans h1)
  have cg:=a0.A r511;simp[XZ,QR,f5,f8,f9,cg,au r87 (Ne.symm bp),au r97 (Ne.symm c4),v3,v4,s6,e2.1,af];refine⟨ap f8 f5, ?_⟩;have al:∀r,k.A r≠ .none->cf.A r=k.A r:=fun r M=>by
   have h1:=(aq.B bi).d r M;have h2:du.A r=Sd.A r:=C5.d r (by grind) fun e=>M (by grind);rw[a0.d r (by grind),h2,h1]
  refine ab al (qn ⟨3,nm,dv,rfl, .inr (.inr (.inr ⟨rfl,b8⟩)),a9.A fun r M O=>⟨NQ r (M.elim (fun M=>M) fun M=>(g7.B bi).I (C5.B M)),rfl⟩⟩) ar (E2:=varS E nm id) ⟨v6,ak,rfl,ah.D.D fun r M O=>⟨NQ r ((g7.B g9).I M), ?_⟩,(eT (Gr.F G1.D)).D.B (fun _ _ N=>N.A fun r M O=>⟨PQ r M,by rw[al r M.2,G1.d r M.2]⟩) fun r M O=>⟨PQ r M,by rw[al r M.2,G1.d r M.2]⟩⟩ ?_
  ·have h2:=C5.d r O fun e=>Jb r59 (by grind);rw[a0.d r (by grind),h2]
  ·have eo:(varS E nm id).a.length=E.a.length+1:=by simp[varS]
   refine⟨⟨hK.k.f,fun x M=> ?_,hK.k.c,by omega,hK.k.d⟩,by omega,hK.n⟩;rcases Xy.1 M with M|M
   ·exact hK.k.b x M
   grind
 rw[Ja];simp[XY,q3];obtain⟨P1,bk⟩:∃P1:Pt->Prop,∀r,P1 r<->(P r/\k.A r≠ .none)\/S1.A r= .none:=⟨fun r=>(P r/\k.A r≠ .none)\/S1.A r= .none,fun r=>Iff.rfl⟩
 have bl:∀r,P1 r\/S7.A r= .none->Q r:=fun r M=>by
  rcases M with M|M
  ·grind
  ·exact NQ r (g7.I M)
 have ch:EnvC P1 S7 [.d .i64 (E.c:Nat),vv,ak] E:=(eT g7).A fun r M O=>⟨(bk r).2 (.inl M),rfl⟩
 have bm:=a8.A (Q:=P1) (S':=S7) fun r M O=>⟨(bk r).2 (.inr M),rfl⟩
 have cj:KG P1 S7 lv l:=(lT (((G3.B G4).B (G5.B G6)).B G7)).za fun r M O=>⟨(bk r).2 (.inr M),rfl⟩
 have bn:R10C (fun _=>True) S7 [.d .i64 rk, .d .i64 rn, .d .i64 x, .d .i64 y,c,kv] r:=cu.F aq;have M7:=hM.F aq;by_cases q4:(k2:Int)=4
 ·rw[Ja];simp[XY,q4];rw[Ja];simp[XZ,f0,f5,f6,ao,r57,r67,r117];refine QD (P:=fun v S'=>∃e,v= .j e/\ju Q S' e) (fun n L=>(Jud (M7.D n) (bn.A kR) (ch.A kR) hK (bm.A kR)).A fun v S' N=>⟨N.1,N.2.imp fun e N=>⟨N.1,N.2.A fun r M O=>⟨bl r M,rfl⟩⟩⟩) G7.D (fun v S' n N=>N.imp fun e N=>⟨N.1,N.2.A kR⟩) ?_;rintro _ S8 G8 ⟨e,rfl,hL⟩;obtain⟨nk,na,nt,nn,cl,cm,co,cq,cr,rfl,b1,b2,b3,b4⟩:=JcB (Jj7 hL);simp[XZ,QR,f5,f8,f9,G8.A r57,G8.A r87,G8.A r97,b1,b2,b3,b4,e1.1,e2.1,af];refine⟨ap f8 f5, ?_⟩;exact ab (ai G8) (qn hL) ar (eQ G8) hK
 rw[Ja];simp[XY,q4];by_cases q5:(k2:Int)=5
 ·rw[Ja];simp[XY,q5];rw[Ja];simp[XZ,f0,f6,am,ao,r67,r117];refine QD (P:=fun v S'=>∃e,v= .j e/\ju Q S' e) (fun n L=>(Jtj (M7.D n) (bn.A kR) (cj.za kR) hg (by omega) (bm.A kR)).A fun v S' N=>⟨N.1,N.2.imp fun e N=>⟨N.1,N.2.A fun r M O=>⟨bl r M,rfl⟩⟩⟩) G7.D (fun v S' n N=>N.imp fun e N=>⟨N.1,N.2.A kR⟩) ?_;rintro _ S8 G8 ⟨e,rfl,hL⟩;obtain⟨nk,na,nt,nn,cl,cm,co,cq,cr,rfl,b1,b2,b3,b4⟩:=JcB (Jj7 hL);simp[XZ,QR,f5,f8,f9,G8.A r57,G8.A r87,G8.A r97,b1,b2,b3,b4,e1.1,e2.1,af];refine⟨ap f8 f5, ?_⟩;exact ab (ai G8) (qn hL) ar (eQ G8) hK
 rw[Ja];simp[XY,q5];obtain⟨bb,ax⟩:=bw (by omega);obtain⟨z,rfl⟩:∃d',z=d'+1:=⟨z-1,by omega⟩
 rw[Ja];simp[XZ,f0,f3,f5,f6,am,ao,bv,r57,r67,r117];refine QD (P:=fun v S'=>∃e,v= .j e/\NodR Q S' (z+2) (4^(z+1)*sz10 r) e) (fun n L=>(Jrl (H z rfl) (M7.D n) (bn.A kR) (ch.A kR) hK (cj.za kR) hg hN bb (bm.A kR)).A fun v S' N=>⟨N.1,N.2.imp fun e N=>⟨N.1,N.2.A fun r M O=>⟨bl r M,rfl⟩⟩⟩) G7.D (fun v S' n N=>N.imp fun e N=>⟨N.1,N.2.A kR⟩) ?_;rintro _ S8 G8 ⟨e,rfl,hL⟩;obtain⟨nk,na,nt,nn,cl,cm,co,cq,cr,rfl,b1,b2,b3,b4⟩:=JcB hL;simp[XZ,QR,f5,f8,f9,G8.A r57,G8.A r87,G8.A r97,b1,b2,b3,b4,e1.1,e2.1,af];refine⟨ap f8 f5, ?_⟩
 grind
end Go.Proofs.YtmcjecniobkggaaGreat
