/- Raw nodes: not too much; how many they are then. The Maker: an operand as a pipeline; a -/
import Derived.Test.YtdajkeoobbonjaaGreatQ7
set_option linter.constructorNameAsVariable false
set_option maxHeartbeats 64000000
set_option linter.unusedVariables false
set_option linter.unusedSimpArgs false
set_option linter.unusedSectionVars false
set_option maxRecDepth 100000
namespace Go.Proofs.YtdajkeoobbonjaaGreat
open Eva Go.RowKit
variable {n b g:Pt->Prop}{t p T:List V}{k w:St}{z m:Nat}{i:V}{r:V->St->Prop}{q:Option (List Nat)}{f c:Pt}{l:EnvS}{h:List (Opn×Nat)}{j:Tb}{a:Bool}{u:R10}{x:Int}{y:Sch}{W:Fr}{K:Table}
theorem JuR {r:R9}(h:R9C n k t r):∀(f:St),Gr k f->∀c:Int,-4611686018427387904<c->c<4611686018427387904->Dz 32 [.j t, .d .i64 c] f fun v W=>Gr f W/\∃m,v= .d .i64 m/\0<=m/\(m<=c\/m=0):=by
 induction h with
 | @mk Z rn ks kv z hk hn O h3 hl h4 ih=>
 intro f X c aa ab;have hw:=X.D;refine Jl (aT Tryz.func32 rfl) rfl ?_;obtain⟨n0,l⟩:=nxE f;have c2:=O.A;have s2:=O.B;have len2:=O.G;simp only[CT,Tryz.f32,XY,simprocAttr];rw[Ja];simp[XY,l,s2];have gb:Gr f (f.B fun b=> .a b [.d .i64 Z, .d .i64 rn,kv]):=Gr.G hw (Jc _);by_cases Y:c<=0
 ·rw[Jd,Ja];simp only[XZ,simprocAttr,Y]
  grind
 by_cases ha:(6:Int)<z.length
 ·rw[Jd,Ja];simp only[XZ,simprocAttr,Y,l,len2,ha]
  grind
 rw[Jd,Ja];simp[XY,Y,l,len2,ha];have K:IntKind.i64.wrap (c-1)=c-1:=JX (by omega) (by omega);rw[Ja];simp[XY,K];refine Ju (fun p S=>(Gr f S/\∃m,p 1= .d .i64 m/\0<=m/\m<=c)) (fun J hJ=> ?_) ?_
 ·rw[Ja];simp[XY];refine Jo (fun j p S=>∃(i:Nat) (m b:Int),j+i=z.length/\Gr f S/\p 1= .d .i64 m/\0<=m/\m<=c/\p 2= .g (up 0 n0) 0/\p 5= .d .i64 i/\S.A (up 0 n0)= .a f.t [.d .i64 Z, .d .i64 rn,kv]) z.length (by omega) ⟨0,c-1,0,by omega,gb,rfl,by omega,by omega,rfl,by rfl,by rw[<-l];exact JI _ _⟩ ?_;rintro L hL j p S ⟨i,m,_,hj,x,y,s,u,Q,T,U⟩;by_cases M:i<z.length
  ·by_cases N:0<m
   ·obtain⟨q,o,a1,a2,a3,a4,a5⟩:=(O.I (X.A x)).H M;have w:=wiN (i:=i) (by omega);simp[XZ,y,Q,T,U,len2,M,N,a1,a4];refine Je (ih i M (by omega) S (X.A x) m (by omega) (by omega)) ?_;rintro _ S' ⟨g',m',rfl,b1,b2⟩;simp[XZ,T,w];exact⟨z.length-(i+1),by omega,hL _ _ _ ⟨i+1,m',0,by omega,x.A g',rfl,b1,by omega,Q,rfl,g'.B U⟩⟩
   ·simp[XZ,y,Q,T,U,len2,M,N];exact hJ _ _ ⟨x,m,y,s,u⟩
  ·simp[XZ,Q,T,U,len2,M];exact hJ _ _ ⟨x,m,y,s,u⟩
 rintro p S ⟨x,m,y,s,u⟩;simp only[XZ,simprocAttr,y]
 grind
theorem JtX (h:R10C n k t u):∀(K:St),Gr k K->∀p:Int,-4611686018427387904<p->p<4611686018427387904->Dz 16 [.j t, .d .i64 p] K fun v ad=>Gr K ad/\∃m,v= .d .i64 m/\0<=m/\(m=0\/m+(sz10 u:Nat)<=p):=by
 induction h with
 | @mk rk rn w ks a b c kv W hk hn h9 h2 h3 hl h4 ih=>
 intro K g0 p ag ah;have hw:=g0.D;refine Jl (aT Tryz.func16 rfl) rfl ?_;obtain⟨n0,X⟩:=nxE K;have c2:=h2.A;have s2:=h2.B;have len2:=h2.G;obtain⟨x,y,kw,rfl,rfl,rfl,Y⟩:∃x y kw,a= .d .i64 x/\b= .d .i64 y/\c=kw/\kw.B=true:=by
  cases h9 with
  |mk _ _ k2 _ _ _=>exact⟨_,_,_,rfl,rfl,rfl,k2.B⟩
 have ai:c.A=some [c]:=by cases c<;>first|rfl|(cases Y;done)
 simp only[CT,Tryz.f16,XY,simprocAttr];rw[Ja];simp[XY,X,s2,Y];refine YW ?_;intro Sb N;have gb:Gr K Sb:=by rw[N];exact Gr.G hw (Jc _)
 obtain⟨tb,M⟩:∃f,Sb.A (up 0 n0)= .a f [.d .i64 rk, .d .i64 rn, .d .i64 x, .d .i64 y,c,kv]:=⟨_,by rw[N];simp[XZ,X];rfl⟩
 clear N;by_cases h0:p<=0
 ·rw[Jd,Ja];simp only[XZ,simprocAttr,h0]
  grind
 by_cases ha:(8:Int)<W.length
 ·rw[Jd,Ja];simp only[XZ,simprocAttr,h0,M,len2,ha]
  grind
 rw[Jd,Ja];simp[XY,h0,M,len2,ha];refine Je (JuR h9 Sb (g0.A gb) 20 (by decide) (by decide)) ?_;rintro _ S2 ⟨g2,m2,rfl,_,_⟩;have ae:=g2.B M;have af:=gb.A g2;by_cases s:m2=0
 ·simp only[XZ,simprocAttr,s]
  grind
 simp[XY,s];have Z:IntKind.i64.wrap (p-1)=p-1:=JX (by omega) (by omega);rw[Ja];simp[XY,Z];refine Ju (fun O S=>(Gr K S/\∃m,O 1= .d .i64 m/\0<=m/\(m=0\/m+(1+KA ks:Nat)<=p))) (fun J hJ=> ?_) ?_
 ·rw[Ja];simp[XY];refine Jo (fun j O S=>∃(i:Nat) (m:Int),j+i=W.length/\Gr K S/\O 1= .d .i64 m/\0<=m/\m<=p/\(m=0\/m+(1+KA (ks.take i):Nat)<=p)/\O 2= .g (up 0 n0) 0/\O 5= .d .i64 i/\S.A (up 0 n0)= .a tb [.d .i64 rk, .d .i64 rn, .d .i64 x, .d .i64 y,c,kv]) W.length (by omega) ⟨0,p-1,by omega,af,rfl,by omega,by omega, .inr (by simp[KA]),rfl,by rfl,ae⟩ ?_;rintro L hL j O S ⟨i,m,hj,Q,U,z,aa,ab,f2,f5,M⟩;by_cases hi:i<W.length
  ·by_cases s:0<m
   ·obtain⟨q,o,a1,a2,a3,a4,a5⟩:=(h2.I (g0.A Q)).H hi;have T:=wiN (i:=i) (by omega);simp[XZ,U,f2,f5,M,len2,hi,s,a1,a4];refine Je (ih i hi (by omega) S (g0.A Q) m (by omega) (by omega)) ?_;rintro _ S' ⟨g',m',rfl,b1,b2⟩;simp[XZ,f5,T];have hq:=Jan (l:=ks) (i:=i) (by omega);exact⟨W.length-(i+1),by omega,hL _ _ _ ⟨i+1,m',by omega,Q.A g',rfl,b1,by omega,by omega,f2,rfl,g'.B M⟩⟩
   ·simp[XZ,U,f2,f5,M,len2,hi,s];exact hJ _ _ ⟨Q,m,U,z, .inl (by omega)⟩
  ·simp[XZ,f2,f5,M,len2,hi];rw[Xt (by omega)]at ab;exact hJ _ _ ⟨Q,m,U,z,ab⟩
 rintro O S ⟨Q,m,U,z,aa⟩;simp only[XZ,simprocAttr,U];exact⟨Q,m,rfl,z,by rw[Jij];exact aa⟩
theorem nm2K {K:St->Prop}(g:WF k)(d:k.b=up 0 f)(h:∀e,Gr k e->k.A (up 0 f)= .none->k.A (up 1 f)= .none->(∃c,e.A (up 0 f)= .a c t)->(∃c,e.A (up 1 f)= .a c p)->K e):K ((k.B fun c=> .a c t).B fun c=> .a c p):=by
 have j:=Gr.G g (Jc t);have m:(k.B fun c=> .a c t).A (up 0 f)= .a k.t t:=Qi d _;have i:(k.B fun c=> .a c t).b=up 1 f:=by
  show up 1 k.b=_;rw[d];rfl
 have l:=Gr.G j.D (Jc p);exact h _ (j.A l) (nx0 g d 0) (nx0 g d 1) ⟨_,l.B m⟩ ⟨_,Qi i _⟩
theorem JqA {P:Pt->Prop}{S:St}:∀(d:Nat) {e:List V} {o:Opn},OprC P S d e o->fitO d o->fitO (d+1) o
 |0,_,_,h,_=>h.elim
 | d+1,_, .mk k m f y n b p,⟨z,J,_,_,K,L,M,q⟩,⟨r,s,g⟩=>⟨r,s,fun c a=>⟨(g c a).1,fun o l=>by
    obtain⟨i,t,rfl⟩:=X1 a;obtain⟨v,_,u,N,O,w⟩:=q i (by omega) t;obtain⟨j,x,rfl⟩:=X1 l;exact JqA d (w j (by omega) x) ((g _ a).2 _ l)⟩⟩
theorem JqB {P:Pt->Prop}{S:St}:∀(d:Nat) {e:List V} {o:Opn},OprC P S d e o->docO d o->docO (d+1) o
 |0,_,_,h,_=>h.elim
 | d+1,_, .mk k q l x n b p,⟨y,z,_,_,J,K,L,r⟩,g=>fun a=>⟨(g a).1,fun c f=>⟨((g a).2 c f).1,fun o m=>by
    obtain⟨i,s,rfl⟩:=X1 f;obtain⟨v,_,t,M,N,u⟩:=r i (by omega) s;obtain⟨j,w,rfl⟩:=X1 m;exact JqB d (u j (by omega) w) (((g a).2 _ f).2.1 _ m),((g a).2 c f).2.2⟩⟩
def PipR (P:Pt->Prop)(S:St)(v:V):Prop:=∃p,PipC P S 3 v p/\fitP 3 p/\docP 3 p
theorem PipR.A {P Q:Pt->Prop}{S S':St}{v:V}(h:PipR P S v)(k:∀r,P r->S.A r≠ .none->Q r/\S'.A r=S.A r):PipR Q S' v:=by
 obtain⟨p,a,b⟩:=h;exact⟨p,a.A k,b⟩
theorem JkF {d:Nat}{e:List V}{y L:Str}{u:List Str}{p:Pipe}(M:PipC n k 2 i p)(g:YD 3 (.mk 5 y u L x a p)):PipR n k i:=by
 obtain⟨N,O,Q,J⟩:=M;obtain⟨⟨_,T,K⟩,U,_⟩:=g;obtain⟨W,z⟩:=U rfl;have up:∀c∈p,∀o∈c,∃e,OprC n k 2 e o:=by
  intro c s o t;obtain⟨f,X,rfl⟩:=X1 s;obtain⟨v,_,Y,Z,a2,a3⟩:=J f (by omega) X;obtain⟨j,hj,rfl⟩:=X1 t
  grind
 have w:∀r,n r->k.A r≠ .none->n r/\k.A r=k.A r:=kR;refine⟨p,⟨N,O,Q,fun f l a=>(J f l a).A (fun e m h=>h.G) w⟩,⟨T,fun c s=>⟨(K c s).1,fun o t=> ?_⟩⟩,W,fun c s=>⟨(z c s).1,fun o t=> ?_,(z c s).2.2⟩⟩
 ·obtain⟨e,q⟩:=up c s o t;exact JqA 2 q ((K c s).2 o t)
 ·obtain⟨e,q⟩:=up c s o t;exact JqB 2 q ((z c s).2.1 o t)
theorem JrZ {o:Opn}{t1 t2:Nat}(h:OprC n k 3 t o)(g:YD 3 o)(v:k.A f= .a t1 t)(l:k.A c= .a t2 [.m f 0 1 7 1])(r:n f)(s:n c):PipR n k (.m c 0 1 1 1):=by
 obtain⟨w,x,y⟩:=g;refine⟨[[o]],⟨[[.m f 0 1 7 1]],SlAt.J (es:=[[.m f 0 1 7 1]]) l s (by simp),rfl,fun i a b=> ?_⟩,⟨by simp,fun d u=> ?_⟩,by simp,fun d u=> ?_⟩
 ·match i,a with
  | 0,_=>exact⟨_,rfl,[t],SlAt.J (es:=[t]) (t:=t1) (by grind) r (by simp[h.F]),rfl,fun j a b=>by
     grind⟩
 ·grind
 grind
theorem Jnj {o:Opn}(z:WF k)(h:OprC n k 3 t o)(g:YD 3 o):
  Dz 77 [.j t] k fun v J=>Gr k J/\PipR (fun r=>n r\/k.A r= .none) J v:=by
 refine Jn tabM (aT Tryz.func77 rfl) rfl z fun K l=> ?_;have W:=h;obtain⟨c,X,L,sx,i,b,p⟩:=o;obtain⟨pv,qv,rfl,M,w⟩:=h;have d1:=M.A;have N:=M.B;have d3:=w.B.2;have O:=w.B.1;obtain⟨Y,m⟩:=nxE k;simp only[CT,Tryz.f77,XY,simprocAttr];rw[Ja];simp[XY,m,N,O];generalize x:up 0 Y=p1;refine nm1 z m x ?_;intro Q s Z ⟨t1,y⟩;by_cases T:c=5
 ·subst T;rw[Jd,Ja];simp[XZ,y];exact l _ _ (fun r e=>s.d r e) fun u=>JkF (d:=0) (e:=[]) (LstAt.G w (fun _ _ h=>h.A (fun _ _ h=>OprC.A (fun r a b=>⟨.inl a,u.d r b⟩) h) (fun r a b=>⟨.inl a,u.d r b⟩)) fun r a b=>⟨.inl a,u.d r b⟩) g
 ·obtain⟨n1,q⟩:=nxE Q;rw[Jd,Ja];simp[XY,y,T];rw[Ja];simp[XZ,y,q,N,O];refine nm2K (K:=K _) s.D q ?_;intro S2 G2 a1 a2 ⟨t2,r2⟩ ⟨t3,r3⟩;have f:∀r,Q.A r= .none->k.A r= .none:=fun r e=>s.I e;have U:=s.A G2;exact l _ _ (fun r e=>U.d r e) fun u=>JrZ (t1:=t2) (t2:=t3) (W.A fun r a b=>⟨.inl a,U.d r b⟩) g r2 r3 (.inr (f _ a1)) (.inr (f _ a2))
def MkN (S:St)(nv tv:V):Prop:=∃(ns:List Str) (ts:List Nat),SlAt (fun _=>True) S nv 1 (strs ns)/\SlAt (fun _=>True) S tv 1 (ints ts)/\ts.length=ns.length/\0<ns.length/\ns.length<1000
theorem MkN.A {S S':St}{a b:V}(h:MkN S a b)(k:∀r,S.A r≠ .none->S'.A r=S.A r):MkN S' a b:=by
 obtain⟨c,d,f,g,i⟩:=h;exact⟨c,d,f.D fun r p e=>⟨p,k r e⟩,g.D fun r p e=>⟨p,k r e⟩,i⟩
structure MkS (Z U:Pt->Prop) (ru rm:Pt) (s:Sch) (tb:Tb) (S:St):Prop where
 b:DT Z S U ru s tb
 a:OfF s tb
 f:s.c=[]
 d:∀nd∈tb.a,nd.b.length<=4
 c:∃t nv tv,S.A rm= .a t [.g ru 0,nv,tv]/\MkN S nv tv
section
variable {Z U : Pt -> Prop} {ru rm : Pt} {s : Sch} {tb : Tb} {S S' : St}
theorem MkS.F (h:MkS Z U ru rm s tb S)(g:Gr S S'):MkS Z U ru rm s tb S':=by
 refine⟨h.b.B g,h.a,h.f,h.d, ?_⟩;obtain⟨t,e,i,j,k⟩:=h.c;exact⟨t,e,i,g.B j,k.A g.d⟩
theorem MkS.D (h:MkS Z U ru rm s tb S)(n:Nat):MkS Z U ru rm s tb {S with a:=n}:=by
 refine⟨h.b.D (Jq h.b.wf n),h.a,h.f,h.d, ?_⟩;obtain⟨t,g,i,j,k⟩:=h.c;exact⟨t,g,i,j,k.A fun r e=>rfl⟩
end
def jw (P:Pt->Prop)(S:St)(e:List V):Prop:=∃(k:Int) (nm:Str) (pv:V),e=[.d .i64 k, .d .i64 0,ofL [],ofL nm,pv, .e, .e, .h false, .e]/\(k=2\/k=4\/k=9\/(k=3/\nm≠[]))/\PipR P S pv
theorem jw.A {P Q:Pt->Prop}{S S':St}{e:List V}(h:jw P S e)(k:∀r,P r->S.A r≠ .none->Q r/\S'.A r=S.A r):jw Q S' e:=by
 obtain⟨a,b,c,d,e,f⟩:=h;exact⟨a,b,c,d,e,f.A k⟩
theorem PipR.D (h:PipR n k i):i.B=true/\i.A=some [i]:=by
 obtain⟨p,a,_⟩:=h;exact LstAt.B a
theorem Jc0 {P:Pt->Prop}{o:Opn}(e:WF k)(h:OprC P k 3 t o)(g:YD 3 o){f:Bool}(i:∀v d,Gr k d->PipR (fun b=>P b\/k.A b= .none) d v->r v d):Kh (tabT tabD) f q 77 [.j t] W k r:=by
 cases f with
 |false=>exact Je (Jnj e h g) fun v d h=>i v d h.1 h.2
 | true=>
   refine Ji (P:=fun v d=>PipR (fun b=>P b\/k.A b= .none) d v) (Jnj (Jq e k.t) (OprC.A (st:=k) (st':={k with a:=k.t}) kR h) g) ?_;intro v d G c;exact i v d G (PipR.A (S:={d with a:=k.t}) c kR)
theorem YY (w:WF k)(b n:Int)(e:0<n)(f:n<4611686018427387904)(g:∀c,Gr k c->r (.d .i64 (b%n)) c):Kh (tabT tabD) a q 79 [.d .i64 b, .d .i64 n] W k r:=by
 cases a with
 |false=>exact Je (JhH b n k e f) fun v c h=>by obtain⟨rfl,rfl⟩:=h;exact g k (Gr.F w)
 | true=>
   refine Ji (P:=fun v _=>v= .d .i64 (b%n)) ((JhH b n _ e f).A fun v c h=>⟨h.2▸Gr.F (Jq w k.t),h.1⟩) ?_
   grind
theorem Jet (h:R10C n k t u):∃(f g x y:Int) (c i:V) (w:R9) (j:List R10),t=[.d .i64 f, .d .i64 g, .d .i64 x, .d .i64 y,c,i]/\(c.B=true/\c.A=some [c])/\(i.B=true/\i.A=some [i])/\R9C n k [.d .i64 x, .d .i64 y,c] w/\YA n k i j/\u= .mk f g w j:=by
 cases h with
 | @mk q s w j a b c i v L M o l z J K=>
   obtain⟨x,y,rfl,rfl,m⟩:∃x y,a= .d .i64 x/\b= .d .i64 y/\c.B=true/\c.A=some [c]:=by
    cases o with
    |mk _ _ p _ _ _=>exact⟨_,_,rfl,rfl,p.B,p.A⟩
   exact⟨q,s,x,y,c,i,w,j,rfl,m,⟨l.B,l.A⟩,o,⟨v,l,z,J,K⟩,rfl⟩
theorem JtY {E:EnvS}(hM:MkS n b f c y j k)(hr:R10C (fun _=>True) k t u)(hl:KF g k i h)(hg:∀z∈h,jq j E z)(hN:h.length<1000)(hp:jw g k p):
  Dz 81 [.g c 0, .j t,i, .j p] k fun v S'=>Gr k S'/\∃e,v= .j e/\jw (fun u=>g u\/k.A u= .none) S' e:=by
 have hw:=hM.b.wf;refine Jn tabM (aT Tryz.func81 rfl) rfl hw fun K bb=> ?_;have bc:=hp;obtain⟨J,nm,pv,rfl,hk,bd⟩:=hp;obtain⟨v1,v2⟩:=bd.D;obtain⟨tm,nv,tv,ai,ns,aj,ak,al,be,ab,bn⟩:=hM.c;have ag:=ak.G;rw[Jv]at ag;have af:=al.G;rw[JP,be]at af;obtain⟨rk,rn,x,M,z,kv,w,ks,rfl,⟨c1,c2⟩,⟨k1,k2⟩,h9,bo,rfl⟩:=Jet hr;have ah:J8 i=some (.d .i64 (h.length:Nat), .a):=by
  obtain⟨es,q1,q2,_⟩:=hl;have:=q1.G
  grind
 obtain⟨n0,am⟩:=nxE k;simp only[CT,Tryz.f81,XY,simprocAttr];rw[Ja];simp[XY,am,v1,c1,k1];generalize bf:up 0 n0=p5;generalize bg:up 1 n0=p7;generalize bh:up 2 n0=p8;refine nm3 hw am bf bg bh ?_;intro S1 G1 ⟨bp,bq,br⟩ ⟨bt,bu,bv⟩ ⟨t5,r5⟩ ⟨t7,r7⟩ ⟨t8,r8⟩;have ao:=G1.B ai;have ap:¬(ns.length:Int)=0:=by omega
 have aq:ns≠[]:=fun e=>by rw[e]at ab;cases ab
 rw[Jd,Ja];simp[XY,ao,ag,ap,aq];rw[Ja];simp[XY,r5,ao,ag];refine YY G1.D _ ns.length (by omega) (by omega) ?_;intro S2 G2;obtain⟨m0,bi,bl⟩:=KU rn ab;rw[bi];simp[XY];rw[Jd,Ja];simp[XY];have ad:∀{S5:St} {N:Nat} {e:List V},Gr k S5->jw (fun u=>(g u\/k.A u= .none)/\u≠p8) S5 e->K (.j e) (S5.D p8 N fun O=> .a O e):=by
  intro S5 N e Q T;have kf:∀u,u≠p8->(S5.D p8 N fun O=> .a O e).A u=S5.A u:=fun u x=>Jj _ _ _ x;exact bb _ _ (fun u x=>by rw[kf u fun M=>x (by grind),Q.d u x]) fun _=>⟨e,rfl,T.A fun u a W=>⟨a.1,kf u a.2⟩⟩
 refine Jo (fun X fr S'=>∃Y:Nat,X+Y=h.length/\Gr k S'/\S'.A p5=S1.A p5/\S'.A p7=S1.A p7/\S'.A p8=S1.A p8/\fr 0= .g c 0/\fr 2=i/\fr 5= .g p5 0/\fr 7= .g p7 0/\fr 8= .g p8 0/\fr 9= .d .i64 (m0:Nat)/\fr 10= .d .i64 (Y:Nat)) h.length (by omega) ⟨0,by omega,G1.A G2,G2.d _ (Jb r5),G2.d _ (Jb r7),G2.d _ (Jb r8),rfl,rfl,rfl,rfl,rfl,by simp[XZ],by simp[XZ]<;>rfl⟩ ?_;rintro L hL X fr S' ⟨Y,hj,g2,q5,q7,q8,f0,f2,f5,f7,f8,f9,ae⟩;have ar:=q5.trans r5;have au:=q7.trans r7;have aa:=q8.trans r8;by_cases hn:Y<h.length;rotate_left
 ·simp[XZ,f2,f7,f8,ae,ah,hn,au,aa,v1];exact ad g2 (bc.A fun u a W=>⟨⟨.inl a,fun e=>W (by grind)⟩,g2.d u W⟩)
 have av:=wiN (i:=Y) (by omega);have bj:0<h.length:=by omega
 rw[Jd,Ja];simp[XY,f2,ae,ah,hn];rw[Jd];simp[XY];rw[Ja];simp[XY,f2,f5,ae,ar,ah];refine YY g2.D _ h.length (by omega) (by omega) ?_;intro S3 G3;obtain⟨m,hm,aw⟩:=KU (IntKind.i64.wrap (IntKind.i64.wrap (rn.tdiv 3)+Y)) bj;rw[hm];have g3:=g2.A G3;have l3:KF (fun u=>g u/\k.A u≠ .none) S3 i h:=hl.za fun u a W=>⟨⟨a,W⟩,g3.d u W⟩
 obtain⟨q,o,e,a1,⟨a2,_⟩,a3,a4,a5,a6,a7⟩:=l3.A aw;obtain⟨z0,z1,z2,z3,z4,z5,z6,rfl,_,hz⟩:=JkD a5;obtain⟨hC,hG⟩:=QC a5 (hg _ (Xh aw)) 2;obtain⟨n3,ax⟩:=nxE S3;simp[XY,a1,a4,hz,ax];generalize ay:up 0 n3=bw;refine nmA G3.D ax ay ?_;intro S4 G4 bm ⟨bx,az⟩;have g4:=g3.A G4;have a0:=g4.B ai;obtain⟨rt,qt,b1,b3,b4⟩:∃u q,Js 1 tv (.d .i64 (m0:Nat))=some (.g u q, .a)/\k.A u≠ .none/\ld1 (k.A u) q=some (.d .i64 (aj[m0]'(by omega):Nat), .a):=by
  obtain⟨u,q,x1,_,x3,_,x5⟩:=al.H (i:=m0) (by rw[JP];omega);have x0:=x5 0 (by simp[ints]);simp[ints]at x0;exact⟨u,q,x1,x3,x0⟩
 obtain⟨rs,qs,d1,d3,d4⟩:∃u q,Js 1 nv (.d .i64 (m0:Nat))=some (.g u q, .a)/\k.A u≠ .none/\ld1 (k.A u) q=some (ofL (ns[m0]'(by omega)), .a):=by
  obtain⟨u,q,x1,_,x3,_,x5⟩:=ak.H (i:=m0) (by rw[Jv];omega);have x0:=x5 0 (by simp[strs]);simp[strs]at x0;exact⟨u,q,x1,x3,x0⟩
 generalize aj[m0]'(by omega)=ty at b4;generalize ns[m0]'(by omega)=sn at d4;have a8:=b4;rw[<-g4.d rt b3]at a8;rw[Ja];simp[XY,f0,f9,a0,af,ap,aq,b1,a8,az];have a9:S4.A p8= .a t8 _:=(G4.d _ (by rw[G3.d _ (Jb aa)];exact Jb aa)).trans ((G3.d _ (Jb aa)).trans aa);by_cases hc:(ty:Int)=(h[m].2:Nat);rotate_left
 ·simp[XZ,hc,ae,av];exact⟨h.length-(Y+1),by omega,hL _ _ _ ⟨Y+1,by omega,g4,((G3.A G4).d _ (Jb ar)).trans q5,((G3.A G4).d _ (Jb au)).trans q7,((G3.A G4).d _ (Jb aa)).trans q8,f0,f2,f5,f7,f8,f9,rfl⟩⟩
 have ba:=d4;rw[<-g4.d rs d3]at ba;simp[XY,hc];rw[Ja];simp[XZ,f0,f9,a0,d1,ba,az];refine Jc0 (P:=fun u=>g u/\k.A u≠ .none) G4.D (hC.A G4.H) hG ?_;intro v S5 G5 hv;obtain⟨v3,v4⟩:=hv.D;have bk:=G5.B a9;simp[XZ,f8,v3,v4,bk];refine ad (g4.A G5) ⟨9,sn,v,rfl, .inr (.inr (.inl rfl)),hv.A fun u a W=>⟨⟨?_, ?_⟩,rfl⟩⟩
 ·rcases a with a|a
  ·grind
  ·exact .inr (g4.I a)
 ·rcases a with a|a
  ·grind
  ·exact fun e=>Jb a9 (by grind)
theorem nm4 {d:C}{Q:Out->Prop}{q r u:Pt}{bs o:List V}(s:WF k)(l:k.b=up 0 f)(v:up 0 f=c)(w:up 1 f=q)(J:up 2 f=r)(L:up 3 f=u)
  (h:∀i,Gr k i->(k.A c= .none/\k.A q= .none/\k.A r= .none/\k.A u= .none)->(c≠q/\c≠r/\c≠u/\q≠r/\q≠u/\r≠u)->(∃t,i.A c= .a t bs)->(∃t,i.A q= .a t p)->(∃t,i.A r= .a t T)->(∃t,i.A u= .a t o)->wC K z d W i Q):wC K z d W ((((k.B fun t=> .a t bs).B fun t=> .a t p).B fun t=> .a t T).B fun t=> .a t o) Q:=by
 have m:=Gr.G s (Jc bs);have j:(k.B fun t=> .a t bs).A c= .a k.t bs:=by rw[<-v];exact Qi l _
 have M:(k.B fun t=> .a t bs).b=up 0 (up 1 f):=by
  show up 1 k.b=_;rw[l];rfl
 have n:=Ch.H (fun _=>False) m;refine nm3 (p:=q) (q:=r) (r:=u) m.D M (by rw[<-w];rfl) (by rw[<-J];rfl) (by rw[<-L];rfl) fun i G ⟨N,O,P⟩ ⟨U,X,Y⟩ x y g=> ?_;exact h i (m.A G) ⟨by rw[<-v];exact nx0 s l 0,n.B N,n.B O,n.B P⟩ ⟨fun e=>Jb j (by grind),fun e=>Jb j (by grind),fun e=>Jb j (by grind),U,X,Y⟩ ⟨_,G.B j⟩ x y g
structure MEnv (tb:Tb) (d:Nat) (E:EnvS):Prop where
 k:EnvK tb E
 v:E.a.length<=7
 n:E.b.length+d<=10
theorem JqC {E:EnvS}(o:MkS n b f c y j k)(p:EnvC g k t E)(u:EnvK j E)(w:∀v m l,Gr k m->KF (fun h=>k.A h= .none) m v l->(∀i∈l,jq j E i)->l.length<=60->r v m):Kh (tabT tabD) true q 76 [.g f 0, .j t, .d .i64 2] W k r:=by
 have x:=o.D k.t;refine Ji (P:=fun v m=>∃l,KF (fun h=>k.A h= .none) m v l/\(∀i∈l,jq j E i)/\l.length<=60) (JtV o.f x.b o.a (EnvC.A (st:=k) (st':={k with a:=k.t}) p kR) u 2 (by decide)) ?_;rintro v m G ⟨l,z,J,K⟩;exact w v m l G (KF.za (S:={m with a:=k.t}) z kR) J K
theorem YT {c:Opn×Nat}(h:jI n k t c):∃(a:Int) (j:Str) (l:V) (o:Str) (f:Int) (b:Bool) (m:V),t=[.d .i64 a,ofL j,l,ofL o, .d .i64 f, .h b,m, .d .i64 (c.2:Nat)]/\(l.B=true/\l.A=some [l])/\(m.B=true/\m.A=some [m])/\∃i p,c.1= .mk a j i o f b p/\SlAt n k l 1 (strs i):=by
 obtain⟨u,rfl,r⟩:=h;obtain⟨⟨a,j,i,o,f,b,p⟩,g⟩:=c;obtain⟨l,m,rfl,q,s⟩:=r;exact⟨a,j,l,o,f,b,m,rfl,⟨q.B,q.A⟩,s.B,i,p,rfl,q⟩
theorem JuS {E:EnvS}(hM:MkS n b f c y j k)(hr:R10C (fun _=>True) k p u)(hE:EnvC g k t E)(hK:MEnv j z E)(hp:jw g k T):
  Dz 80 [.g c 0, .j t, .j p, .j T] k fun v S'=>Gr k S'/\∃e,v= .j e/\jw (fun u=>g u\/k.A u= .none) S' e:=by
 have hw:=hM.b.wf;refine Jn tabM (aT Tryz.func80 rfl) rfl hw fun K bd=> ?_;have be:=hp;obtain⟨o,nm,pv,rfl,hk,bf⟩:=hp;obtain⟨v1,v2⟩:=bf.D;obtain⟨tm,nv,tv,av,b8⟩:=hM.c;obtain⟨rk,rn,x,J,N,kv,w,ks,rfl,⟨c1,c2⟩,⟨k1,k2⟩,h9,b9,rfl⟩:=Jet hr;have bg:=hE;obtain⟨vv,ca,rfl,h1,h2,e1,e2⟩:=K8 hE;have aj:=h1.G;rw[Xr]at aj;have cc:=hK.v;obtain⟨n0,aw⟩:=nxE k;simp only[CT,Tryz.f80,XY,simprocAttr];rw[Ja];simp[XY,aw,v1,c1,k1,e1.1,e2.1];generalize bh:up 0 n0=p5;generalize bi:up 1 n0=p6;generalize bj:up 2 n0=p7;generalize bk:up 3 n0=p8;refine nm4 hw aw bh bi bj bk ?_;intro S1 G1 ⟨cd,ce,cf,cg⟩ _ ⟨t5,r5⟩ ⟨t6,r6⟩ ⟨t7,r7⟩ ⟨t8,r8⟩;have af:∀{S5:St} {O:Nat} {e:List V},Gr k S5->jw (fun u=>(g u\/k.A u= .none)/\u≠p8) S5 e->K (.j e) (S5.D p8 O fun W=> .a W e):=by
  intro S5 O e X h;have kf:∀u,u≠p8->(S5.D p8 O fun W=> .a W e).A u=S5.A u:=fun u x=>Jj _ _ _ x;exact bd _ _ (fun u x=>by rw[kf u fun J=>x (by grind),X.d u x]) fun _=>⟨e,rfl,h.A fun u a Y=>⟨a.1,kf u a.2⟩⟩
 rw[Jd,Ja];simp[XY];refine Jo (fun aa fr S'=>∃i:Nat,aa+i=E.a.length/\Gr S1 S'/\fr 0= .g c 0/\fr 5= .g p5 0/\fr 6= .g p6 0/\fr 7= .g p7 0/\fr 8= .g p8 0/\fr 9= .d .i64 (i:Nat)) E.a.length (by omega) ⟨0,by omega,Gr.F G1.D,rfl,rfl,rfl,rfl,rfl,by rfl⟩ ?_;rintro L hL aa fr S2 ⟨i,hj,G2,f0,f5,f6,f7,f8,f9⟩;have g2:=G1.A G2;have ak:=G2.B r5;have ax:=G2.B r6;have bl:=G2.B r7;have aq:=G2.B r8;have ch:=g2.B av;by_cases hi:i<E.a.length;rotate_left
 ·simp[XZ,f5,f7,f8,f9,ak,aj,hi,bl,aq,v1];exact af g2 (be.A fun u a Y=>⟨⟨.inl a,fun e=>Y (by grind)⟩,g2.d u Y⟩)
 have ar:IntKind.i64.wrap ((i:Int)+1)=((i+1:Nat):Int):=by rw[JX (by omega) (by omega)];omega
 rw[Jd,Ja];simp[XY,f5,f9,ak,aj,hi];rw[Jd];simp[XY];rw[Ja];simp[XY,f5,f6,f9,ak,ax,aj];refine YY G2.D _ E.a.length (by omega) (by omega) ?_;intro S3 G3;obtain⟨m,hm,bm⟩:=KU (IntKind.i64.wrap (rn+i)) (show 0<E.a.length by omega);rw[hm];have g3:=g2.A G3;obtain⟨rv,qv,b1,_,_,b4,_⟩:=(h1.I g3).H (i:=m) (by grind);simp[varE]at b4;have bn:=(hK.k.b _ (Xh bm)).2;generalize E.a[m]=va at*;obtain⟨va,vt⟩:=va;simp at b4 bn;have bo:=G3.B ak;obtain⟨n3,ay⟩:=nxE S3;simp[XY,b1,b4,ay];generalize az:up 0 n3=bp;refine nmA G3.D ay az ?_;intro S4 G4 b5 ⟨cj,bq⟩;have g4:=g3.A G4;have br:=g4.B av;have a0:=G4.B bo;rw[Ja];simp[XY,f0,f5,br,a0];refine JqC (hM.F g4) (bg.A g4.H) hK.k ?_;intro lv S5 l G5 hl hg hN;have au:J8 lv=some (.d .i64 (l.length:Nat), .a):=by
  obtain⟨es,q1,q2,_⟩:=hl;have:=q1.G
  grind
 have g5:=g4.A G5;simp[XY];rw[Ja];simp[XY];have cl:=G5.B a0;have a2:=G5.B bq;have bt:=G5.B (G4.B (G3.B ax));have bu:=G5.B (G4.B (G3.B aq));obtain⟨M,al⟩:=loE fun aa fr S'=>∃q:Nat,aa+q=l.length/\Gr S5 S'/\fr 0= .g c 0/\fr 5= .g p5 0/\fr 6= .g p6 0/\fr 7= .g p7 0/\fr 8= .g p8 0/\fr 9= .d .i64 (i:Nat)/\fr 10= .g bp 0/\fr 11=lv/\fr 12= .d .i64 (q:Nat);refine JD M l.length (by omega) ((al _ _ _).2 ⟨0,by omega,Gr.F G5.D,f0,f5,f6,f7,f8,f9,rfl,rfl,by rfl⟩) ?_;clear f0 f5 f6 f7 f8 f9;intro j2 fr S6 bv;obtain⟨q,hq,G6,f0,f5,f6,f7,f8,f9,ad,ag,ah⟩:=(al _ _ _).1 bv;by_cases a8:q<l.length;rotate_left
 ·simp[XZ,f9,ag,ah,au,a8,ar];exact⟨E.a.length-(i+1),by omega,hL _ _ _ ⟨i+1,by omega,G2.A (G3.A (G4.A (G5.A G6))),f0,f5,f6,f7,f8,rfl⟩⟩
 have ai:IntKind.i64.wrap ((q:Int)+1)=((q+1:Nat):Int):=by rw[JX (by omega) (by omega)];omega
 have bw:=G6.B bt;rw[Jd,Ja];simp[XY,ag,ah,au,a8];rw[Jd];simp[XY];rw[Ja];simp[XY,f6,ag,ah,bw,au];refine YY G6.D _ l.length (by omega) (by omega) ?_;intro S7 G7;obtain⟨m2,bx,ap⟩:=KU (IntKind.i64.wrap (IntKind.i64.wrap (rn.tdiv 5)+q)) (show 0<l.length by omega);rw[bx];have bz:=G6.A G7;have l7:=hl.za (S':=S7) (Q:=fun u=>S4.A u= .none) bz.H;obtain⟨rq,oq,e,a1,_,a3,a4,a5,a6,a7⟩:=l7.A ap;obtain⟨ck,a9,cm,co,cn,cb,cq,rfl,z2,z6,b0,cp,cr,_⟩:=YT a5;obtain⟨hC,hG⟩:=QC a5 (hg _ (Xh ap)) 2;obtain⟨n7,ba⟩:=nxE S7;simp[XY,a1,a4,z2,z6,ba];generalize bb:up 0 n7=cs;refine nmA G7.D ba bb ?_;intro S8 G8 b6 ⟨ct,am⟩;have ae:=G7.A G8;have ab:=ae.B (G6.B a2);by_cases ht:l[m2].2=vt;rotate_left
 ·have ao:¬((l[m2].2:Nat):Int)=(vt:Nat):=by omega
  rw[Ja];simp[XZ,ad,ah,ab,am,ao,ai];exact⟨l.length-(q+1),by omega,(al _ _ _).2 ⟨q+1,by omega,G6.A ae,f0,f5,f6,f7,f8,f9,ad,ag,rfl⟩⟩
 have ao:((l[m2].2:Nat):Int)=(vt:Nat):=by omega
 by_cases hv:a9=va
 ·rw[Ja];simp[XZ,ad,ah,ab,am,ao,hv,ai];exact⟨l.length-(q+1),by omega,(al _ _ _).2 ⟨q+1,by omega,G6.A ae,f0,f5,f6,f7,f8,f9,ad,ag,rfl⟩⟩
 rw[Ja];simp[XY,ad,ab,am,ao,hv];rw[Ja];simp[XZ,ad,ab,am];refine Jc0 (P:=fun u=>S4.A u= .none) G8.D (hC.A G8.H) hG ?_;intro v S9 G9 bc;obtain⟨v3,v4⟩:=bc.D;have b7:=G9.B ab;have g9:=g5.A (G6.A (ae.A G9));have b2:=G9.B (ae.B (G6.B bu));simp[XZ,f8,v3,v4,b2];refine af g9 ⟨4,va,v,rfl, .inr (.inl rfl),bc.A fun u a Y=> ?_⟩;have b3:S4.A u= .none:=by
  rcases a with a|a
  ·exact a
  ·exact Ch.B (Ch.H (fun _=>False) (G5.A (G6.A ae))) a
 exact⟨⟨.inr (g4.I b3),fun e=>Jb (G4.B (G3.B aq)) (by grind)⟩,rfl⟩
def NodR (P:Pt->Prop)(S:St)(d B:Nat)(e:List V):Prop:=∃n,NodC P S 3 d e n/\fitN (fitP 3) d n/\docN 3 d n/\sizN d n<=B
def kG (P:Pt->Prop)(S:St)(d B:Nat)(v:V):Prop:=∃l,NodsC P S 3 d v l/\fitL (fitP 3) d l/\docL 3 d l/\sizL d l<=B
section
variable {P Q : Pt -> Prop} {S S' : St} {d B B' : Nat} {e : List V} {v : V}
theorem NodR.A (h:NodR P S d B e)(k:∀r,P r->S.A r≠ .none->Q r/\S'.A r=S.A r):NodR Q S' d B e:=by
 obtain⟨n,a,b⟩:=h;exact⟨n,a.A k,b⟩
theorem NodR.D (h:NodR P S d B e)(k:B<=B'):NodR P S d B' e:=by
 obtain⟨n,a,b,c,f⟩:=h;exact⟨n,a,b,c,by omega⟩
theorem kG.A (h:kG P S d B v)(k:∀r,P r->S.A r≠ .none->Q r/\S'.A r=S.A r):kG Q S' d B v:=by
 obtain⟨n,a,b⟩:=h;exact⟨n,a.A k,b⟩
theorem kG.F (h:kG P S d B v):v.B=true/\v.A=some [v]:=by
 obtain⟨p,a,_⟩:=h;exact LstAt.B a
theorem kG.D :kG P S d B .e:=⟨[],LstAt.F,⟨by simp,by simp⟩,(by simp[docL]),by simp[sizL]⟩
theorem Jir {f g:V}(N:x=5\/x=6\/x=7)(n:PipR P S i)(q:kG P S d z f)(r:kG P S d m g):NodR P S (d+1) (1+z+m) [.d .i64 x, .d .i64 0,ofL [],ofL [],i,f,g, .h a, .e]:=by
 obtain⟨p,s,t,j⟩:=n;obtain⟨l,u,v,w,y⟩:=q;obtain⟨c,J,K,L,M⟩:=r;refine⟨.mk x 0 [] [] p l c a [],⟨i,f,g, .e,rfl,s,u,J,LstAt.F⟩,⟨t,fun e=>by omega,v,K,by simp⟩,⟨by omega,fun e=>absurd e j.1,fun e=>by omega,fun _=>j,fun e=>by omega,w,L,(by simp)⟩, ?_⟩;show 1+(l.map (sizN d)).sum+(c.map (sizN d)).sum+0<=_;unfold sizL at y M;omega
theorem qF (h:jw P S e):NodR P S (d+1) 1 e:=by
 obtain⟨k,b,c,rfl,i,p,f,g,a⟩:=h;exact⟨.mk k 0 [] b p [] [] false [],⟨c, .e, .e, .e,rfl,f,LstAt.F,LstAt.F,LstAt.F⟩,⟨g,fun e=>by grind,⟨by simp,by simp⟩,⟨by simp,by simp⟩,by simp⟩,⟨by omega,fun e=>absurd e a.1,fun e=>by omega,fun _=>a,fun e=>by rfl,(by simp),(by simp),(by simp)⟩,by simp[sizN]⟩
theorem JqD (t:Str):NodR P S (d+1) 1 [.d .i64 1, .d .i64 0,ofL t,ofL [], .e, .e, .e, .h false, .e]:=
 ⟨.mk 1 0 t [] [] [] [] false [],⟨.e, .e, .e, .e,rfl,LstAt.F,LstAt.F,LstAt.F,LstAt.F⟩,⟨⟨by simp,(by simp)⟩,fun e=>by omega,⟨by simp,by simp⟩,⟨by simp,by simp⟩,by simp⟩,⟨by omega,fun e=> .inl rfl,fun e=>rfl,fun e=>absurd rfl e,fun e=>by omega,(by simp),(by simp),(by simp)⟩,by simp[sizN]⟩
end
def AccR {α:Type}(C:(Pt->Prop)->St->List V->α->Prop)(Q:Pt->Prop)(S0 S:St)(v:V)(z:Nat)(l:List α):Prop:=∃es,SlF S0 S v z es/\es.length=l.length/\∀i (h:i<es.length) (h':i<l.length),C (fun r=>Q r/\rowOf v≠some r) S es[i] l[i]
theorem JqE {α:Type}{C:(Pt->Prop)->St->List V->α->Prop}(hC:∀{P J:Pt->Prop} {k o:St} {t:List V} {x:α},C P k t x->(∀r,P r->k.A r≠ .none->J r/\o.A r=k.A r)->C J o t x){S0:St}{l:List α}{x:α}(K:Gr S0 k)(hn:k.b=up 0 f)(h:AccR C n S0 k i z l)(hx:C (fun r=>n r/\rowOf i≠some r) k t x)(N:t.length=z)(O:Kc t=true)(hl:l.length<1000){R:V->St->Prop}
  (c:∀o q,Gr S0 o->AccR C n S0 o q z (l++[x])->(∀r,rowOf q=some r->k.A r= .none)->(∀p,k.A p≠ .none->rowOf i≠some p->o.A p=k.A p)->R q o):wW (appV (k.B fun g=> .a g t) z i (.m (up 0 f) 0 1 z 1)) (k.B fun g=> .a g t) R:=by
 obtain⟨T,U,W,h3⟩:=h;have s:Gr k (k.B fun g=> .a g t):=Gr.G K.D (Jc _);have u:SlAt (fun r=>r=up 0 f) (k.B fun g=> .a g t) (.m (up 0 f) 0 1 z 1) z [t]:=by
  have:=QE (st:=k) (z:=z) (e:=t) N
  grind
 refine Yc (S0:=S0) (K.A s) (U.G s) u (fun y hy=>by grind) (by simp) (by simp) (by grind) ?_;intro o q X Y Z hk;have L:∀r,rowOf q=some r->k.A r= .none:=fun r w=>by
  rw[Z]at w;injection w with w;have:=J6 s.D;rw[w]at this;exact s.I this
 have M:∀p,k.A p≠ .none->rowOf i≠some p->o.A p=k.A p:=fun p a b=>(hk p (by rw[s.d p a];exact a) b).trans (s.d p a);have kk:∀r,(n r/\rowOf i≠some r)->k.A r≠ .none->(n r/\rowOf q≠some r)/\o.A r=k.A r:=fun r a b=>⟨⟨a.1,fun t=>b (L r t)⟩,M r b a.2⟩
 refine c o q X ⟨T++[t],Y,by simp[W],fun j a b=> ?_⟩ L M
 grind
def AccO {α:Type}(C:(Pt->Prop)->St->List V->α->Prop)(Q:Pt->Prop)(S:St)(v:V)(z:Nat)(l:List α):Prop:=∃es,KV S v z es/\es.length=l.length/\∀i (h:i<es.length) (h':i<l.length),C (fun r=>Q r/\rowOf v≠some r) S es[i] l[i]
theorem Jnk {α:Type}{C:(Pt->Prop)->St->List V->α->Prop}(hC:∀{P w:Pt->Prop} {k q:St} {t:List V} {x:α},C P k t x->(∀r,P r->k.A r≠ .none->w r/\q.A r=k.A r)->C w q t x){l:List α}{x:α}(J:WF k)(K:k.b=up 0 f)(h:AccO C n k i z l)(U:C (fun r=>n r/\rowOf i≠some r) k t x)(L:t.length=z)(u:Kc t=true)(W:l.length<1000){R:V->St->Prop}
  (g:∀q s,Ch (fun p=>rowOf i=some p) k q->AccO C n q s z (l++[x])->(∀r,rowOf s=some r->k.A r= .none)->R s q):wW (appV (k.B fun j=> .a j t) z i (.m (up 0 f) 0 1 z 1)) (k.B fun j=> .a j t) R:=by
 obtain⟨M,N,O,X⟩:=h;refine JcM J K N L u (by omega) ?_;intro q s c T y;have Y:∀r,(n r/\rowOf i≠some r)->k.A r≠ .none->(n r/\rowOf s≠some r)/\q.A r=k.A r:=fun r a b=>⟨⟨a.1,fun t=>b (y r t)⟩,c.d r b a.2⟩
 refine g q s c ⟨M++[t],T,by simp[O],fun o a b=> ?_⟩ y
 grind
theorem AccO.D {α:Type}{C:(Pt->Prop)->St->List V->α->Prop}{Q:Pt->Prop}:AccO C Q k .e z ([]:List α):=⟨[],KV.I _ _,rfl,fun i h=>absurd h (XH _)⟩
theorem AccO.A {α:Type}{C:(Pt->Prop)->St->List V->α->Prop}(hC:∀{P c:Pt->Prop} {S S':St} {e:List V} {x:α},C P S e x->(∀r,P r->S.A r≠ .none->c r/\S'.A r=S.A r)->C c S' e x){Q:Pt->Prop}{S S':St}{v:V}{z:Nat}{l:List α}(h:AccO C Q S v z l)(k:∀r,(Q r\/rowOf v=some r)->S.A r≠ .none->S'.A r=S.A r):AccO C Q S' v z l:=by
 obtain⟨f,d,g,j⟩:=h;exact⟨f,d.F fun r e=>k r (.inr e) (d.A e),g,fun i a b=>hC (j i a b) fun r p q=>⟨p,k r (.inl p.1) q⟩⟩
theorem AccO.F {α:Type}{C:(Pt->Prop)->St->List V->α->Prop}{l:List α}(h:AccO C n k i z l):i.B=true/\i.A=some [i]:=by
 obtain⟨b,a,_⟩:=h;exact⟨a.G.B,a.G.A⟩
def CasR (d B:Nat)(P:Pt->Prop)(S:St)(e:List V)(c:Str×List Nod):Prop:=CasC (NodC P S 3 d) P S e c/\fitL (fitP 3) d c.2/\docL 3 d c.2/\sizL d c.2<=B
theorem CasR.A {d B:Nat}{P Q:Pt->Prop}{S S':St}{e:List V}{c:Str×List Nod}(h:CasR d B P S e c)(k:∀r,P r->S.A r≠ .none->Q r/\S'.A r=S.A r):CasR d B Q S' e c:=⟨h.1.A (fun _ _ h=>NodC.A k h) k,h.2⟩
theorem JtZ {B:Nat}(a:Str)(h:kG n k z B i):∃c,CasR z B n k [ofL a,i] c:=by
 obtain⟨l,b,e⟩:=h;exact⟨(a,l),⟨i,rfl,b⟩,e⟩
theorem JlD {α:Type}{f:α->Nat}{b:Nat}:∀{l:List α},(∀x∈l,f x<=b)->(l.map f).sum<=l.length*b
 |[],_=>by simp
 | a::r,h=>by
   have d:=h a (Xu ..);have e:=JlD fun x c=>h x (Xi _ c);rw[XK,Z0,XF,Zm];omega
theorem JnV {o:Nat}{v u:V}{t:List (Str×List Nod)}(K:PipR n k i)(L:kG n k z o v)(s:AccO (CasR z m) n k u 2 t)(M:∀r,rowOf u=some r->n r)(N:t.length<=4):NodR n k (z+1) (1+4*m+o) [.d .i64 8, .d .i64 0,ofL [],ofL [],i, .e,v, .h a,u]:=by
 obtain⟨p,O,Q,w⟩:=K;obtain⟨g,T,U,W,X⟩:=L;obtain⟨Y,Z,c2,J⟩:=s;have hC:∀c∈t,fitL (fitP 3) z c.2/\docL 3 z c.2/\sizL z c.2<=m:=fun c s=>by
  obtain⟨j,hi,rfl⟩:=X1 s;exact(J j (by omega) hi).2
 refine⟨.mk 8 0 [] [] p [] g a t,⟨i, .e,v,u,rfl,O,LstAt.F,T,Y,Z.G.D fun r q m=>⟨M r q,rfl⟩,c2,fun j x y=>(J j x y).1.A (fun _ _ h=>NodC.A (fun r q m=>⟨q.1,rfl⟩) h) fun r q m=>⟨q.1,rfl⟩⟩,⟨Q,fun e=>by omega,⟨by simp,by simp⟩,U,by omega,fun c s=>(hC c s).1⟩,⟨by omega,fun e=>absurd e w.1,fun e=>by omega,fun _=>w,fun e=>rfl,by simp,W,fun c s=>(hC c s).2.1⟩, ?_⟩;have hs:=JlD (f:=fun c:Str×List Nod=>(c.2.map (sizN z)).sum) (b:=m) (l:=t) fun c s=>(hC c s).2.2;have h4:t.length*m<=4*m:=XT _ N;show 1+0+(g.map (sizN z)).sum+(t.map fun c=>(c.2.map (sizN z)).sum).sum<=_;unfold sizL at X;omega
theorem KI {d:Bool}{args:List V}{P:V->St->Prop}(h:∀n,WF {k with a:=n}->Does K z args {k with a:=n} fun v c=>Gr {k with a:=n} c/\P v c)(e:WF k)(g:∀v c n,P v c->P v {c with a:=n})(i:∀v c,Gr k c->P v c->r v c):Kh K d q z args W k r:=by
 cases d with
 |false=>exact Je (h k.a e) fun v c b=>i v c b.1 b.2
 | true=>
   refine Ji (P:=fun v c=>P v {c with a:=k.a}) ((h k.t (Jq e k.t)).A fun v c b=>⟨b.1,g v c _ b.2⟩) ?_;intro v c G b;exact i v c G (g v {c with a:=k.a} c.a b)
def Jdy (Z U:Pt->Prop)(ru rm:Pt)(s:Sch)(tb:Tb)(d:Nat):Prop:=∀(S:St) (P:Pt->Prop) (e:List V) (E:EnvS) (rv:V) (rs:List R10),MkS Z U ru rm s tb S->EnvC P S e E->MEnv tb d E->YA (fun _=>True) S rv rs->Dz 23 [.g rm 0, .j e,rv, .d .i64 (d:Nat)] S fun v S'=>Gr S S'/\kG (fun r=>P r\/S.A r= .none) S' (d+1) (4^d*KA rs) v
section
variable {Z U P : Pt -> Prop} {ru rm : Pt} {s : Sch} {tb : Tb} {S : St} {E : EnvS} {e : List V} {mk : Bool} {ow : Option (List Nat)} {fr : Fr} {Q : V -> St -> Prop}
theorem Jb1 (H:Jdy Z U ru rm s tb z)(f:MkS Z U ru rm s tb S)(k:EnvC P S e E)(l:MEnv tb z E){c:List R10}(m:YA (fun _=>True) S i c)(o:∀v a,Gr S a->kG (fun r=>P r\/S.A r= .none) a (z+1) (4^z*KA c) v->v.B=true->v.A=some [v]->Q v a):Kh (tabT tabD) mk ow 23 [.g rm 0, .j e,i, .d .i64 (z:Nat)] fr S Q:=by
 refine KI (P:=fun v a=>kG (fun r=>P r\/S.A r= .none) a (z+1) (4^z*KA c) v) (fun n w=>H _ P e E i c (f.D n) (k.A kR) l (m.A kR)) f.b.wf (fun v a n h=>h.A kR) fun v a g h=>o v a g h h.F.1 h.F.2
theorem Jis {id:Nat}(k:WF S)(l:EnvC P S e E)(i:EnvK tb E)(q:∀a b,Gr S b->EnvC (fun r=>P r\/S.A r= .none) b a (Q4 E id)->Q (.j a) b):Kh (tabT tabD) mk ow 126 [.j e, .d .i64 (id:Nat)] fr S Q:=by
 refine KI (P:=fun v b=>∃a,v= .j a/\EnvC (fun r=>P r\/S.A r= .none) b a (Q4 E id)) (fun n w=>JrX w (l.A kR) i.e i.f fun x m=>(i.c x m).1) k (fun v b n h=> ?_) fun v b g h=> ?_
 ·obtain⟨a,o,p⟩:=h;exact⟨a,o,p.A kR⟩
 grind
theorem atT {id:Nat}(f:MkS Z U ru rm s tb S)(hid:id<tb.a.length)(m:∀e x y,Gr S e->SlAt (fun r=>U r\/Z r) e x 1 (strs (Jm tb id).b)->SlAt (fun r=>U r\/Z r) e y 1 (ints (Jm tb id).c)->Q (.j [.d .i64 (Jm tb id).a,ofL (Jm tb id).d,x,y]) e):Kh (tabT tabD) mk ow 125 [.g ru 0, .d .i64 (id:Nat)] fr S Q:=by
 refine KI (P:=fun v e=>∃x y,v= .j [.d .i64 (Jm tb id).a,ofL (Jm tb id).d,x,y]/\SlAt (fun r=>U r\/Z r) e x 1 (strs (Jm tb id).b)/\SlAt (fun r=>U r\/Z r) e y 1 (ints (Jm tb id).c)) (fun n w=>(atD (f.b.D w) f.a hid).A fun v e h=> ?_) f.b.wf (fun v e n h=> ?_) fun v e g h=> ?_
 ·omega
 ·obtain⟨x,y,i,k,l⟩:=h;exact⟨x,y,i,k.D kR,l.D kR⟩
 grind
theorem JsZ (m:MkS Z U ru rm s tb S)(p:KF P S i h)(q:∀c∈h,jq tb E c)(u:h.length<1000){r:R9}(y:R9C (fun _=>True) S t r)(L:∀k o f,Gr S f->OprC (fun r=>P r\/S.A r= .none) f 3 k o->YD 3 o->Q (.j k) f):Kh (tabT tabD) mk ow 78 [.g ru 0,i, .d .i64 x, .j t, .d .i64 2] fr S Q:=by
 refine KI (P:=fun v f=>∃k o,v= .j k/\OprC (fun r=>P r\/S.A r= .none) f 3 k o/\YD 3 o) (fun n w=>JuQ m.a q u 2 (by decide) _ P (m.b.D w) (p.za kR) _ x t r ⟨w,fun _ _=>rfl⟩ (y.A kR)) m.b.wf (fun v f n e=> ?_) fun v f g e=> ?_
 ·obtain⟨k,o,z,J,K⟩:=e;exact⟨k,o,z,OprC.A (st:=f) (st':={f with a:=n}) kR J,K⟩
 grind
theorem JuT (c:WF S)(f:EnvC P S e E)(i:EnvK tb E)(a:Str)(k:∀b,Gr S b->Q (.d .i64 (kE E a)) b):Kh (tabT tabD) mk ow 117 [.j e,ofL a] fr S Q:=by
 refine KI (P:=fun v _=>v= .d .i64 (kE E a)) (fun n w=>findD w (f.A kR) i.e a) c (fun v b n h=>h) fun v b g h=> ?_
 grind
theorem JqF (k:MkS Z U ru rm s tb S)(q:KF P S i h)(r:∀c∈h,jq tb E c)(u:h.length<1000){n:Int}(v:∀m b o w y z J K L M t,Gr S o->Box8 m w y z J K L M t->(b=true->∃e,∃f:e<h.length,jI P o m h[e]/\(Jm tb h[e].2).a=x)->Q (.p [.j m, .h b]) o):Kh (tabT tabD) mk ow 120 [.g ru 0,i, .d .i64 x, .d .i64 n] fr S Q:=by
 cases mk with
 |false=>exact Jqy k.b k.a q r u ⟨k.b.wf,fun _ _=>rfl⟩ v
 |true=>exact JsX k.b k.a q r u ⟨k.b.wf,fun _ _=>rfl⟩ v
end
theorem MEnv.A {E:EnvS}(h:MEnv j (z+1) E){id:Nat}(g:id<j.a.length):MEnv j z (Q4 E id):=by
 have i:(Q4 E id).b.length<=E.b.length:=Z2 _ _;have l:=h.n;have m:=h.k.f;exact⟨⟨g,h.k.b,fun x a=>h.k.c x ((Hp.1 a).1),h.k.e,by omega⟩,h.v,by omega⟩
theorem MEnv.F {E:EnvS}(h:MEnv j (z+1) E):MEnv j z E:=⟨h.k,h.v,by have:=h.n;omega⟩
theorem MEnv.D {E:EnvS}(h:MEnv j (z+1) E){x:Int×List Str×Nat}(f: -1<=x.1/\x.2.1.length<100000/\x.2.2<j.a.length):MEnv j z (Qe E x):=by
 have g:=h.n;have e:(Qe E x).b.length=E.b.length+1:=by simp[Qe]
 refine⟨⟨h.k.d,h.k.b,fun y a=> ?_,h.k.e,by omega⟩,h.v,by omega⟩;rcases Xs.1 a with a|a
 ·exact h.k.c y a
 ·rw[Xj.1 a];exact f
theorem JqG {P:Pt->Prop}{e:List R10}(h:YA P w i e)(k:Nat)(r:k<=e.length):∃f g,QG w 6 i none (some (.d .i64 (k:Nat))) none=some (f, .a)/\QG w 6 i (some (.d .i64 (k:Nat))) none none=some (g, .a)/\YA P w f (e.take k)/\YA P w g (e.drop k):=by
 obtain⟨s,j,l,t,m⟩:=h;obtain⟨f,n,o,_⟩:=Jfn j (k:=k) (by omega);obtain⟨g,p,q,_⟩:=JbM j (k:=k) (by omega);refine⟨f,g,n,p,⟨_,o,by simp[l],by simp;omega,fun c a b=> ?_⟩,⟨_,q,by simp[l],by simp;omega,fun c a b=> ?_⟩⟩
 ·simp;exact m c _ _
 ·simp;exact m _ _ _
theorem MkS.A {Z U:Pt->Prop}{e g:Pt}{s:Sch}{i:Tb}{S S':St}(h:MkS Z U e g s i S)(w:WF S')(k:∀r,S.A r≠ .none->S'.A r=S.A r):MkS Z U e g s i S':=by
 refine⟨h.b.A w fun r u=>k r (h.b.f r u),h.a,h.f,h.d, ?_⟩;obtain⟨t,l,m,j,n⟩:=h.c;exact⟨t,l,m,by rw[k _ (Jb j)];exact j,n.A k⟩
theorem nmWK {K:St->Prop}(d:WF k)(c:k.A f= .a z t)(h:∀b,Ch (fun r=>r=f) k b->(∃z,b.A f= .a z p)->K b):K (k.D f z fun u=> .a u p):=
 h _ ((Ch.G _ d).J (Jb c) (by rw[c];rfl) (.inl rfl) (Jc _)) ⟨_,Jh _ _ _ _⟩
theorem _root_.Eva.EnvC.D {c:V}{E:EnvS}(h:EnvC n k [.d .i64 x,i,c] E):LstAt (NarC n k) n k c 3 E.b:=by
 obtain⟨a,b,e,g,f⟩:=h;simp at e;obtain⟨_,rfl,rfl,_⟩:=e;exact f
theorem nmW2 {c:C}{Q:Out->Prop}(i:WF k)(d:k.A f= .a m t)(h:∀b,Ch (fun r=>r=f) k b->(∃m,b.A f= .a m T)->wC K z c W b Q):wC K z c W ((k.D f m fun u=> .a u p).D f k.t fun u=> .a u T) Q:=by
 have g:=(Ch.G (fun r=>r=f) i).J (f:=fun u=> .a u p) (t:=m) (Jb d) (by rw[d];rfl) (.inl rfl) (Jc _);have j:(k.D f m fun u=> .a u p).A f= .a k.t p:=Jh _ _ _ _;exact nmW g.D j fun b C e=>h b (g.A C fun r w=> .inl w) e
theorem Jr0 {P:Pt->Prop}{E:EnvS}(H:Jdy b g f c y j z)(hM:MkS b g f c y j k)(hr:R10C (fun _=>True) k p u)(hE:EnvC P k t E)(hK:MEnv j (z+1) E)(hl:KF P k i h)(hg:∀L∈h,jq j E L)(hN:h.length<=60)(ho:0<h.length)(hp:jw P k T):
  Dz 82 [.g c 0, .j t, .j p, .d .i64 ((z+1:Nat):Nat), .d .i64 x,i, .j T] k fun v S'=>Gr k S'/\∃e,v= .j e/\NodR (fun u=>P u\/k.A u= .none) S' (z+2) (4^(z+1)*sz10 u) e:=by
 have hw:=hM.b.wf;refine Jn tabM (aT Tryz.func82 rfl) rfl hw fun K fl=> ?_;have hs:=hp;obtain⟨M,nm,pv,rfl,hk,ht⟩:=hp;obtain⟨v1,v2⟩:=ht.D;obtain⟨tm,nv,tv,fm,ll⟩:=hM.c;obtain⟨rk,rn,N,O,L,kv,w,ks,rfl,⟨c1,c2⟩,⟨k1,k2⟩,h9,fn,rfl⟩:=Jet hr;have fo:=hE;obtain⟨vv,hu,rfl,h1,h2,e1,e2⟩:=K8 hE;have ld:=hK.n;have hx:J8 i=some (.d .i64 (h.length:Nat), .a):=by
  obtain⟨es,q1,q2,_⟩:=hl;have:=q1.G
  rwa [q2]at this
 have hy:J8 kv=some (.d .i64 (ks.length:Nat), .a)/\ks.length<2^63:=by
  obtain⟨es,q1,q2,q3,_⟩:=fn;have:=q1.G;rw[q2]at this;exact⟨this,q3⟩
 have cr:IntKind.i64.wrap (((z+1:Nat):Int)-1)=((z:Nat):Int):=by rw[JX (by omega) (by omega)];omega
 obtain⟨n0,fp⟩:=nxE k;simp only[CT,Tryz.f82,XY,simprocAttr];rw[Ja];simp only[XY,simprocAttr,fp,v1,c1,k1,e1.1,e2.1];generalize h0:up 0 n0=p8;generalize h5:up 1 n0=p9;generalize fq:up 2 n0=fs;generalize ft:up 3 n0=bj;refine nm4 hw fp h0 h5 fq ft ?_;intro S1 G1 ⟨lm,ln,le,dx⟩ _ ⟨t8,r8⟩ ⟨t9,r9⟩ ⟨lo,fu⟩ ⟨lp,fv⟩;obtain⟨n1,d9⟩:=nxE S1;have o9:=fun M=>nes (Jt G1.D d9 (Jb r9) M);obtain⟨he,h7⟩:∃he:Bool,he=decide (rn.tmod 3=0):=⟨_,rfl⟩
 rw[Ja];simp only[XY,simprocAttr,r9,d9,<-h7];generalize fw:up 0 n1=ak;refine nmA G1.D d9 fw ?_;intro S2 G2 b3 ⟨h8,cd⟩;have g2:=G1.A G2;have hq:IntKind.i64.wrap (((ks.length:Nat):Int).tdiv 2)=((ks.length/2:Nat):Int):=by
  have:((ks.length:Nat):Int).tdiv 2=((ks.length/2:Nat):Int):=rfl;rw[this,JX (by omega) (by omega)]
 have b4:=G2.B r9;rw[Ja];simp only[XY,simprocAttr,b4,hy.1,hq];obtain⟨bv,ov,ib,ic,ih,ii⟩:=JqG (P:=fun u=>k.A u≠ .none) (fn.A fun u a W=>⟨W,g2.d u W⟩) (ks.length/2) (by omega);have ij:KA (ks.take (ks.length/2))+KA (ks.drop (ks.length/2))=KA ks:=by rw[<-Jdm,X4]
 rw[Jij,<-ij]at fl;generalize ks.take (ks.length/2)=kb at*;generalize ks.drop (ks.length/2)=ko at*;rw[Ja];simp only[XY,simprocAttr,b4,ib,ic];have ba:=G2.B fv;have a2:bj≠ak:=fun e=>Jb fv (by rw[e];exact b3);obtain⟨Q,hQ⟩:∃Q:Pt->Prop,∀u,Q u<->(P u\/k.A u= .none)/\u≠bj/\u≠ak:=⟨fun u=>(P u\/k.A u= .none)/\u≠bj/\u≠ak,fun u=>Iff.rfl⟩
 have cm:k.A ak= .none:=G1.I b3;have aq:∀{S':St},Ch (fun u=>u=ak) S2 S'->∀u,k.A u≠ .none->S'.A u=k.A u:=fun{S'} Y u a=>by
  rw[Y.d u (by rw[g2.d u a];exact a) fun e=>a (by rw[e];exact cm),g2.d u a]
 have lq:∀{S':St},Ch (fun u=>u=ak) S2 S'->∀u,k.A u= .none->S2.A u≠ .none->u≠ak->S'.A u=S2.A u:=fun{S'} Y u _ W L=>Y.d u W L;have a0:∀{S':St} {P':Pt->Prop},Ch (fun u=>u=ak) S2 S'->S'.A ak≠ .none->(∀u,P' u->Q u)->∀u,(P' u\/S'.A u= .none)->Q u:=fun{S' P'} aa dk Y u a=>by
  rcases a with a|a
  ·exact Y u a
  ·exact(hQ u).2 ⟨.inr (g2.I (aa.B a)),fun e=>by
    rw[e,aa.d bj (Jb ba) a2]at a;exact Jb ba a,fun e=>dk (by rw[<-e];exact a)⟩
 have PQ:∀u,P u/\k.A u≠ .none->Q u:=fun u a=>(hQ u).2 ⟨.inl a.1,fun e=>a.2 (by rw[e];exact dx),fun e=>a.2 (by rw[e];exact cm)⟩;have ea:∀u,Q u->u≠ak:=fun u a=>((hQ u).1 a).2.2;have be:∀{S':St} {ab B:Nat} {e:List V},Ch (fun u=>u=ak) S2 S'->NodR Q S' (z+2) B e->B<=4^(z+1)*(1+(KA kb+KA ko))->K (.j e) (S'.D bj ab fun ad=> .a ad e):=by
  intro S' ab B e aa Y hB;have kf:∀u,u≠bj->(S'.D bj ab fun ad=> .a ad e).A u=S'.A u:=fun u N=>Jj _ _ _ N;exact fl _ _ (fun u N=>by rw[kf u fun O=>N (by rw[O];exact dx),aq aa u N]) fun _=>⟨e,rfl,(Y.A fun u a W=>⟨((hQ u).1 a).1,kf u ((hQ u).1 a).2.1⟩).D hB⟩
 obtain⟨X,hX⟩:∃X,X=4^z:=⟨_,rfl⟩
 have lr:1<=X:=by rw[hX];exact Nat.one_le_pow _ _ (by decide)
 have cx:∀a W:Nat,1+4^z*a+4^z*W<=4^(z+1)*(1+(a+W)):=fun a W=>by
  rw[HI,<-hX];have e:X*(1+(a+W))=X+X*a+X*W:=by rw[GU,GU,ZM];omega
  rw[HG,e];omega
 have io:∀a W:Nat,1+4*(4^z*a)+4^z*W<=4^(z+1)*(1+(a+W)):=fun a W=>by
  rw[HI,<-hX];have e:X*(1+(a+W))=X+X*a+X*W:=by rw[GU,GU,ZM];omega
  rw[HG,e];omega
 refine Ju (fun fr S'=>fr 0= .g c 0/\fr 3= .d .i64 ((z+1:Nat):Nat)/\fr 4= .d .i64 x/\fr 5=i/\fr 8= .g p8 0/\fr 9= .g p9 0/\fr 13= .g fs 0/\fr 14= .g bj 0/\fr 15= .g ak 0/\fr 17=bv/\Ch (fun u=>u=ak) S2 S'/\∃ev ab,kG Q S' (z+1) (4^z*KA ko) ev/\ev.B=true/\ev.A=some [ev]/\S'.A ak= .a ab [.d .i64 0, .d .i64 0,ofL [],ofL [], .e, .e,ev, .h he, .e]) (fun J hJ=> ?_) ?_
 ·cases he with
  | false=>
    rw[Ja];simp only[XZ,simprocAttr,cd];exact hJ _ _ ⟨rfl,rfl,rfl,rfl,rfl,rfl,rfl,rfl,rfl,rfl,Ch.G _ g2.D, .e,h8,kG.D,rfl,rfl,cd⟩
  | true=>
    rw[Ja];simp only[XZ,simprocAttr,cd,G2.B r8,cr];refine Jb1 (P:=fun u=>P u/\k.A u≠ .none) H (hM.F g2) (fo.A fun u a W=>⟨⟨a,W⟩,g2.d u W⟩) hK.F (ii.A fun u a W=>⟨trivial,rfl⟩) ?_;intro ev S3 G3 ct b5 eb;have a3:=G3.B cd;simp only[XZ,simprocAttr,a3,b5,eb];refine nmWK (K:=J _) G3.D a3 ?_;intro S4 C4 ⟨ab,bg⟩;exact hJ _ _ ⟨rfl,rfl,rfl,rfl,rfl,rfl,rfl,rfl,rfl,rfl,(Ch.H _ G3).A C4 fun u w=> .inl w,ev,ab,ct.A fun u a W=>⟨a0 (Ch.G _ g2.D) (Jb cd) PQ u a,C4.d u W (ea u (a0 (Ch.G _ g2.D) (Jb cd) PQ u a))⟩,b5,eb,bg⟩
 ·rintro fr S3 ⟨f0,f3,f4,f5,f8,f9,dl,a6,ar,bb,C3,ev,t3,ct,b5,eb,a3⟩;have M3:=hM.A C3.D (aq C3);rw[Jd];simp only[XY,simprocAttr];have lf:∀{S' ec:St},Ch (fun u=>u=ak) S' ec->∀u,Q u->S'.A u≠ .none->Q u/\ec.A u=S'.A u:=fun{S' ec} Y u a W=>⟨a,Y.d u W (ea u a)⟩
  have aj:∀{S':St} {ae:Pt} {ab:Nat} {h:List V},Ch (fun u=>u=ak) S2 S'->S2.A ae= .a ab h->ae≠ak->S'.A ae= .a ab h:=fun{S' ae ab h} Y e n=>(Y.d ae (Jb e) n).trans e;have bq:p8≠ak:=fun e=>Jb r8 (by rw[e];exact b3);have br:p9≠ak:=fun e=>Jb r9 (by rw[e];exact b3);have cy:fs≠ak:=fun e=>Jb fu (by rw[e];exact b3);have cu:=G2.B r8;have dy:=G2.B fu;have bt:=g2.B fm;have bu:c≠ak:=fun e=>Jb fm (by rw[e];exact cm);have lT:∀{S':St},Ch (fun u=>u=ak) S2 S'->KF (fun u=>P u/\k.A u≠ .none) S' i h:=fun{S'} Y=>hl.za fun u a W=>⟨⟨a,W⟩,aq Y u W⟩
  have eT:∀{S':St},Ch (fun u=>u=ak) S2 S'->EnvC (fun u=>P u/\k.A u≠ .none) S' [.d .i64 (E.c:Nat),vv,hu] E:=fun{S'} Y=>fo.A fun u a W=>⟨⟨a,W⟩,aq Y u W⟩
  have bT:∀{S':St},Ch (fun u=>u=ak) S2 S'->YA (fun _=>True) S' bv kb:=fun{S'} Y=>ih.A fun u a W=>⟨trivial,by rw[aq Y u a,g2.d u a]⟩
  by_cases k7:x<=7
  ·rw[Ja];simp only[XY,simprocAttr,f4,k7];rw[Ja];simp only[XY,simprocAttr,ar,a3];refine nmW C3.D a3 ?_;intro S4 b6 ⟨t4,bg⟩;have C4:=C3.A b6 fun u w=> .inl w;have b7:=ct.A (lf b6);have cf:=aj C4 bt bu;have b8:=aj C4 b4 br;rw[Ja];simp only[XY,simprocAttr,f0,f5,f9,cf,b8];refine JqF (hM.A C4.D (aq C4)) (lT C4) hg (by omega) ?_;intro ce W S5 w0 w1 w2 w3 w4 w5 w6 wt G5 hb hc;obtain⟨rfl,hw⟩:=hb;obtain⟨n5,bk⟩:=nxE S5;simp only[XY,simprocAttr,hw,bk];generalize fx:up 0 n5=fy;refine nmA G5.D bk fx ?_;intro S6 G6 fz ⟨ls,ed⟩;have bc:=G5.A G6;have C6:=C4.I bc;have dz:=b7.A (lf (Ch.H _ bc));have cg:=bc.B cf;have ef:=bc.B b8;have az:=bc.B bg;by_cases f1:W=true/\¬rn.tmod 2=0;rotate_left
   ·have ay:W=false\/(W=true/\rn.tmod 2=0):=by
     cases W with
     |false=>exact .inl rfl
     |true=>exact .inr ⟨rfl,Z4.1 fun Y=>f1 ⟨rfl,Y⟩⟩
    rcases ay with rfl|⟨rfl,hz⟩
    rw[Jd,Ja];simp only[XY,simprocAttr];rotate_left;rw[Jd,Ja];simp only[XY,simprocAttr,f9,ef,hz]
    all_goals
     rw[Ja];simp only[XZ,simprocAttr,f0,f5,f9,cg,ef];refine JsZ (hM.A C6.D (aq C6)) (lT C6) hg (by omega) (h9.A fun u a W=>⟨a,aq C6 u W⟩) ?_;intro oe o S7 G7 hC hG;have C7:=C6.I G7;have ax:=G7.B az;simp only[XZ,simprocAttr];refine Jc0 (P:=Q) G7.D (hC.A fun u a W=>⟨a0 C6 (Jb az) PQ u a,rfl⟩) hG ?_;intro cz S8 G8 al;have al:=al.A fun u a W=>⟨a0 C7 (Jb ax) (fun _ Y=>Y) u a,rfl⟩
     obtain⟨v3,v4⟩:=al.D;have aw:=G8.B ax;have C8:=C7.I G8;simp only[XY,simprocAttr,ar,aw,v3,v4];refine nmW G8.D aw ?_;intro S9 eg ⟨lt,bh⟩;have C9:=C8.A eg fun u w=> .inl w;have f2:=dz.A (lf ((Ch.H _ (G7.A G8)).A eg fun u w=> .inl w));have f6:=al.A (lf eg);rw[Ja];simp only[XY,simprocAttr,f0,f3,f8,bb,aj C9 cu bq,cr];refine Jb1 H (hM.A C9.D (aq C9)) (eT C9) hK.F (bT C9) ?_;intro dm bw ao ay b1 b2;have ay:=ay.A fun u a W=>⟨a0 C9 (Jb bh) PQ u a,rfl⟩
     have av:=ao.B bh;simp only[XY,simprocAttr,ar,av,b1,b2];refine nmW ao.D av ?_;intro bi ai ⟨eh,am⟩;have au:=(C9.I ao).A ai fun u w=> .inl w;have d0:=lf ((Ch.H _ ao).A ai fun u w=> .inl w);rw[Ja];simp only[XZ,simprocAttr,a6,ar,am,v3,b1,b5,aj au ba a2];exact be au (Jir (.inl rfl) (f6.A d0) (ay.A (lf ai)) (f2.A d0)) (cx _ _)
   obtain⟨rfl,hz⟩:=f1;rw[Jd,Ja];simp only[XY,simprocAttr,f9,ef,hz];obtain⟨af,hj,C,bl⟩:=hc rfl;obtain⟨ck,a7,ei,ej,cn,cb,ek,b9,z2,z6,a8,cp,c0,bx⟩:=YT C;simp only[XV,V.d.injEq]at b9;obtain⟨rfl,rfl,rfl,rfl,rfl,rfl,rfl,⟨_,c3⟩,_⟩:=b9;subst c3;have bf:=hg _ (Xh hj);obtain⟨hC,hG⟩:=QC C bf 2;have a9:=bf.a;have f7:=bf.b;rw[c0]at f7;have ip: -1<=kE E a7:=by
    obtain⟨v,hv⟩:=bf.d;rw[c0]at hv;unfold kE;have hv:Qh E a7=some v:=hv;rw[hv];unfold Qh at hv
    split at hv
    ·injection hv with hv;rw[<-hv];decide
    ·cases hq:Q3 E.a a7 with
     |none=>rw[hq]at hv;cases hv
     | some ag=>
       rw[hq]at hv;have hv:some (ag:Int)=some v:=hv;injection hv with hv;show-1<=v;omega
   have lu:∀u,P u/\k.A u≠ .none->S5.A u≠ .none:=fun u a=>by rw[aq (C4.I G5) u a.2];exact a.2
   rw[Ja];simp only[XY,simprocAttr,ed];refine Jc0 (P:=Q) G6.D (hC.A fun u a W=>⟨PQ u a,G6.d u W⟩) hG ?_;intro cz S7 G7 al;have al:=al.A fun u a W=>⟨a0 C6 (Jb az) (fun _ Y=>Y) u a,rfl⟩
   obtain⟨v3,v4⟩:=al.D;have ax:=G7.B az;have C7:=C6.I G7;simp only[XY,simprocAttr,ar,ax,v3,v4];refine nmW G7.D ax ?_;intro S8 bz ⟨ge,aw⟩;have C8:=C7.A bz fun u w=> .inl w;have c4:=dz.A (lf ((Ch.H _ G7).A bz fun u w=> .inl w));have c5:=al.A (lf bz);obtain⟨n8,el⟩:=nxE S8;have em:=aj C8 cu bq;have lw:=fun M=>nes (Jt C8.D el (Jb em) M);rw[Ja];simp only[XY,simprocAttr,f8,em,el,e1.1,e2.1];generalize gf:up 0 n8=en;refine nmA C8.D el gf ?_;intro S9 G9 d1 ⟨lx,gg⟩;have C9:=C8.I G9;have dn:=G9.B em;obtain⟨nA,dp⟩:=nxE S9;have ir:=fun M=>nes (Jt G9.D dp (Jb dn) M);rw[Ja];simp only[XY,simprocAttr,f8,dn,dp,ir];obtain⟨es,n1,n2,n3⟩:=(eT C9).D;obtain⟨x0,eo⟩:=exE (up 0 nA);obtain⟨bw,co⟩:=exE (S9.B fun ab=>Row.a ab []);have ao:Gr S9 bw:=by rw[co];exact Gr.G G9.D (Jc _)
   obtain⟨tx,rx⟩:∃ab,bw.A x0= .a ab []:=⟨_,by rw[co,eo];exact Qi dp _⟩
   have dq:S9.A x0= .none:=by rw[eo];exact nx0 G9.D dp 0
   rw[<-co,<-eo];clear co;have is:SlF S9 bw (.m x0 0 0 3 0) 3 []:=⟨by simp, .inr ⟨x0,tx,dq,by rw[rx];rfl, .inr rfl⟩⟩
   have ly:=hK.k.f;refine Qj (S0:=S9) ao is (n1.I ao) (Jiq n2 n3) (by omega) (by simp;omega) fun Sa v5 ga gh d2 it=> ?_;simp at gh;have ep:fy≠ak:=fun e=>Jb (G5.B bg) (by rw[<-e];exact fz);have ca:=G9.B ((bz.d fy (Jb (G7.B ed)) ep).trans (G7.B ed));have gi:=aj C9 bt bu;have Ca:=C9.I ga;have iu:=ga.B dn;have gj:=ga.B ca;simp only[XZ,simprocAttr,f8,iu,gj];refine JuT ga.D (eT Ca) hK.k a7 ?_;intro Sb Gb;have gb:=ga.A Gb;have Cb:=C9.I gb;have gk:=gb.B ca;simp only[XZ,simprocAttr,f0,gk,gb.B gi];refine atT (hM.A Cb.D (aq Cb)) a9 ?_;intro Sc xa ya Gc c6 cw;have gc:=gb.A Gc;have c7:(Jm j h[af].2).c.length=1:=by
    obtain⟨_,_,_,_,o5,_⟩:=hM.a.F a9;rw[o5.a,bl];rfl
   obtain⟨_,_,_,_,_,o6⟩:=hM.a.F a9;obtain⟨c8,c9,y1,_,y3,_,y5⟩:=cw.H (i:=0) (by simp[ints,c7]);have bm:=y5 0 (by simp[ints]);have bn:=o6 _ (Xh (show 0<(Jm j h[af].2).c.length by omega));simp[ints]at bm;generalize (Jm j h[af].2).c[0]=da at*;obtain⟨nC,gl⟩:=nxE Sc;have y1:Js 1 ya (.d .i64 0)=some (.g c8 c9, .a):=y1;simp only[XZ,simprocAttr,y1,bm,gl,z2];have gm:∀u,P u/\k.A u≠ .none->rowOf v5≠some u:=fun u a e=>by
    have iv:S9.A u= .none:=by
     rcases d2 with Y|Y
     ·rw[Y]at e;injection e with e;rw[<-e];exact dq
     ·rw[Y]at e;injection e with e;rw[<-e];exact ao.I (J6 ao.D)
    exact a.2 (by rw[<-aq C9 u a.2];exact iv)
   have lz:∀ae,S9.A ae≠ .none->rowOf v5≠some ae:=fun ae a e=>by
    rcases d2 with Y|Y
    ·rw[Y]at e;injection e with e;exact a (by rw[<-e];exact dq)
    ·rw[Y]at e;injection e with e;exact a (by rw[<-e];exact ao.I (J6 ao.D))
   have Cc:=C9.I gc;have iw:AccR (fun P k=>NarC P k) (fun u=>P u/\k.A u≠ .none) S9 Sc v5 3 E.b:=⟨es,gh.G (Gb.A Gc),n2,fun ag a W=>(n3 ag a W).A fun u ae q=>⟨⟨ae,gm u ae⟩,gc.d u q⟩⟩
   have gn:NarC (fun u=>(P u/\k.A u≠ .none)/\rowOf v5≠some u) Sc [.d .i64 (kE E a7),w2, .d .i64 (da:Nat)] (kE E a7,a8,da):=⟨w2,rfl,bx.D fun u a W=>⟨⟨a,gm u a⟩,by rw[aq Cc u a.2,aq (C4.I G5) u a.2]⟩⟩
   refine JqE (C:=fun P k=>NarC P k) (S0:=S9) (fun Y M=>NarC.A Y M) gc gl iw gn rfl (by simp[J9,Kv,jS,z2.1]) (by have:=hK.n;omega) ?_;intro Sd v6 gd go l0 gp;have d3:=gd.B gg;have s6:v6.B=true/\v6.A=some [v6]:=by
    obtain⟨gq,q1,_,_⟩:=go;exact⟨q1.D.B,q1.D.A⟩
   simp only[XY,simprocAttr,d3,s6];have ap:∀{fr:Fr} {W:Nat} {ae:Pt} {o:Nat},fr 102= .m x0 0 0 3 0->fr W= .g ae o->S9.A ae≠ .none->JM fr [([102],[W])]=true:=fun h1 h2 h3=>JU h1 h2 rfl fun e=>h3 (by injection e with e;rw[<-e];exact dq);have ac:∀{fr:Fr} {ae:List Nat×List Nat} {u:List (List Nat×List Nat)},JM fr [ae]=true->JM fr u=true->JM fr (ae::u)=true:=fun h1 h2=>by rw[Jgb,h1,h2];rfl
   refine⟨ac (ap (o:=0) rfl f8 (Jb dn)) (ac (ap rfl rfl (Jb ca)) (ac (ap rfl rfl (Jb ca)) (ac (ap rfl rfl (Jb gi)) (ap rfl rfl (Jb ca))))), ?_⟩;refine nmW gd.D d3 ?_;intro bi db ⟨eh,eq⟩;have d4:=C8.B d1;have Cd:=C9.I gd;have au:=Cd.A db fun u w=> .inr (by rw[w];exact d4);have er:ak≠en:=fun e=>Jb cd (by rw[e];exact d4);have am:=(db.d ak (Jb (gd.B (G9.B aw))) er).trans (gd.B (G9.B aw));have l1:∀u,Q u\/S9.A u= .none->u≠en->Sd.A u≠ .none->bi.A u=Sd.A u:=fun u _ n e=>db.d u e n;have ix:∀u,S8.A u≠ .none->u≠en:=fun u a e=>a (by rw[e];exact d1);have d5:∀u,Q u->S8.A u≠ .none->Q u/\bi.A u=S8.A u:=fun u a W=>⟨a,by
    have e1:=(G9.A gd).d u W;rw[db.d u (by rw[e1];exact W) (ix u W),e1]⟩
   have et:EnvC (fun u=>(P u/\k.A u≠ .none)\/S9.A u= .none) bi [.d .i64 (E.c:Nat),vv,v6] (Qe E (kE E a7,a8,da)):=by
    obtain⟨gq,q1,q2,q3⟩:=go;have nS:∀u,P u/\k.A u≠ .none->bi.A u=Sd.A u/\bi.A u=k.A u:=fun u a=>⟨by rw[aq au u a.2,aq Cd u a.2],aq au u a.2⟩
    refine⟨vv,v6,rfl,h1.D fun u a W=>⟨.inl ⟨a,W⟩,aq au u W⟩,gq,q1.D.D fun u a W=>⟨.inr a,db.d u W fun e=>Jb gg (by rw[<-e];exact a)⟩,q2,fun ag a W=>(q3 ag a W).A fun u ae q=>⟨.inl ae.1,(nS u ae.1).1⟩⟩
   rw[Ja];simp only[XY,simprocAttr,f0,f3,bb,eq,cr];refine Jb1 H (hM.A au.D (aq au)) et (hK.D ⟨ip,by show a8.length<100000;have:a8.length<90000:=f7;omega,bn⟩) (bT au) ?_;intro dm gr bd ay b1 b2;have ay:=ay.A fun u a W=>⟨a0 au (Jb am) (fun u a=>a0 C9 (Jb (G9.B aw)) PQ u a) u a,rfl⟩
   have bo:=bd.B am;simp only[XY,simprocAttr,ar,bo,b1,b2];refine nmW bd.D bo ?_;intro dr ch ⟨lg,bp⟩;have gs:=(au.I bd).A ch fun u w=> .inl w;have d6:=lf ((Ch.H _ bd).A ch fun u w=> .inl w);rw[Ja];simp only[XZ,simprocAttr,a6,ar,bp,v3,b1,b5,aj gs ba a2];exact be gs (Jir (.inl rfl) ((c5.A d5).A d6) (ay.A (lf ch)) ((c4.A d5).A d6)) (cx _ _)
  have n7:¬x<=7:=k7;have dc:∀{S':St} {ab:Nat},Ch (fun u=>u=ak) S2 S'->K (.j [.d .i64 M, .d .i64 0,ofL [],ofL nm,pv, .e, .e, .h false, .e]) (S'.D bj ab fun ad=> .a ad [.d .i64 M, .d .i64 0,ofL [],ofL nm,pv, .e, .e, .h false, .e]):=fun{S' ab} C=>be C (qF (hs.A fun u a W=>⟨PQ u ⟨a,W⟩,aq C u W⟩)) (by have:=cx (KA kb) (KA ko);omega);by_cases k8:x<=8
  ·rw[Ja];simp only[XY,simprocAttr,f4,n7];rw[Ja];simp only[XY,simprocAttr,f4,k8];rw[Ja];simp only[XY,simprocAttr,ar,a3];refine nmW C3.D a3 ?_;intro S4 b6 ⟨t4,bg⟩;have C4:=C3.A b6 fun u w=> .inl w;have b7:=ct.A (lf b6);have cf:=aj C4 bt bu;have b8:=aj C4 b4 br;rw[Ja];simp only[XY,simprocAttr,f5,f9,b8,hx];refine YY C4.D _ h.length (by omega) (by omega) ?_;intro S5 G5;obtain⟨m,hm,eu⟩:=KU rn ho;rw[hm];have C5:=C4.I G5;obtain⟨rq,oq,e,a1,_,_,a4,a5,_,_⟩:=(lT C5).A eu;obtain⟨ck,a7,ei,ej,cn,cb,ek,rfl,z2,z6,a8,cp,c0,bx⟩:=YT a5;have bf:=hg _ (Xh eu);obtain⟨hC,hG⟩:=QC a5 bf 2;have a9:=bf.a;generalize h[m].2=id at*;obtain⟨n5,bk⟩:=nxE S5;simp only[XY,simprocAttr,a1,a4,z2,z6,bk];generalize gt:up 0 n5=iy;refine nmA G5.D bk gt ?_;intro S6 G6 lh ⟨l2,gu⟩;have C6:=C5.I G6;have bc:=G5.A G6;have cg:=bc.B cf;have az:=bc.B bg;have l3:=aj C6 cu bq;rw[Ja];simp only[XY,simprocAttr,gu];refine Ju (fun fr S'=>fr 0= .g c 0/\fr 3= .d .i64 ((z+1:Nat):Nat)/\fr 8= .g p8 0/\fr 14= .g bj 0/\fr 15= .g ak 0/\fr 17=bv/\fr 22= .g iy 0/\Gr S6 S'/\∃i2,i2<j.a.length/\fr 23= .d .i64 (i2:Nat)) (fun J2 gv=> ?_) ?_
   ·rw[Ja];simp only[XY,simprocAttr,f0,cg];refine atT (hM.A C6.D (aq C6)) a9 ?_;intro S7 xa ya G7 c6 cw;by_cases h6:(Jm j id).a=6
    ·simp only[XY,simprocAttr,h6];simp only[XY,simprocAttr,f0,G7.B cg];refine atT (hM.A (C6.I G7).D (aq (C6.I G7))) a9 ?_;intro S8 xb yb G8 i0 ew;obtain⟨_,_,_,_,o5,o6⟩:=hM.a.F a9;have c7:(Jm j id).c.length=1:=by rw[o5.a,h6];rfl
     obtain⟨c8,c9,y1,_,y3,_,y5⟩:=ew.H (i:=0) (by simp[ints,c7]);have bm:=y5 0 (by simp[ints]);have y1:Js 1 yb (.d .i64 0)=some (.g c8 c9, .a):=y1;have bn:=o6 _ (Xh (show 0<(Jm j id).c.length by omega));simp[ints]at bm;simp only[XZ,simprocAttr,y1,bm];exact gv _ _ ⟨f0,f3,f8,a6,ar,bb,rfl,G7.A G8,_,bn,rfl⟩
    ·simp only[XZ,simprocAttr,h6];exact gv _ _ ⟨f0,f3,f8,a6,ar,bb,rfl,G7,_,a9,rfl⟩
   ·clear f0 f3 f4 f5 f8 f9 dl a6 ar bb;rintro fr S7 ⟨f0,f3,f8,a6,ar,bb,i1,G7,i2,i3,i4⟩;have C7:=C6.I G7;have ax:=G7.B az;rw[Ja];simp only[XZ,simprocAttr,i1,G7.B gu];refine Jc0 (P:=Q) G7.D (hC.A fun u a W=>⟨PQ u a,(G6.A G7).d u W⟩) hG ?_;intro cz S8 G8 al;have al:=al.A fun u a W=>⟨a0 C7 (Jb ax) (fun _ Y=>Y) u a,rfl⟩
    obtain⟨v3,v4⟩:=al.D;have aw:=G8.B ax;have C8:=C7.I G8;simp only[XZ,simprocAttr,f0,f8,i4,aj C8 cu bq];refine Jis (tb:=j) G8.D (eT C8) hK.k ?_;intro e9 S9 G9 dd;have bh:=G9.B aw;have C9:=C8.I G9;simp only[XZ,simprocAttr,f3,bb,cr];refine Jb1 H (hM.A C9.D (aq C9)) dd (hK.A i3) (bT C9) ?_;intro dm bw ao ay b1 b2;have ay:=ay.A fun u a W=>⟨a0 C9 (Jb bh) (fun u a=>a0 C8 (Jb aw) PQ u a) u a,rfl⟩
    have av:=ao.B bh;simp only[XY,simprocAttr,ar,av,v3,v4,b1,b2];refine nmW2 ao.D av ?_;intro bi ai ⟨eh,am⟩;have au:=(C9.I ao).A ai fun u w=> .inl w;have ex:=lf ((Ch.H _ G9).A ((Ch.H _ ao).A ai fun u w=> .inl w) fun u w=> .inl w);have ey:=lf (((Ch.H _ bc).I G7).I G8|>.A (((Ch.H _ G9).I ao).A ai fun u w=> .inl w) fun u w=> .inl w);rw[Ja];simp only[XZ,simprocAttr,a6,ar,am,v3,b1,b5,aj au ba a2];exact be au (Jir (.inr (.inl rfl)) (al.A ex) (ay.A (lf ai)) (b7.A ey)) (cx _ _)
  have n8:¬x<=8:=k8;by_cases gw:x<=10
  ·rw[Ja];simp only[XY,simprocAttr,f4,n7];rw[Ja];simp only[XY,simprocAttr,f4,n8];rw[Ja];simp only[XY,simprocAttr,f4,gw];rw[Ja];simp only[XY,simprocAttr,ar,a3];refine nmW C3.D a3 ?_;intro S4 b6 ⟨t4,bg⟩;have C4:=C3.A b6 fun u w=> .inl w;have b7:=ct.A (lf b6);have cf:=aj C4 bt bu;have b8:=aj C4 b4 br;obtain⟨n4,ez⟩:=nxE S4;have i5:=fun M=>nes (Jt C4.D ez (Jb b8) M);rw[Ja];simp only[XY,simprocAttr,f0,f5,f9,cf,b8,ez,i5];generalize i6:up 0 n4=px;refine nm1c C4.D ez i6 ?_;intro Sx Gx l4 ⟨tx,rx⟩;refine YY Gx.D _ 2 (by decide) (by decide) ?_;intro Sy Gy;obtain⟨m,hm,eu⟩:=KU rn (n:=2) (by decide);have hm:rn%2=(m:Nat):=hm;rw[hm];have hi:∃q:Int,ld1 (.a tx [.d .i64 4, .d .i64 5]) m=some (.d .i64 q, .a)/\(q=4\/q=5):=by
    have:m=0\/m=1:=by omega
    rcases this with rfl|rfl
    ·exact⟨_,rfl, .inl rfl⟩
    ·exact⟨_,rfl, .inr rfl⟩
   obtain⟨kd,gp,i7⟩:=hi;have i8:Js 1 (.m px 0 2 1 2) (.d .i64 (m:Nat))=some (.g px m, .a):=by
    have:m=0\/m=1:=by omega
    rcases this with rfl|rfl<;>rfl
   have e3:=Gx.A Gy;have i9:=Gy.B rx;have Cy:=C4.I e3;simp only[XY,simprocAttr,f9,e3.B b8,i8,i9,gp];refine JqF (hM.A Cy.D (aq Cy)) (lT Cy) hg (by omega) ?_;intro ce W S5 w0 w1 w2 w3 w4 w5 w6 wt G5 hb hc;obtain⟨rfl,hw⟩:=hb;obtain⟨n5,bk⟩:=nxE S5;simp only[XY,simprocAttr,hw,bk];generalize gx:up 0 n5=l5;refine nmA G5.D bk gx ?_;intro S6 G6 li ⟨l6,gy⟩;have bc:=e3.A (G5.A G6);have C6:=C4.I bc;have cg:=bc.B cf;have az:=bc.B bg
   cases W with
   | false=>
     rw[Jd,Ja];simp only[XY,simprocAttr];rw[Ja];simp only[XZ,simprocAttr,dl,a6,aj C6 dy cy,aj C6 ba a2,v1];exact dc C6
   | true=>
     rw[Jd,Ja];simp only[XY,simprocAttr];obtain⟨af,hj,C,bl⟩:=hc rfl;obtain⟨ck,a7,ei,ej,cn,cb,ek,b9,z2,z6,a8,cp,c0,bx⟩:=YT C;simp only[XV,V.d.injEq]at b9;obtain⟨rfl,rfl,rfl,rfl,rfl,rfl,rfl,⟨_,c3⟩,_⟩:=b9;subst c3;have bf:=hg _ (Xh hj);obtain⟨hC,hG⟩:=QC C bf 2;have a9:=bf.a;generalize h[af].2=id at*;rw[Ja];simp only[XZ,simprocAttr,gy];refine Jc0 (P:=Q) G6.D (hC.A fun u a W=>⟨PQ u a,G6.d u W⟩) hG ?_;intro cz S7 G7 al;have al:=al.A fun u a W=>⟨a0 C6 (Jb az) (fun _ Y=>Y) u a,rfl⟩
     obtain⟨v3,v4⟩:=al.D;have ax:=G7.B az;have C7:=C6.I G7;simp only[XZ,simprocAttr,f0,f8,aj C7 cu bq,G7.B cg,G7.B gy];refine atT (hM.A C7.D (aq C7)) a9 ?_;intro S8 xb yb G8 i0 ew;obtain⟨_,_,_,_,o5,o6⟩:=hM.a.F a9;have c7:(Jm j id).c.length=1:=by
      rw[o5.a,bl,JaI,Xe (by omega)]
     obtain⟨c8,c9,y1,_,y3,_,y5⟩:=ew.H (i:=0) (by simp[ints,c7]);have bm:=y5 0 (by simp[ints]);have y1:Js 1 yb (.d .i64 0)=some (.g c8 c9, .a):=y1;have bn:=o6 _ (Xh (show 0<(Jm j id).c.length by omega));simp[ints]at bm;generalize (Jm j id).c[0]=da at*;have aw:=G8.B ax;have C8:=C7.I G8;simp only[XZ,simprocAttr,y1,bm];refine Jis (tb:=j) G8.D (eT C8) hK.k ?_;intro e9 S9 G9 dd;have bh:=G9.B aw;have C9:=C8.I G9;simp only[XZ,simprocAttr,f3,bb,cr];refine Jb1 H (hM.A C9.D (aq C9)) dd (hK.A bn) (bT C9) ?_;intro dm bw ao ay b1 b2;have ay:=ay.A fun u a W=>⟨a0 C9 (Jb bh) (fun u a=>a0 C8 (Jb aw) PQ u a) u a,rfl⟩
     have av:=ao.B bh;simp only[XY,simprocAttr,ar,av,v3,v4,b1,b2];refine nmW2 ao.D av ?_;intro bi ai ⟨eh,am⟩;have au:=(C9.I ao).A ai fun u w=> .inl w;have ex:=lf ((Ch.H _ (G8.A G9)).A ((Ch.H _ ao).A ai fun u w=> .inl w) fun u w=> .inl w);have ey:=lf (((Ch.H _ bc).I G7).I G8|>.A (((Ch.H _ G9).I ao).A ai fun u w=> .inl w) fun u w=> .inl w);rw[Ja];simp only[XZ,simprocAttr,a6,ar,am,v3,b1,b5,aj au ba a2];exact be au (Jir (.inr (.inr rfl)) (al.A ex) (ay.A (lf ai)) (b7.A ey)) (cx _ _)
  have jj:¬x<=10:=gw;rw[Ja];simp only[XY,simprocAttr,f4,n7];rw[Ja];simp only[XY,simprocAttr,f4,n8];rw[Ja];simp only[XY,simprocAttr,f4,jj];have gz:=aj C3 bt bu;have j0:=aj C3 b4 br;rw[Ja];simp only[XY,simprocAttr,f0,f5,f9,gz,j0];refine JqF (hM.A C3.D (aq C3)) (lT C3) hg (by omega) ?_;intro ce W S5 w0 w1 w2 w3 w4 w5 w6 wt G5 hb hc;obtain⟨rfl,hw⟩:=hb;obtain⟨n5,bk⟩:=nxE S5;simp only[XY,simprocAttr,hw,bk];generalize g0:up 0 n5=g1;refine nmA G5.D bk g0 ?_;intro S6 G6 g3 ⟨l7,e4⟩;have ds:=G5.A G6;have C6:=C3.I ds;have cg:=ds.B gz;have az:=ds.B a3
  cases W with
  | false=>
    rw[Jd,Ja];simp only[XY,simprocAttr];rw[Ja];simp only[XZ,simprocAttr,dl,a6,aj C6 dy cy,aj C6 ba a2,v1];exact dc C6
  | true=>
    rw[Jd,Ja];simp only[XY,simprocAttr];obtain⟨af,hj,C,bl⟩:=hc rfl;obtain⟨ck,a7,ei,ej,cn,cb,ek,b9,z2,z6,a8,cp,c0,bx⟩:=YT C;simp only[XV,V.d.injEq]at b9;obtain⟨rfl,rfl,rfl,rfl,rfl,rfl,rfl,⟨_,c3⟩,_⟩:=b9;subst c3;have bf:=hg _ (Xh hj);obtain⟨hC,hG⟩:=QC C bf 2;have a9:=bf.a;generalize h[af].2=id at*;rw[Ja];simp only[XY,simprocAttr,e4];refine Jc0 (P:=Q) G6.D (hC.A fun u a W=>⟨PQ u a,G6.d u W⟩) hG ?_;intro cz S7 G7 al;have al:=al.A fun u a W=>⟨a0 C6 (Jb az) (fun _ Y=>Y) u a,rfl⟩
    obtain⟨v3,v4⟩:=al.D;have ax:=G7.B az;simp only[XY,simprocAttr,ar,ax,v3,v4];refine nmW2 G7.D ax ?_;intro S8 bz ⟨ge,aw⟩;have C8:=(C6.I G7).A bz fun u w=> .inl w;have c5:=al.A (lf bz);have c4:=ct.A (lf ((Ch.H _ (ds.A G7)).A bz fun u w=> .inl w));have e5:g1≠ak:=fun e=>Jb (G5.B a3) (by rw[<-e];exact g3);have g4:=(bz.d g1 (Jb (G7.B e4)) e5).trans (G7.B e4);rw[Ja];simp only[XY,simprocAttr,f0,aj C8 bt bu,g4];refine atT (hM.A C8.D (aq C8)) a9 ?_;intro S9 xa ya G9 c6 cw;obtain⟨n9,g5⟩:=nxE S9;have j1:=c6.B;have l8:=c6.A;have j2:=cw.B;have l9:=cw.A;simp only[XY,simprocAttr,g5,j1,j2];generalize g6:up 0 n9=e6;refine nmA G9.D g5 g6 ?_;intro bw ao g7 ⟨ma,g8⟩;rw[Jd,Ja];simp only[XY,simprocAttr];have dt:=C8.I (G9.A ao);have av:=(G9.A ao).B aw;have e7:=c5.A (lf (Ch.H _ (G9.A ao)));have e8:=c4.A (lf (Ch.H _ (G9.A ao)));have de:=c6.I ao;have fa:=cw.I ao;have g9:=hM.b.f;obtain⟨_,_,_,_,o5,o6⟩:=hM.a.F a9;have mb:(Jm j id).c.length=(Jm j id).b.length:=by rw[o5.a,bl,JaI];rfl
    have h4:(Jm j id).b.length<=4:=hM.d _ (by
     obtain⟨_,_,o3,_⟩:=hM.a.F a9;exact GE o3)
    have fb:=de.G;rw[show(strs (Jm j id).b).length=(Jm j id).b.length by simp[strs]]at fb;obtain⟨Lp,du⟩:=loE fun af fr S'=>∃(ag:Nat) (cv:V) (cs:List (Str×List Nod)) (ab:Nat),af+ag=(Jm j id).b.length/\Ch (fun u=>u=ak) bw S'/\fr 0= .g c 0/\fr 3= .d .i64 ((z+1:Nat):Nat)/\fr 8= .g p8 0/\fr 9= .g p9 0/\fr 14= .g bj 0/\fr 15= .g ak 0/\fr 17=bv/\fr 28= .g e6 0/\fr 29= .d .i64 (ag:Nat)/\S'.A ak= .a ab [.d .i64 8, .d .i64 0,ofL [],ofL [],cz, .e,ev, .h he,cv]/\AccO (CasR (z+1) (4^z*KA kb)) Q S' cv 2 cs/\(∀u,rowOf cv=some u->bw.A u= .none)/\cs.length<=ag;refine JD Lp (Jm j id).b.length (by omega) ((du _ _ _).2 ⟨0, .e,[],ge,by omega,Ch.G _ dt.D,f0,f3,f8,f9,a6,ar,bb,rfl,by simp only[XZ,simprocAttr]<;>rfl,av,AccO.D,(fun u e=>by cases e),XC _⟩) ?_;clear f0 f3 f4 f5 f8 f9 dl a6 ar bb;intro af fr bi j3;obtain⟨ag,cv,cs,ab,hj,ai,f0,f3,f8,f9,a6,ar,bb,df,cj,am,cc,dg,mc⟩:=(du _ _ _).1 j3;have au:=dt.A ai fun u w=> .inl w;have fc:e6≠ak:=fun e=>Jb (G9.B aw) (by rw[<-e];exact g7);have b0:=(ai.d e6 (Jb g8) fc).trans g8;obtain⟨j4,md⟩:=cc.F;have j5:∀u,rowOf cv=some u->bi.A u≠ .none:=by
     obtain⟨es,q1,_⟩:=cc;exact fun u e=>q1.A e
    by_cases hi:ag<(Jm j id).b.length;rotate_left
    ·have fd:¬(ag:Int)<(Jm j id).b.length:=by omega
     simp only[XZ,simprocAttr,a6,ar,df,cj,b0,fb,fd,am,v3,b5,j4,aj au ba a2];exact be au (JnV (e7.A (lf ai)) (e8.A (lf ai)) cc (fun u e=>a0 dt (Jb av) PQ u (.inr (dg u e))) (by omega)) (io _ _)
    have fd:(ag:Int)<(Jm j id).b.length:=by omega
    have dh:IntKind.i64.wrap ((ag:Int)+1)=((ag+1:Nat):Int):=by rw[JX (by omega) (by omega)];omega
    rw[Jd,Ja];simp only[XY,simprocAttr,df,cj,b0,fb,fd];rw[Jd];simp only[XY,simprocAttr];by_cases ha:he=true/\(ag:Int)>0/\rn.tmod 2=0
    ·obtain⟨rfl,di,hz⟩:=ha;rw[Jd,Ja];simp only[XZ,simprocAttr,f9,ar,cj,am,aj au b4 br,di,hz,dh];exact⟨(Jm j id).b.length-(ag+1),by omega,(du _ _ _).2 ⟨ag+1,cv,cs,ab,by omega,ai,f0,f3,f8,f9,a6,ar,bb,df,rfl,am,cc,dg,by omega⟩⟩
    have h3:he=false\/(he=true/\¬(ag:Int)>0)\/(he=true/\(ag:Int)>0/\¬rn.tmod 2=0):=by
     cases he with
     |false=>exact .inl rfl
     | true=>
       by_cases a:(ag:Int)>0
       ·exact .inr (.inr ⟨rfl,a,fun W=>ha ⟨rfl,a,W⟩⟩)
       ·exact .inr (.inl ⟨rfl,a⟩)
    have dk:∀u,g u\/b u->u≠ak:=fun u a e=>g9 u a (by rw[e];exact cm);have fe:=de.D (st':=bi) fun u a W=>⟨a,ai.d u W (dk u a)⟩
    have ff:=fa.D (st':=bi) fun u a W=>⟨a,ai.d u W (dk u a)⟩
    obtain⟨hd,hf,x1,_,x3,_,x5⟩:=fe.H (i:=ag) (by simpa[strs]using hi);have dv:=x5 0 (by simp[strs]);obtain⟨me,mf,y1,_,y3,_,y5⟩:=ff.H (i:=ag) (by simp[ints];omega);have bm:=y5 0 (by simp[ints]);have bn:=o6 _ (Xh (show ag<(Jm j id).c.length by omega));simp[ints,strs]at dv bm;generalize (Jm j id).c[ag]=da at*;generalize (Jm j id).b[ag]=fg at*;rcases h3 with rfl|⟨rfl,di⟩|⟨rfl,di,hz⟩
    rw[Jd,Ja];simp only[XY,simprocAttr,ar,am];rotate_left;rw[Jd,Ja];simp only[XY,simprocAttr,ar,cj,am,di];rotate_left;rw[Jd,Ja];simp only[XY,simprocAttr,f9,ar,cj,am,di,hz,aj au b4 br]
    all_goals
     simp only[XZ,simprocAttr,f0,f8,df,cj,b0,x1,dv,y1,bm,aj au cu bq];refine Jis (tb:=j) au.D (eT au) hK.k ?_;intro e9 gr bd dd;have bo:=bd.B am;have fh:=bd.B b0;have lj:ld1 (gr.A hd) hf=some (ofL fg, .a):=by rw[bd.d _ x3];exact dv
     have dw:=au.I bd;simp only[XZ,simprocAttr,f3,bb,cr];refine Jb1 H (hM.A dw.D (aq dw)) dd (hK.A bn) (bT dw) ?_;intro dm dr cl ay b1 b2;obtain⟨L,j6⟩:=JtZ fg (ay.A (Q:=fun u=>Q u/\rowOf cv≠some u) (S':=dr) fun u a W=>⟨⟨a0 dw (Jb bo) (fun u a=>a0 au (Jb am) PQ u a) u a,fun e=>by
      have e0:=j5 u e;rcases a with(a|a)|a
      ·exact a.2 (dt.B (dg u e)|>g2.I)
      ·exact e0 a
      ·exact e0 (bd.I a)⟩,rfl⟩)
     have bp:=cl.B bo;have la:=cl.B fh;have lk:ld1 (dr.A hd) hf=some (ofL fg, .a):=by rw[(bd.A cl).d _ x3];exact dv
     obtain⟨mg,d7⟩:=nxE dr;simp[XZ,b1,b2,d7];refine Jnk (C:=CasR (z+1) (4^z*KA kb)) (fun Y M=>Y.A M) cl.D d7 (cc.A (fun Y M=>Y.A M) fun u _ W=>(bd.A cl).d u W) j6 rfl (by simp[J9,Kv,b1];rfl) (by omega) ?_;intro mh lb fi cq d8;obtain⟨w1,w2⟩:=cq.F;have lc:rowOf cv≠some ak:=fun e=>Jb av (dg _ e);have dj:=(fi.d ak (Jb bp) lc).trans bp;simp[XZ,ar,cj,dj,w1,w2,dh];refine nmWK (K:=fun ah=>∃j',j'<af/\Lp j' _ ah) fi.D dj ?_;intro mi hh ⟨hn,fj⟩;have fk:=((ai.I (bd.A cl)).A fi fun u w=> .inr (dg u w)).A hh fun u w=> .inl w;refine⟨(Jm j id).b.length-(ag+1),by omega,(du _ _ _).2 ⟨ag+1,lb,cs++[L],hn,by omega,fk,f0,f3,f8,f9,a6,ar,bb,df,rfl,fj,cq.A (fun Y M=>Y.A M) (fun u a W=>hh.d u W fun e=> ?_),(fun u e=>(ai.I (bd.A cl)).B (d8 u e)),by simp;omega⟩⟩;rcases a with a|a
     ·exact ea u a e
     ·exact Jb bp (by rw[<-e];exact d8 u a)
theorem QQ (b:St)(c:Fr)(i n j m:Nat)(Q:V->St->Prop):resP b c [.a i n, .a j m] Q=wW (QV b n (c i)) b fun v b=>wW (QV b m (c j)) b fun w b=>Q (.p [v,w]) b:=by
 have h:=jC c b n (.s i);have h:(Kn b n (c i)).map (fun l=>(V.j l,Eff.a))=QV b n (c i):=h;have k:=jC c b m (.s j);have k:(Kn b m (c j)).map (fun l=>(V.j l,Eff.a))=QV b m (c j):=k;rw[<-h];simp only[resP,Ql,jx,Zt,List.mapM_nil]
 cases Kn b n (c i)with
 |none=>rfl
 | some a=>
   show _=wW (QV b m (c j)) b fun w b=>Q (.p [_,w]) b;rw[<-k]
   cases Kn b m (c j)<;>rfl
theorem Jc1 {B:Nat}(h:NodR n k z B t):∃(c a:Int) (f q:Str) (i j l:V) (r:Bool) (m:V),t=[.d .i64 c, .d .i64 a,ofL f,ofL q,i,j,l, .h r,m]/\((i.B=true/\i.A=some [i])/\(j.B=true/\j.A=some [j])/\(l.B=true/\l.A=some [l])/\(m.B=true/\m.A=some [m])):=by
 obtain⟨g,s,_⟩:=h
 cases z with
 |zero=>exact s.elim
 | succ z=>
   obtain⟨c,a,f,q,p,b,o,r,y⟩:=g;obtain⟨i,j,l,m,rfl,u,v,w,x⟩:=s;exact⟨_,_,_,_,_,_,_,_,_,rfl,LstAt.B u,LstAt.B v,LstAt.B w,LstAt.B x⟩
theorem JkG (h:jw n k t):NodR n k 1 1 t:=qF h
theorem JuU {P:Pt->Prop}{E:EnvS}(H:∀d',z=d'+1->Jdy b g f c y j d')(hM:MkS b g f c y j k)(hr:R10C (fun _=>True) k p u)(hE:EnvC P k t E)(hK:MEnv j z E):
  Dz 40 [.g c 0, .j t, .j p, .d .i64 (z:Nat)] k fun v S'=>Gr k S'/\∃e ae E2,v= .p [.j e, .j ae]/\NodR (fun u=>P u\/k.A u= .none) S' (z+1) (4^z*sz10 u) e/\EnvC (fun u=>P u\/k.A u= .none) S' ae E2/\MEnv j z E2:=by
 have hw:=hM.b.wf;refine Jn tabM (aT Tryz.func40 rfl) rfl hw fun K c0=> ?_;obtain⟨tm,nv,tv,c3,ea⟩:=hM.c;have c4:=hr;obtain⟨rk,rn,x,L,M,kv,w,ks,rfl,⟨c1,c2⟩,⟨k1,eb⟩,h9,ec,c5⟩:=Jet hr;have c6:1<=sz10 u:=by rw[c5,Jij];omega
 have c7:=hE;obtain⟨vv,ar,rfl,h1,h2,e1,e2⟩:=K8 hE;have a0:=h1.G;rw[Xr]at a0;have d5:=hK.n;obtain⟨n0,bw⟩:=nxE k;simp only[CT,Tryz.f40,XY,simprocAttr];rw[Ja];simp[XY,bw,c1,k1,e1.1,e2.1];generalize c8:up 0 n0=p5;generalize c9:up 1 n0=p6;generalize da:up 2 n0=p8;generalize db:up 3 n0=p9;refine nm4 hw bw c8 c9 da db ?_;intro S1 G1 ⟨ed,ef,eg,eh⟩ ⟨ei,bx,dc,ej,ek,dd⟩ ⟨t5,r5⟩ ⟨t6,r6⟩ ⟨t8,r8⟩ ⟨t9,r9⟩;have bh:=G1.B c3;obtain⟨Q,hQ⟩:∃Q:Pt->Prop,∀u,Q u<->(P u\/k.A u= .none)/\u≠p8/\u≠p9/\u≠p5:=⟨fun u=>(P u\/k.A u= .none)/\u≠p8/\u≠p9/\u≠p5,fun u=>Iff.rfl⟩
 have PQ:∀u,P u/\k.A u≠ .none->Q u:=fun u a=>(hQ u).2 ⟨.inl a.1,fun e=>a.2 (by grind),fun e=>a.2 (by grind),fun e=>a.2 (by grind)⟩;have NQ:∀u,S1.A u= .none->Q u:=fun u a=>(hQ u).2 ⟨.inr (G1.I a),fun e=>Jb r8 (by grind),fun e=>Jb r9 (by grind),fun e=>Jb r5 (by grind)⟩;have ad:∀{S':St} {N t' B:Nat} {e ae:List V} {E2:EnvS},(∀u,k.A u≠ .none->S'.A u=k.A u)->NodR Q S' (z+1) B e->B<=4^z*sz10 u->EnvC Q S' ae E2->MEnv j z E2->K (.p [.j e, .j ae]) ((S'.D p8 N fun O=> .a O e).D p9 t' fun O=> .a O ae):=by
  intro S' N t' B e ae E2 hs h hB de df;have kf:∀u,u≠p8->u≠p9->((S'.D p8 N fun O=> .a O e).D p9 t' fun O=> .a O ae).A u=S'.A u:=fun u x L=>by rw[Jj _ _ _ L,Jj _ _ _ x]
  have kq:∀u,Q u->S'.A u≠ .none->(P u\/k.A u= .none)/\((S'.D p8 N fun O=> .a O e).D p9 t' fun O=> .a O ae).A u=S'.A u:=fun u a T=>⟨((hQ u).1 a).1,kf u ((hQ u).1 a).2.1 ((hQ u).1 a).2.2.1⟩
  exact c0 _ _ (fun u x=>by rw[kf u (fun L=>x (by grind)) (fun L=>x (by grind)),hs u x]) fun _=>⟨e,ae,E2,rfl,(h.A kq).D hB,de.A kq,df⟩
 have eT:∀{S':St},Gr S1 S'->EnvC (fun u=>P u/\k.A u≠ .none) S' [.d .i64 (E.c:Nat),vv,ar] E:=fun{S'} W=>c7.A fun u a T=>⟨⟨a,T⟩,by rw[(G1.A W).d u T]⟩
 rw[Ja];simp[XY,bh,r5];refine JqC (hM.F G1) (eT (Gr.F G1.D)) hK.k ?_;intro lv S2 l G2 hl hg hN;have ag:J8 lv=some (.d .i64 (l.length:Nat), .a):=by
  obtain⟨es,q1,q2,_⟩:=hl;have:=q1.G
  grind
 simp[XY];have lT:∀{S':St},Gr S2 S'->KF (fun u=>S1.A u= .none) S' lv l:=fun{S'} W=>hl.za W.H;rw[Ja];simp[XY,G2.B bh,G2.B r6];refine YY G2.D _ 3 (by decide) (by decide) ?_;intro S3 G3;have g3:=G2.A G3;simp[XY,g3.B r6];refine JsZ (hM.F (G1.A g3)) (lT G3) hg (by omega) (h9.A (G1.A g3).H) ?_;intro oe o S4 G4 hC hG;have g4:=g3.A G4;simp[XY];refine Jc0 (P:=fun u=>S1.A u= .none) G4.D (hC.A fun u a T=>⟨a.elim id fun a=>g3.I a,rfl⟩) hG ?_;intro pv S5 G5 a2;have a2:=a2.A (Q:=fun u=>S1.A u= .none) (S':=S5) fun u a T=>⟨a.elim id fun a=>g4.I a,rfl⟩
 obtain⟨v1,v2⟩:=a2.D;have g5:=g4.A G5;obtain⟨n5,bz⟩:=nxE S5;simp[XY,v1,v2,bz];generalize b0:up 0 n5=dg;refine nmA G5.D bz b0 ?_;intro S6 G6 d6 ⟨el,dh⟩;have g6:=g5.A G6;have di:jw (fun u=>S1.A u= .none) S6 [.d .i64 2, .d .i64 0,ofL [],ofL [],pv, .e, .e, .h false, .e]:=⟨2,[],pv,rfl, .inl rfl,a2.A G6.H⟩
 rw[Ja];simp[XY,g6.B r6];refine YY G6.D _ 12 (by decide) (by decide) ?_;intro S7 G7;have g7:=g6.A G7;obtain⟨X,hk,b5⟩:=KU rk (n:=12) (by decide);have hk:rk%12=(X:Nat):=hk;rw[hk];simp[XY];obtain⟨J,hJ⟩:=opE fun fr S'=>S'=S7/\fr 0= .g c 0/\fr 3= .d .i64 (z:Nat)/\fr 5= .g p5 0/\fr 6= .g p6 0/\fr 8= .g p8 0/\fr 9= .g p9 0/\fr 10=lv/\fr 11= .g dg 0/\∃k2:Nat,fr 12= .d .i64 (k2:Nat)/\k2<12/\(4<k2->0<l.length/\0<z);have be:((X:Int).tmod 5)=((X%5:Nat):Int):=rfl;have h5:X%5<5:=Hg _ (by decide);refine Yf J ?_ ?_
 ·by_cases bi:l.length=0
  ·have aa:(l.length:Int)=0:=by omega
   rw[Ja];simp[XZ,ag,aa,be];exact(hJ _ _).2 ⟨rfl,rfl,rfl,rfl,rfl,rfl,rfl,rfl,rfl,X%5,rfl,by omega,by omega⟩
  have aa:¬(l.length:Int)=0:=by omega
  by_cases a8:(z:Int)<=0;rotate_left
  ·rw[Ja];simp only[XZ,simprocAttr,ag,aa,a8];exact(hJ _ _).2 ⟨rfl,rfl,rfl,rfl,rfl,rfl,rfl,rfl,rfl,X,rfl,b5,fun _=>⟨by omega,by omega⟩⟩
  by_cases h4:(X:Int)>4
  ·rw[Ja];simp only[XZ,simprocAttr,ag,aa,a8,h4,be];exact(hJ _ _).2 ⟨rfl,rfl,rfl,rfl,rfl,rfl,rfl,rfl,rfl,X%5,rfl,by omega,by omega⟩
  ·rw[Ja];simp only[XZ,simprocAttr,ag,aa,a8,h4];exact(hJ _ _).2 ⟨rfl,rfl,rfl,rfl,rfl,rfl,rfl,rfl,rfl,X,rfl,b5,fun h=>by omega⟩
 intro fr S7 b6;obtain⟨rfl,f0,f3,f5,f6,f8,f9,au,av,k2,b7,em,b8⟩:=(hJ _ _).1 b6;have ax:=G1.A g7;have ab:=g7.B r5;have aw:=g7.B r6;have ah:=g7.B r8;have ai:=g7.B r9;have af:=G7.B dh;have bf:=di.A (Q:=fun u=>S1.A u= .none) G7.H;have en:=g7.B bh;clear b6;have ap:∀{fr:Fr},fr 8= .g p8 0->fr 5= .g p5 0->JM fr [([8],[5])]=true:=fun h1 h2=>JU h1 h2 rfl fun e=>bx (by injection e with e;grind);have aj:=nes dd;have ao:∀{S':St},Gr S7 S'->∀u,k.A u≠ .none->S'.A u=k.A u:=fun{S'} W u a=>(ax.A W).d u a;have eQ:∀{S':St},Gr S7 S'->EnvC Q S' [.d .i64 (E.c:Nat),vv,ar] E:=fun{S'} W=>(eT (g7.A W)).A fun u a T=>⟨PQ u a,rfl⟩
 have ay:1<=4^z*sz10 u:=Nat.mul_pos (Nat.pow_pos (by decide)) c6;have dj:∀{N t':Nat},K (.p [.j [.d .i64 2, .d .i64 0,ofL [],ofL [],pv, .e, .e, .h false, .e], .j [.d .i64 (E.c:Nat),vv,ar]]) ((S7.D p8 N fun O=> .a O [.d .i64 2, .d .i64 0,ofL [],ofL [],pv, .e, .e, .h false, .e]).D p9 t' fun O=> .a O [.d .i64 (E.c:Nat),vv,ar]):=fun{N t'}=>ad (ao (Gr.F G7.D)) (qF (bf.A fun u a T=>⟨NQ u a,rfl⟩)) ay (eQ (Gr.F G7.D)) hK;rw[Jd,Ja];simp[XY,b7];by_cases q0:(k2:Int)=0
 ·rw[Ja];simp[XY,q0];obtain⟨n7,ak⟩:=nxE S7;have o6:=fun X=>nes (Jt G7.D ak (Jb aw) X);rw[Ja];simp[XZ,f6,ak,o6,aw];generalize dk:up 0 n7=px;refine nm1c G7.D ak dk ?_;intro Sx Gx eo ⟨tx,rx⟩;refine YY Gx.D _ 4 (by decide) (by decide) ?_;intro Sy Gy;obtain⟨m,hm,bj⟩:=KU rn (n:=4) (by decide);have hm:rn%4=(m:Nat):=hm;rw[hm];have hi:∃ss:Str,ld1 (.a tx [ofL [116],ofL [32],ofL [120,10],ofL [45]]) m=some (ofL ss, .a):=by
   have:m=0\/m=1\/m=2\/m=3:=by omega
   rcases this with rfl|rfl|rfl|rfl
   all_goals exact⟨_,rfl⟩
  obtain⟨ss,dl⟩:=hi;have dm:Js 1 (.m px 0 4 1 4) (.d .i64 (m:Nat))=some (.g px m, .a):=by
   have:m=0\/m=1\/m=2\/m=3:=by omega
   rcases this with rfl|rfl|rfl|rfl<;>rfl
  have gy:=Gx.A Gy;have dn:=Gy.B rx;simp[XZ,QQ,dm,dn,dl,f5,f8,f9,gy.B ab,gy.B ah,gy.B ai,e1.1,e2.1,aj];refine⟨ap f8 f5, ?_⟩;exact ad (ao gy) (JqD ss) ay (eQ gy) hK
 rw[Ja];simp only[XY,simprocAttr,q0];by_cases bk:(k2:Int)=1\/(k2:Int)=2
 ·have dp:¬(2:Int)=1:=by decide
  rcases bk with q1|q1
  rw[Jd,Ja];simp only[XY,simprocAttr,q1];rotate_left;rw[Jd,Ja];simp[XY,q1,dp]
  all_goals
   rw[Ja];simp[XZ,QQ,f5,f8,f9,av,ab,ah,ai,af,v1,e1.1,e2.1,aj];refine⟨ap f8 f5, ?_⟩
   grind
 have q1:¬(k2:Int)=1:=fun h=>bk (.inl h);have q2:¬(k2:Int)=2:=fun h=>bk (.inr h);rw[Jd,Ja];simp[XY,q1,q2];by_cases q3:(k2:Int)=3
 ·rw[Ja];simp[XY,q3];by_cases bi:l.length=0
  ·have aa:(l.length:Int)=0:=by omega
   rw[Jd,Ja];simp[XY,au,ag,aa];rw[Ja];simp only[XZ,simprocAttr,QQ,f5,f8,f9,av,ab,ah,ai,af,v1,e1.1,e2.1,aj];refine⟨ap f8 f5, ?_⟩
   grind
  have aa:¬(l.length:Int)=0:=by omega
  by_cases b9:(E.a.length:Int)>6
  ·rw[Jd,Ja];simp only[XY,simprocAttr,f5,au,ab,a0,ag,aa,b9];rw[Ja];simp only[XZ,simprocAttr,QQ,f5,f8,f9,av,ab,ah,ai,af,v1,e1.1,e2.1,aj];refine⟨ap f8 f5, ?_⟩
   grind
  rw[Jd,Ja];simp only[XY,simprocAttr,f5,au,ab,a0,ag,aa,b9];have ha:IntKind.i64.wrap (97+(E.a.length:Int))=((97+E.a.length:Nat):Int):=by rw[JX (by omega) (by omega)];omega
  have hu:IntKind.u8.wrap ((97+E.a.length:Nat):Int)=((97+E.a.length:Nat):Int):=by
   have:E.a.length<7:=by omega
   generalize E.a.length=q at*
   match q,this with
   |0,_=>rfl
   |1,_=>rfl
   |2,_=>rfl
   |3,_=>rfl
   |4,_=>rfl
   |5,_=>rfl
   |6,_=>rfl
  obtain⟨n7,ak⟩:=nxE S7;have o5:=fun X=>nes (Jt G7.D ak (Jb ab) X);rw[Ja];simp only[XY,simprocAttr,f5,ab,a0,ha,hu,ak];obtain⟨A1,a9⟩:=exE (S7.B fun N=>Row.a N [V.d .u8 ((97+E.a.length:Nat):Int)]);have bl:Gr S7 A1:=by rw[a9];exact Gr.G G7.D (Jc _)
  have dq:A1.A (up 0 n7)= .a S7.t [V.d .u8 ((97+E.a.length:Nat):Int)]:=by rw[a9,<-ak,KR,Xe rfl]
  have ca:=Jrd dq (by omega);rw[<-a9];clear a9;simp only[XY,simprocAttr,Jua,ca];have dr:=bl.B aw;rw[Ja];simp only[XY,simprocAttr,f6,au,dr,ag];refine YY bl.D _ l.length (by omega) (by omega) ?_;intro S8 G8;obtain⟨m,hm,bj⟩:=KU rn (show 0<l.length by omega);rw[hm];have g8:=bl.A G8;have ds:=(((G3.A G4).A (G5.A G6)).A G7).A g8;obtain⟨rq,oq,e,a1,_,a3,a4,a5,a6,a7⟩:=(lT ds).A bj;obtain⟨ck,d7,ep,eq,cn,cb,er,rfl,z2,z6,dt,cp,et,du⟩:=YT a5;have cc:=hg _ (Xh bj);obtain⟨hC,hG⟩:=QC a5 cc 2;have eu:=cc.a;generalize l[m].2=id at*;obtain⟨n8,cd⟩:=nxE S8;simp only[XY,simprocAttr,a1,a4,z2,z6,cd];generalize ce:up 0 n8=bm;refine nmA G8.D cd ce ?_;intro S9 G9 d8 ⟨ev,ba⟩;have g9:=g8.A G9;have bb:=g9.B ab;obtain⟨nm,cf⟩:∃nm:Str,nm=[118,UInt8.ofNat (97+E.a.length)]:=⟨_,rfl⟩
  have cg:nm≠[]:=by grind
  obtain⟨nA,bc⟩:=nxE S9;have dv:=fun X=>nes (Jt G9.D bc (Jb bb) X);rw[Ja];simp only[XY,simprocAttr,f5,bb,bc,dv];obtain⟨x0,bn⟩:=exE (up 0 nA);obtain⟨bo,aq⟩:=exE (S9.B fun N=>Row.a N []);have ch:Gr S9 bo:=by rw[aq];exact Gr.G G9.D (Jc _)
  obtain⟨tx,rx⟩:∃N,bo.A x0= .a N []:=⟨_,by rw[aq,bn];exact Qi bc _⟩
  have cj:S9.A x0= .none:=by rw[bn];exact nx0 G9.D bc 0
  rw[<-aq,<-bn];clear aq;have dw:SlF S9 bo (.m x0 0 0 2 0) 2 []:=⟨by simp, .inr ⟨x0,tx,cj,by grind, .inr rfl⟩⟩
  have dx:=ax.A g9;have n1:=h1.D (Q:=fun _=>True) (st':=S9) fun u a T=>⟨trivial,dx.d u T⟩
  refine Qj (S0:=S9) ch dw (n1.I ch) (JfS _) (by grind) (by grind) fun Sa v5 ga cl d9 dy=> ?_;simp at cl;obtain⟨nC,cm⟩:=nxE Sa;simp only[XZ,simprocAttr,ga.B ba,cm];rw[<-cf];clear cf;have ew:rowOf v5=some x0\/S9.A x0= .none:= .inr cj;have dz:AccR (fun _ _ e x=>e=varE x) (fun _=>True) S9 Sa v5 2 E.a:=⟨E.a.map varE,cl,by simp,fun i a T=>by simp⟩
  refine JqE (C:=fun _ _ e x=>e=varE x) (S0:=S9) (x:=(nm,id)) (fun h X=>h) ga cm dz rfl rfl rfl (by omega) ?_;intro Sd v6 gd d0 ex ey;have am:SlF S9 Sd v6 2 ((E.a++[(nm,id)]).map varE):=by
   obtain⟨d1,q1,q2,q3⟩:=d0;have:d1=(E.a++[(nm,id)]).map varE:=ZT (by simp[q2]) fun i a T=>by grind
   grind
  have s6:=am.D.B;have d2:=am.D.A;have co:=gd.B bb;simp[XY,f5,co,s6,d2];refine⟨JU (v:= .m x0 0 0 2 0) (w:= .g bm 7) (q:=bm) rfl rfl rfl fun e=>Jb ba (by injection e with e;grind), ?_⟩;refine nmW gd.D co ?_;intro d3 C5 ⟨ez,cq⟩;have bp:=g9.A gd;have bq:=(C5.d bm (Jb (gd.B ba)) fun e=>Jb (g8.B ab) (by grind)).trans (gd.B ba);rw[Ja];simp[XZ,bq];refine Jc0 (P:=fun u=>S1.A u= .none) C5.D (hC.A fun u a T=>⟨a,by rw[C5.d u (by rw[(G9.A gd).d u T];exact T) fun e=>Jb r5 (by grind),(G9.A gd).d u T]⟩) hG ?_;intro d4 cr bd bg;obtain⟨v3,v4⟩:=bg.D;have az:∀{Y:Pt} {N:Nat} {l:List V},S7.A Y= .a N l->Y≠p5->cr.A Y= .a N l:=fun{Y N l} h n=>by
   have h1:=bp.B h;exact bd.B ((C5.d Y (Jb h1) n).trans h1)
  have cs:=bd.B cq;simp[XZ,QQ,f5,f8,f9,cs,az ah (Ne.symm bx),az ai (Ne.symm dc),v3,v4,s6,e2.1,aj];refine⟨ap f8 f5, ?_⟩;have al:∀u,k.A u≠ .none->cr.A u=k.A u:=fun u a=>by
   have h1:=(ax.A bp).d u a;have h2:d3.A u=Sd.A u:=C5.d u (by grind) fun e=>a (by grind);rw[bd.d u (by grind),h2,h1]
  refine ad al (qF ⟨3,nm,d4,rfl, .inr (.inr (.inr ⟨rfl,cg⟩)),bg.A fun u a T=>⟨NQ u (a.elim (fun a=>a) fun a=>(g7.A bp).I (C5.B a)),rfl⟩⟩) ay (E2:=varS E nm id) ⟨v6,ar,rfl,am.D.D fun u a T=>⟨NQ u ((g7.A g9).I a), ?_⟩,(eT (Gr.F G1.D)).D.G (fun _ _ h=>h.A fun u a T=>⟨PQ u a,by rw[al u a.2,G1.d u a.2]⟩) fun u a T=>⟨PQ u a,by rw[al u a.2,G1.d u a.2]⟩⟩ ?_
  ·have h2:=C5.d u T fun e=>Jb bb (by grind);rw[bd.d u (by grind),h2]
  ·have e0:(varS E nm id).a.length=E.a.length+1:=by simp[varS]
   refine⟨⟨hK.k.d,fun x a=> ?_,hK.k.c,by omega,hK.k.f⟩,by omega,hK.n⟩;rcases Xs.1 a with a|a
   ·exact hK.k.b x a
   grind
 rw[Ja];simp[XY,q3];obtain⟨P1,br⟩:∃P1:Pt->Prop,∀u,P1 u<->(P u/\k.A u≠ .none)\/S1.A u= .none:=⟨fun u=>(P u/\k.A u≠ .none)\/S1.A u= .none,fun u=>Iff.rfl⟩
 have bt:∀u,P1 u\/S7.A u= .none->Q u:=fun u a=>by
  rcases a with a|a
  ·grind
  ·exact NQ u (g7.I a)
 have ct:EnvC P1 S7 [.d .i64 (E.c:Nat),vv,ar] E:=(eT g7).A fun u a T=>⟨(br u).2 (.inl a),rfl⟩
 have bu:=bf.A (Q:=P1) (S':=S7) fun u a T=>⟨(br u).2 (.inr a),rfl⟩
 have cu:KF P1 S7 lv l:=(lT (((G3.A G4).A (G5.A G6)).A G7)).za fun u a T=>⟨(br u).2 (.inr a),rfl⟩
 have bv:R10C (fun _=>True) S7 [.d .i64 rk, .d .i64 rn, .d .i64 x, .d .i64 L,M,kv] u:=c4.F ax;have M7:=hM.F ax;by_cases q4:(k2:Int)=4
 ·rw[Ja];simp[XY,q4];rw[Ja];simp[XZ,f0,f5,f6,av,ab,aw,af];refine KI (P:=fun v S'=>∃e,v= .j e/\jw Q S' e) (fun n w=>(JuS (M7.D n) (bv.A kR) (ct.A kR) hK (bu.A kR)).A fun v S' h=>⟨h.1,h.2.imp fun e h=>⟨h.1,h.2.A fun u a T=>⟨bt u a,rfl⟩⟩⟩) G7.D (fun v S' n h=>h.imp fun e h=>⟨h.1,h.2.A kR⟩) ?_;rintro _ S8 G8 ⟨e,rfl,hL⟩;obtain⟨nk,na,nt,nn,cv,cw,cx,cy,cz,rfl,b1,b2,b3,b4⟩:=Jc1 (JkG hL);simp[XZ,QQ,f5,f8,f9,G8.B ab,G8.B ah,G8.B ai,b1,b2,b3,b4,e1.1,e2.1,aj];refine⟨ap f8 f5, ?_⟩;exact ad (ao G8) (qF hL) ay (eQ G8) hK
 rw[Ja];simp[XY,q4];by_cases q5:(k2:Int)=5
 ·rw[Ja];simp[XY,q5];rw[Ja];simp[XZ,f0,f6,au,av,aw,af];refine KI (P:=fun v S'=>∃e,v= .j e/\jw Q S' e) (fun n w=>(JtY (M7.D n) (bv.A kR) (cu.za kR) hg (by omega) (bu.A kR)).A fun v S' h=>⟨h.1,h.2.imp fun e h=>⟨h.1,h.2.A fun u a T=>⟨bt u a,rfl⟩⟩⟩) G7.D (fun v S' n h=>h.imp fun e h=>⟨h.1,h.2.A kR⟩) ?_;rintro _ S8 G8 ⟨e,rfl,hL⟩;obtain⟨nk,na,nt,nn,cv,cw,cx,cy,cz,rfl,b1,b2,b3,b4⟩:=Jc1 (JkG hL);simp[XZ,QQ,f5,f8,f9,G8.B ab,G8.B ah,G8.B ai,b1,b2,b3,b4,e1.1,e2.1,aj];refine⟨ap f8 f5, ?_⟩;exact ad (ao G8) (qF hL) ay (eQ G8) hK
 rw[Ja];simp[XY,q5];obtain⟨bi,a8⟩:=b8 (by omega);obtain⟨z,rfl⟩:∃d',z=d'+1:=⟨z-1,by omega⟩
 rw[Ja];simp[XZ,f0,f3,f5,f6,au,av,b7,ab,aw,af];refine KI (P:=fun v S'=>∃e,v= .j e/\NodR Q S' (z+2) (4^(z+1)*sz10 u) e) (fun n w=>(Jr0 (H z rfl) (M7.D n) (bv.A kR) (ct.A kR) hK (cu.za kR) hg hN bi (bu.A kR)).A fun v S' h=>⟨h.1,h.2.imp fun e h=>⟨h.1,h.2.A fun u a T=>⟨bt u a,rfl⟩⟩⟩) G7.D (fun v S' n h=>h.imp fun e h=>⟨h.1,h.2.A kR⟩) ?_;rintro _ S8 G8 ⟨e,rfl,hL⟩;obtain⟨nk,na,nt,nn,cv,cw,cx,cy,cz,rfl,b1,b2,b3,b4⟩:=Jc1 hL;simp[XZ,QQ,f5,f8,f9,G8.B ab,G8.B ah,G8.B ai,b1,b2,b3,b4,e1.1,e2.1,aj];refine⟨ap f8 f5, ?_⟩
 grind
end Go.Proofs.YtdajkeoobbonjaaGreat
