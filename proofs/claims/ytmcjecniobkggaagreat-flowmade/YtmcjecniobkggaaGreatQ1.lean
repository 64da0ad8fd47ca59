/- Types told apart. The document's Add. The document's Add, where the table is full. The  -/
import Derived.Test.YtmcjecniobkggaaGreatText
set_option linter.constructorNameAsVariable false
set_option maxHeartbeats 8000000
set_option linter.unusedVariables false
set_option linter.unusedSimpArgs false
set_option linter.unusedSectionVars false
set_option maxRecDepth 100000
namespace Go.Proofs.YtmcjecniobkggaaGreat
open Eva Go.RowKit
variable {P:Pt->Prop}{s:List V}{v:St}{e:List Str}{n:Sch}
theorem QQ {f:V}(h:SlAt P v f 1 (strs e)){i:Nat}(g:i<e.length):∃r o,Jo 1 f (.d .i64 i)=some (.e r o, .a)/\ld1 (v.A r) o=some (ofL e[i], .a):=by
 obtain⟨r,q,a,b,c,d⟩:=SlAt.M (xs:=e.map ofL) h (i:=i) (by grind)
 grind
theorem JrY (m:Nat):∀(X Y:Ty),tsz X<m->fitT X=true->fitT Y=true->∀{P Q:Pt->Prop} {y:St} {e1 e2:List V},WF y->TyC P y e1 X->TyC Q y e2 Y->
  Dz 72 [.j e1, .j e2] y fun v S=>Gr y S/\∃b,v= .h b/\(b=true<->X=Y):=by
 induction m with
 |zero=>intro X Y h;exact absurd h (XO _)
 |succ m ih=>
 intro X Y hX hf ah P Q y e1 e2 hw h1 h2;obtain⟨k,n,l,u⟩:=X;obtain⟨k',n',c,f⟩:=Y;obtain⟨f1,x,M⟩:=JaO hf;obtain⟨v4,v5,v6⟩:=JaO ah;refine Jl (aT Tryz.func72 rfl) rfl ?_;obtain⟨n0,U⟩:=nxE y;obtain⟨nv,kv,es,rfl,x1,x2,x3,x4⟩:=h1.D;obtain⟨mv,lv,fs,rfl,y1,y2,y3,y4⟩:=h2.D;have c1:=x1.A;have c2:=x1.B;have c3:=x2.A;have c4:=x2.B;have d1:=y1.A;have d2:=y1.B;have d3:=y2.A;have d4:=y2.B;have o:=x1.G;have z:=x2.G;have N:=y1.G;have W:=y2.G;rw[Jw]at o N;rw[x3]at z;rw[y3]at W;obtain⟨p2,ab⟩:=exE (up 0 n0);obtain⟨p3,ad⟩:=exE (up 1 n0);simp only[CT,Tryz.f72,XY,simprocAttr];rw[Ja];simp only[XY,simprocAttr,U,c2,c4,d2,d4];rw[<-ab,<-ad];obtain⟨S0,K⟩:=exE ((y.B fun t=> .a t [.d .i64 k,ofL n,nv,kv]).B fun t=> .a t [.d .i64 k',ofL n',mv,lv]);have O:Gr y S0:=by rw[K];exact(Gr.G hw (Jd _)).L (Jd _)
 obtain⟨t2,r2⟩:∃t,S0.A p2= .a t [.d .i64 k,ofL n,nv,kv]:=⟨_,by rw[K,ab];simp only[XZ,simprocAttr,U];rfl⟩
 obtain⟨t3,r3⟩:∃t,S0.A p3= .a t [.d .i64 k',ofL n',mv,lv]:=⟨_,by rw[K,ad];simp only[XZ,simprocAttr,U];rfl⟩
 rw[<-K];clear K;have ae:∀{S:St},Gr y S->¬(Ty.mk k n l u=Ty.mk k' n' c f)->Gr y S/\∃b,V.h false= .h b/\(b=true<->Ty.mk k n l u=Ty.mk k' n' c f):=fun g h=>⟨g,false,rfl,fun e=>(by cases e),fun e=>absurd e h⟩
 by_cases hk:k=k';rotate_left
 ·simp only[XZ,simprocAttr,r2,r3,hk]
  grind
 subst hk;by_cases hn:n=n';rotate_left
 ·simp only[XZ,simprocAttr,r2,r3,hn]
  grind
 subst hn;by_cases hl:l.length=c.length;rotate_left
 ·have T:((l.length:Int)=(c.length:Int))=False:=XF (by omega);simp only[XZ,simprocAttr,r2,r3,o,N,T]
  grind
 have T:((l.length:Int)=(c.length:Int))=True:=XL (by omega);by_cases hm:u.length=f.length;rotate_left
 ·have Z:((u.length:Int)=(f.length:Int))=False:=XF (by omega);simp only[XZ,simprocAttr,r2,r3,o,N,z,W,T,Z]
  grind
 have Z:((u.length:Int)=(f.length:Int))=True:=XL (by omega);rw[Je,Ja];simp only[XY,simprocAttr,r2,r3,o,z,N,W,T,Z];have ai:=x1.H O;have aj:=y1.H O;refine QE (fun p S=>S=S0/\p 2= .e p2 0/\p 3= .e p3 0/\l=c) ?_ ?_
 ·rw[Ja];simp only[XY,simprocAttr];refine Jy (fun j p S=>∃(i:Nat),j+i=l.length/\p 2= .e p2 0/\p 3= .e p3 0/\p 5= .d .i64 i/\S=S0/\∀q (h:q<l.length) (h':q<c.length),q<i->l[q]=c[q]) l.length (by omega) ⟨0,by omega,rfl,rfl,by rfl,rfl,fun q _ _ h=>absurd h (by omega)⟩ ?_;rintro L hL j p S ⟨i,hj,x,M,f5,rfl,aa⟩;by_cases hi:i<l.length
  ·have w:(i:Int)<l.length:=by omega
   have s:=wiN (i:=i) (by omega);obtain⟨r,q,a1,a4⟩:=QQ ai hi;obtain⟨r',q',b1,b4⟩:=QQ aj (i:=i) (by omega);by_cases he:l[i]=c[i]'(by omega)
   ·simp only[XZ,simprocAttr,x,M,f5,r2,r3,o,w,a1,a4,b1,b4,s,he];exact⟨j-1,by omega,hL _ _ _ ⟨i+1,by omega,x,M,rfl,rfl,fun q h h' hq=>by
     grind⟩⟩
   ·simp only[XZ,simprocAttr,x,M,f5,r2,r3,o,w,a1,a4,b1,b4,he]
    grind
  ·have w:¬(i:Int)<l.length:=by omega
   simp only[XZ,simprocAttr,x,M,f5,r2,o,w];exact ZP hl fun q h h'=>aa q h h' (by omega)
 rintro p S ⟨rfl,x,M,ak⟩;refine QE (fun p S'=>Gr S S'/\u=f) ?_ fun p S' h=>by
  simp only[XZ,simprocAttr];exact⟨O.B h.1,true,rfl,fun _=>by grind,fun _=>rfl⟩
 rw[Ja];simp only[XY,simprocAttr];refine Jy (fun j p S'=>∃(i:Nat),j+i=u.length/\p 2= .e p2 0/\p 3= .e p3 0/\p 6= .d .i64 i/\Gr S S'/\∀q (h:q<u.length) (h':q<f.length),q<i->u[q]=f[q]) u.length (by omega) ⟨0,by omega,x,M,by rfl,Gr.F O.D,fun q _ _ h=>absurd h (by omega)⟩ ?_;rintro L hL j p S' ⟨i,hj,x,M,f6,g,aa⟩;have r2:=g.A r2;have r3:=g.A r3;by_cases hi:i<u.length
 ·have w:(i:Int)<u.length:=by omega
  have s:=wiN (i:=i) (by omega);have af:i<es.length:=by omega
  have ag:i<fs.length:=by omega
  obtain⟨r,q,a1,a2,a3,a4,a5⟩:=((x2.H O).H g).I af;obtain⟨r',q',b1,b2,b3,b4,b5⟩:=((y2.H O).H g).I ag;rw[Je,Ja];simp only[XY,simprocAttr,x,f6,r2,z,w];rw[Je];simp only[XY,simprocAttr];rw[Ja];simp only[XY,simprocAttr,x,M,f6,r2,r3,a1,a4,b1,b4];refine Jj (ih u[i] (f[i]'(by omega)) (by have:=YP (k:=k) (n:=n) (ns:=l) hi;omega) (JaP (by omega) i hi) (JaP v6 i (by omega)) (Js g.D _) (((x4 i af hi).H (O.B g)).I _) (((y4 i ag (by omega)).H (O.B g)).I _)) ?_;rintro _ Se ge ⟨b,rfl,hb⟩
  cases b with
  | true=>
    simp only[XZ,simprocAttr,f6,s];exact⟨j-1,by omega,hL _ _ _ ⟨i+1,by omega,x,M,rfl,g.B ge,fun q h h' hq=>by
     grind⟩⟩
  | false=>
    simp only[XZ,simprocAttr];exact ae (O.B (g.B ge)) fun e=>by grind
 ·simp[XZ,x,f6,r2,z,hi];exact⟨g,ZP hm fun q h h'=>aa q h h' (by omega)⟩
theorem JmE (mm:Nat):∀(X:Ty),tsz X<mm->∀{Y st:St} {P:Pt} {lv tv:V} {af:List V} {O:Pt->Prop} {tb:Tb} {aa:List Ty} {e:List V} {left:Int},RT Y st P lv tv af O tb.a aa->KZ tb.a aa->TyC (fun r=>Y.A r≠ .none) st e X->(addT X left tb).2.2.1=0->(∃r0 r1 r2 r3 r4 r5 r6 r7 r8,af=[r0,r1,r2,r3,r4,r5,r6,r7,r8])->
  Dz 31 [.e P 0, .j e] st fun v S=>∃Q N O' al,RT Y S P Q N af O' (addT X left tb).1.a al/\KZ (addT X left tb).1.a al/\Kz O O' (Bt P lv tv O) (Bt P Q N O') st S/\v= .p [.d .i64 ((addT X left tb).2.1:Nat), .d .i64 0]:=by
 induction mm with
 |zero=>intro X h;exact absurd h (XO _)
 |succ mm ih=>
 intro X hX Y st P lv tv af O tb aa e left hR hI hx he bq;obtain⟨k,n,ns,Z⟩:=X;obtain⟨dy,dz,ao,az,a0,a6⟩:=JqJ he;have ap:=Jfa _ he;obtain⟨_,_,d0⟩:=JaO ap;refine Jl (aT Tryz.func31 rfl) rfl ?_;have hw:=hR.g.D;obtain⟨n0,a7⟩:=nxE st;obtain⟨nv,kv,es,rfl,x1,x2,x3,x4⟩:=hx.D;have c1:=x1.A;have c2:=x1.B;have c3:=x2.A;have c4:=x2.B;have len2:=x2.G;rw[x3]at len2;obtain⟨p3,br⟩:=exE (up 0 n0);simp only[CT,Tryz.f31,XY,simprocAttr];rw[Ja];simp[XY,a7,c2,c4];rw[<-br];obtain⟨S0,a8⟩:=exE (st.B fun t=> .a t [.d .i64 k,ofL n,nv,kv]);have G0:Gr st S0:=by rw[a8];exact Gr.G hw (Jd _)
 obtain⟨t3,r3⟩:∃t,S0.A p3= .a t [.d .i64 k,ofL n,nv,kv]:=⟨_,by rw[a8,br];simp[XZ,a7];rfl⟩
 have cf:st.A p3= .none:=by rw[br];exact nx0 hw a7 0
 rw[<-a8];clear a8;have w0:=G0.D;obtain⟨n1,aq⟩:=nxE S0;have o3:=fun k=>nes (Jr w0 aq (Jb r3) k);rw[Ja];simp[XY,r3,aq,o3];obtain⟨x0,bt⟩:=exE (up 0 n1);obtain⟨S1,a9⟩:=exE (S0.B fun t=>Row.a t []);have G1:Gr S0 S1:=by rw[a9];exact Gr.G w0 (Jd _)
 obtain⟨t1,r1⟩:∃t,S1.A x0= .a t []:=⟨_,by rw[a9,bt];simp[XZ,aq];rfl⟩
 have ba:S0.A x0= .none:=by rw[bt];exact nx0 w0 aq 0
 rw[<-a9,<-bt];clear a9;have ag:p3≠x0:=fun e=>by rw[<-e,r3]at ba;cases ba
 have c7:∀r,S0.A r= .none->st.A r= .none:=fun r e=>G0.I e;have cg:∀r,st.A r= .none->Y.A r= .none:=fun r e=>hR.g.I e;have ch:SlF st S1 (.m x0 0 0 1 0) 1 []:=⟨by simp, .inr ⟨x0,t1,c7 _ ba,by rw[r1];rfl, .inr rfl⟩⟩
 have bu:=G0.B G1;refine Qw (S0:=st) bu ch (x1.H bu) (Yp _) (by rw[Jw];omega) (by rw[Jw];simp;omega) fun Sa v1 ga ah bn ar=> ?_;simp at ah;have bv:Sa.A p3= .a t3 [.d .i64 k,ofL n,nv,kv]:=(ar p3 (Jb (G1.A r3)) fun e=>ag (by injection e with e;exact e.symm)).trans (G1.A r3);have cj:=ah.D.B;have ck:=ah.D.A;obtain⟨nA,bb⟩:=nxE Sa;simp[XY,bb,cj,ck];obtain⟨p6,bw⟩:=exE (up 0 nA);obtain⟨S2,bc⟩:=exE ((Sa.B fun t=> .a t [.d .i64 0,ofL [], .g, .g]).D (up 0 nA) Sa.t fun u=> .a u [.d .i64 k,ofL n,v1, .g]);have G2:Gr Sa S2:=by rw[bc];exact(Gr.F ga.D).M bb (Jd _) (Jd _)
 obtain⟨t6,r6⟩:∃t,S2.A p6= .a t [.d .i64 k,ofL n,v1, .g]:=⟨_,by rw[bc,bw];simp[XZ];rfl⟩
 have bd:Sa.A p6= .none:=by rw[bw];exact nx0 ga.D bb 0
 rw[<-bc,<-bw];clear bc;refine⟨JaM (JQ (v:= .m x0 0 0 1 0) (w:= .e p3 0) (q:=p3) ?_ ?_ rfl fun e=>ag (by injection e with e;exact e.symm)) (JQ (v:= .m x0 0 0 1 0) (w:= .e p3 1) (q:=p3) ?_ ?_ rfl fun e=>ag (by injection e with e;exact e.symm)), ?_⟩
 ·simp[XZ]
 ·simp[XZ]
 ·simp[XZ]
 ·simp[XZ]
 have cl:Gr st S2:=ga.B G2;have bx:st.A p6= .none:=ga.I bd;have bo:∀r,rowOf v1=some r->Sa.A r≠ .none:=fun r e=>ah.A e;have c9:∀r,rowOf v1=some r->r≠p3/\r≠p6:=fun r e=>⟨fun x=>(by
  subst x;rcases bn with h|h
  ·rw[h]at e;injection e with e;exact ag e.symm
  ·rw[h]at e;injection e with e;have:=J9 G1.D;rw[e,G1.A r3]at this;cases this),fun x=>bo r e (by rw[x];exact bd)⟩
 have da:p3≠p6:=fun x=>by rw[<-x,bv]at bd;cases bd
 have ow:∀r,st.A r= .none->S2.A r≠ .none->S2.A r≠ .none/\¬Bt P lv tv O r:=fun r e a=>⟨a,fun x=>hR.A r x e⟩
 have r32:=G2.A bv;have M0:Mid5 Y st S2 P p3 p6 lv tv lv tv af O O tb.a aa [.d .i64 k,ofL n,nv,kv] [.d .i64 k,ofL n] v1 .g ns []:=
  { c:=hR.I cl,f:=Kz.J (fun r e=>(hR.o r e).1) cl,s:=⟨_,r32⟩,u:=⟨_,r6⟩,l:=(ah.G G2).J cg,m:=SlF.I _ _ _,B:=fun r e=>e.elim (fun e=> .inr (ah.H e).1) (fun e=>nomatch e),j:=fun r e=>(nomatch e),v:=c9,z:=da,H:=cf,I:=bx,d:=fun r e=>by
      rcases e with rfl|rfl|e|e
      ·exact ow _ cf (Jb r32)
      ·exact ow _ bx (Jb r6)
      ·exact ow _ (ah.H e).1 ((ah.G G2).A e)
      ·cases e}
 obtain⟨q0,q1,q2,q3,q4,q5,q6,q7,q8,rfl⟩:=bq;clear bn ar ch bu r1 ba ag o3 aq a7 bb cj ck ow r32 bo r6 bv t6 t1;have kx:∀{S:St} {Q N bz O' nd tr},RT Y S P Q N bz O' nd tr->∀{E:List V} {T:Ty},TyC (fun r=>Y.A r≠ .none) st E T->TyC (fun r=>Y.A r≠ .none) S E T:=fun{_ _ _ _ _ _ _} R {_ _} h=>TyC.A h fun q p _=>⟨p,by rw[R.g.d q p,hR.g.d q p]⟩
 obtain⟨F,hF⟩:∃F:Fr->St->Prop,∀fr S,F fr S<->∃(Q N b0:V) (O':Pt->Prop) (tr:List Ty),fr 0= .e P 0/\fr 3= .e p3 0/\fr 6= .e p6 0/\
   Mid5 Y st S P p3 p6 lv tv Q N [q0,q1,q2,q3,q4,q5,q6,q7,q8] O O' (JB Z (left-1) tb).1.a tr [.d .i64 k,ofL n,nv,kv] [.d .i64 k,ofL n] v1 b0 ns (JB Z (left-1) tb).2.1/\KZ (JB Z (left-1) tb).1.a tr:=⟨_,fun _ _=>Iff.rfl⟩
 refine QE F ?_ ?_
 ·rw[Ja];simp[XY];obtain⟨L,hL⟩:∃L:Nat->Fr->St->Prop,∀j fr S,L j fr S<->∃(i:Nat) (Q N b0:V) (O':Pt->Prop) (tr:List Ty) (ae:Tb) (li:Int) (U:List Nat),j+i=Z.length/\fr 0= .e P 0/\fr 3= .e p3 0/\fr 6= .e p6 0/\fr 7= .d .i64 i/\
   Mid5 Y st S P p3 p6 lv tv Q N [q0,q1,q2,q3,q4,q5,q6,q7,q8] O O' ae.a tr [.d .i64 k,ofL n,nv,kv] [.d .i64 k,ofL n] v1 b0 ns U/\KZ ae.a tr/\
   (JB (Z.drop i) li ae).2.2.1=0/\(JB Z (left-1) tb).1=(JB (Z.drop i) li ae).1/\(JB Z (left-1) tb).2.1=U++(JB (Z.drop i) li ae).2.1/\U.length=i:=⟨_,fun _ _ _=>Iff.rfl⟩
  refine JC L Z.length (by omega) ((hL _ _ _).2 ⟨0,lv,tv, .g,O,aa,tb,left-1,[],by omega,rfl,rfl,rfl,by simp[XZ]<;>rfl,M0,hI,ao,rfl,rfl,rfl⟩) ?_;intro j fr S b7;obtain⟨i,Q,N,kw,O',tr,ae,li,U,hj,f0,f3,f6,f7,M,T,e0,e1,e2,e3⟩:=(hL _ _ _).1 b7;obtain⟨t3,m3⟩:=M.s;obtain⟨t6,m6⟩:=M.u;simp at m6;by_cases hi:i<Z.length
  ·have aj:=wiN (i:=i) (by omega);have db:LstAt (TyC (fun r=>Y.A r≠ .none) S) (fun r=>Y.A r≠ .none) S kv 4 Z:=⟨es,x2.D fun r p _=>⟨p,by rw[M.c.g.d r p,hR.g.d r p]⟩,x3,fun i a b=>kx M.c (x4 i a b)⟩
   obtain⟨q,qo,E,a1,a2,a3,a4,hE,e4,a5⟩:=db.A hi;rw[Xc hi]at e0 e1 e2;obtain⟨s1,s2,s3,s4⟩:=Jo8 e0;rw[s3]at e1;rw[s4]at e2;simp[XZ,f0,f3,f7,m3,len2,hi,a1,a4];refine Jc (ih Z[i] (by have:=YP (k:=k) (n:=n) (ns:=ns) hi;omega) M.c T hE s1 ⟨_,_,_,_,_,_,_,_,_,rfl⟩) ?_;rintro _ S3 ⟨dc,dd,O2,de,R2,T2,K2,rfl⟩;have M2:=M.A R2 K2;obtain⟨u6,be⟩:=M2.u;simp at be;obtain⟨id,hid⟩:∃id,id=(addT Z[i] li ae).2.1:=⟨_,rfl⟩
   rw[<-hid]at e2⊢;have w3:=R2.g.D;obtain⟨n3,ag⟩:=nxE S3;simp[XZ,f6,be,ag];have gn:Gr S3 (S3.B fun t=> .a t [.d .i64 id]):=Gr.G w3 (Jd _);have au:SlAt (fun r=>r=up 0 n3) (S3.B fun t=> .a t [.d .i64 id]) (.m (up 0 n3) 0 1 1 1) 1 [[.d .i64 id]]:=by
    have:=Ql (st:=S3) (z:=1) (e:=[.d .i64 id]) rfl
    rwa [ag]at this
   have M3:=M2.G gn;refine QG (S0:=Y) M3.c.g M3.m au (fun e he=>by rw[Xn.1 he];rfl) (by simp) (by simp) (by rw[JS];simp;omega) ?_;intro S4 v4 g4 h4 df cm;have r64:S4.A p6= .a u6 [.d .i64 k,ofL n,v1,kw]:=(cm p6 (Jb (gn.A be)) fun e=>(M3.j _ e).2.1 rfl).trans (gn.A be);have dg:=h4.D.B;have dh:=h4.D.A;simp[XZ,f6,f7,r64,dg,dh,aj];refine⟨Z.length-(i+1),by omega,(hL _ _ _).2 ⟨i+1,dc,dd,v4,O2,de,(addT Z[i] li ae).1,(addT Z[i] li ae).2.2.2,U++[id],by omega,f0,f3,f6,rfl, ?_,T2,s2,e1,by rw[e2];simp,by simp[e3]⟩⟩;refine M3.D (S1:=S4) (by unfold ints at h4⊢;simpa using h4) df cm (fun r e=>by simp[J6,e]) ⟨_,by simp[XZ];rfl⟩ (g4.J ?_ (Jb r64) (by rw[r64];rfl) (Jd _));exact cg _ bx
  ·rw[Xm (by omega),KU]at e1 e2;simp[XZ,f3,f7,m3,len2,hi];refine(hF _ _).2 ⟨Q,N,kw,O',tr,f0,f3,f6, ?_⟩;rw[e1,e2,ZC];exact⟨M,T⟩
 clear M0 hI;intro fr S bf;obtain⟨Q,N,kw,O',tr,f0,f3,f6,M,T⟩:=(hF _ _).1 bf;obtain⟨_,_,bg,_⟩:=qb Z ao;generalize hA:JB Z (left-1) tb=A at ao az a0 a6 M T bg;obtain⟨K,U,eA,lA⟩:=A;simp at ao az a0 a6 M T bg;clear hF bf F ao hA;rw[a0,a6];clear a0 a6 he;have ab:layS K ⟨k,n,ns,U⟩=match idx ⟨k,n,ns,U⟩ K.a 0 with
  |some i=>(K,i,0)
  |none=>if 120<=K.a.length then(K,0,20)else({K with a:=K.a++[⟨k,n,ns,U⟩]},K.a.length,0):=rfl
 have bp:Kh K.a (.mk k n ns Z)=idx ⟨k,n,ns,U⟩ K.a 0:=by rw[Kh,bg]
 obtain⟨t3,m3⟩:=M.s;obtain⟨t6,m6⟩:=M.u;simp at m6;obtain⟨tc,rc⟩:=M.c.d;obtain⟨av,l1,l2,l3⟩:=M.c.l;obtain⟨W,u1,u2,u3⟩:=M.c.t;have ll:=l1.D.G;have lt:=u1.D.G;have bh:=kx M.c hx;obtain⟨F,hF⟩:=opE fun fr S'=>fr 0= .e P 0/\fr 3= .e p3 0/\fr 6= .e p6 0/\Gr S S'/\idx ⟨k,n,ns,U⟩ K.a 0=none;refine QE F ?_ ?_
 ·rw[Ja];simp[XY];obtain⟨L,hL⟩:=loE fun j fr S'=>∃(i:Nat),j+i=tr.length/\fr 0= .e P 0/\fr 3= .e p3 0/\fr 6= .e p6 0/\fr 10= .d .i64 i/\Gr S S'/\∀q (a:q<tr.length),q<i->tr[q]≠ .mk k n ns Z;have d1:tr.length<1000000:=by
   have:=T.a;have:=T.c;omega
  refine JC L tr.length (by omega) ((hL _ _ _).2 ⟨0,by omega,f0,f3,f6,by simp[XZ]<;>rfl,Gr.F M.c.g.D,fun q _ h=>absurd h (XO _)⟩) ?_;clear f0 f3 f6;intro j fr S' b7;obtain⟨i,hj,f0,f3,f6,bi,g,cn⟩:=(hL _ _ _).1 b7;have co:=g.A rc;have di:=g.A m3;by_cases hi:i<tr.length
  ·have b8:(i:Int)<W.length:=by omega
   have aj:=wiN (i:=i) (by omega);have b9:LstAt (TyC (fun r=>Y.A r≠ .none) S') (fun r=>Y.A r= .none) S' N 4 tr:=⟨W,(u1.G g).D,u2,fun i a b=>(u3 i a b).H g⟩
   obtain⟨q,qo,E,a1,a2,a3,a4,hE,e4,a5⟩:=b9.A hi;simp[XZ,f0,f3,bi,co,di,lt,b8,a1,a4];have ft:=T.d _ (Xh hi);refine Jj (JrY _ tr[i] (.mk k n ns Z) (XK _) ft ap (Js g.D _) (hE.I _) ((bh.H g).I _)) ?_;rintro _ S2 g2 ⟨b,rfl,hb⟩
   cases b with
   | true=>
     have e:=hb.1 rfl;rw[T.D hi,bp]at e;have e2:layS K ⟨k,n,ns,U⟩=(K,i,0):=by rw[ab,e]
     simp[XZ,bi];rw[e2];exact⟨Q,N,O',tr,M.c.I (g.B g2),T,(M.G (g.B g2)).f,rfl⟩
   | false=>
     simp[XZ,bi,aj];exact⟨tr.length-(i+1),by omega,(hL _ _ _).2 ⟨i+1,by omega,f0,f3,f6,rfl,g.B g2,fun q a h=>by
      by_cases x:q=i
      ·subst x;exact fun e=>(by cases hb.2 e)
      ·exact cn q a (by omega)⟩⟩
  ·have b8:¬(i:Int)<W.length:=by omega
   simp[XZ,f0,bi,co,lt,b8];refine(hF _ _).2 ⟨f0,f3,f6,g, ?_⟩
   cases e:idx ⟨k,n,ns,U⟩ K.a 0 with
   |none=>rfl
   | some q=>
     obtain⟨_,b⟩:=jC e;have hq:q<tr.length:=by
      rw[T.a];exact(Xz.1 b).1
     exact absurd ((T.D hq).2 (bp.trans e)) (cn q hq (by omega))
 clear f0 f3 f6;intro fr S' bf;obtain⟨f0,f3,f6,g,cp⟩:=(hF _ _).1 bf;obtain⟨cq,b9⟩:K.a.length<120/\layS K ⟨k,n,ns,U⟩=({K with a:=K.a++[⟨k,n,ns,U⟩]},K.a.length,0):=by
  rw[cp]at ab;by_cases c:120<=K.a.length
  ·rw[Xd c]at ab;rw[ab]at az;cases az
  ·rw[Xa c]at ab;exact⟨by omega,ab⟩
 rw[b9];have M:=M.G g;have rc:=g.A rc;have m3:=g.A m3;have m6:=g.A m6;have l1:=l1.G g;have u1:=u1.G g;have bh:=bh.H g;have l3:∀i (a:i<av.length) (b:i<K.a.length),NdC O' S' av[i] K.a[i]:=fun i a b=>(l3 i a b).B g;have u3:∀i (a:i<W.length) (b:i<tr.length),TyC (fun r=>Y.A r≠ .none) S' W[i] tr[i]:=fun i a b=>(u3 i a b).H g;have cr:¬(120:Int)<=av.length:=by omega
 have s1:=M.l.D.B;have s2:=M.m.D.B;have s3:=M.l.D.A;have s4:=M.m.D.A;rw[Je,Ja];simp[XY,f0,rc,ll,cr];obtain⟨nS,ca⟩:=nxE S';rw[Ja];simp[XY,f0,f6,rc,m6,ca,s1,s2];obtain⟨A5,bj⟩:=exE (S'.B fun t=> .a t [.d .i64 k,ofL n,v1,kw]);have ai:Gr S' A5:=by rw[bj];exact Gr.G M.c.g.D (Jd _)
 have au:SlAt (fun r=>r=up 0 nS) A5 (.m (up 0 nS) 0 1 4 1) 4 [[.d .i64 k,ofL n,v1,kw]]:=by
  have:=Ql (st:=S') (z:=4) (e:=[.d .i64 k,ofL n,v1,kw]) rfl
  rwa [ca,<-bj]at this
 rw[<-bj];clear bj ca;have d2:=M.c.A;have cb:=fun r (e:S'.A r≠ .none)=>(ai.d r e▸e:A5.A r≠ .none)
 have dj:okC [[V.d .i64 k,ofL n,v1,kw]]:=fun e he=>by rw[Xn.1 he];simp only[Kk,ZE,Hd,s1,s2];rfl
 refine JsF (JqK (R:=fun v' S=>Gr Y S/\SlF Y S v' 4 (av++[[.d .i64 k,ofL n,v1,kw]])/\rowOf v'=some A5.b/\∀p,A5.A p≠ .none->rowOf Q≠some p->S.A p=A5.A p) ai.D (QG (S0:=Y) (M.c.g.B ai) (l1.G ai) au dj (by simp) (by simp) (by simp;omega) fun S' v' a b c d=>⟨a,b,c,d⟩)) ?_;rintro v5 A6 ⟨⟨g6,h5,dk,cs⟩,dl⟩;have cc:A6.A P= .a tc [Q,N,q0,q1,q2,q3,q4,q5,q6,q7,q8]:=(cs P (cb _ (Jb rc)) fun e=>(M.c.f P e).2 rfl).trans (ai.A rc);have s5:=h5.D.B;have s6:=h5.D.A;have dm:=h5.D.G;simp[XY,cc,s5,s6];obtain⟨A7,aw⟩:=exE (A6.D P tc fun u=> .a u [v5,N,q0,q1,q2,q3,q4,q5,q6,q7,q8]);have g7:Gr Y A7:=by rw[aw];exact g6.J M.c.m (Jb cc) (by rw[cc];rfl) (Jd _)
 have am:∃t,A7.A P= .a t [v5,N,q0,q1,q2,q3,q4,q5,q6,q7,q8]:=⟨_,by rw[aw];simp[XZ];rfl⟩
 have cd:∀r,r≠P->A7.A r=A6.A r:=fun r e=>by rw[aw];simp[J6,e]
 rw[<-aw];clear aw;obtain⟨t7,am⟩:=am;have bk:∀r,S'.A r≠ .none->r≠P->rowOf Q≠some r->A7.A r=S'.A r:=fun r e a b=>by rw[cd r a,cs r (cb r e) b,ai.d r e]
 have o3:=M.d p3 (.inl rfl);have dn:=(bk p3 (Jb m3) (fun x=>o3.2 (.inl x)) fun x=>o3.2 (.inr (.inl x))).trans m3;have ct:SlF Y A7 N 4 W:=u1.B fun r e=>bk r (u1.A e) (M.c.j r e) fun x=>(M.c.f r x).1 e;have d5:∀r,rowOf v5=some r->S'.A r= .none:=fun r e=>by
  rw[dk]at e;injection e with e;exact ai.I (e▸J9 ai.D)
 have bl:SlF Y A7 v5 4 (av++[[.d .i64 k,ofL n,v1,kw]]):=h5.B fun r e=>cd r fun x=>Jb rc (x▸d5 r e);obtain⟨nB,ce⟩:=nxE A7;have dp:=ct.D.G;rw[Ja];simp[XY,f0,f3,am,dn,dp,ce];obtain⟨A8,bm⟩:=exE (A7.B fun t=> .a t [.d .i64 0,ofL [], .g, .g]);have ak:Gr A7 A8:=by rw[bm];exact Gr.G g7.D (Jd _)
 have cu:SlAt (fun r=>r=up 0 nB) A8 (.m (up 0 nB) 0 1 4 1) 4 [[.d .i64 0,ofL [], .g, .g]]:=by
  have:=Ql (st:=A7) (z:=4) (e:=[.d .i64 0,ofL [], .g, .g]) rfl
  rwa [ce,<-bm]at this
 rw[<-bm];clear bm ce;have dq:okC [[V.d .i64 0,ofL [], .g, .g]]:=fun e he=>by rw[Xn.1 he];rfl
 refine QG (S0:=Y) (g7.B ak) (ct.G ak) cu dq (by simp) (by simp) (by have:=T.c;have:=T.a;simp;omega) ?_;intro A9 v9 g9 h9 dr cv;have ds:∀x,rowOf N=some x->x≠P:=M.c.j;have cw:A9.A P= .a t7 [v5,N,q0,q1,q2,q3,q4,q5,q6,q7,q8]:=(cv P (Jb (ak.A am)) fun e=>ds _ e rfl).trans (ak.A am);have s7:=h9.D.B;have s8:=h9.D.A;obtain⟨r9,t9,b1,b2,b3,b4,b5,b6⟩:=Jmp h9 (k:=W.length) (by simp);have dt:A8.A r9= .none:=by
  rw[dr]at b1;injection b1 with b1;exact b1▸J9 ak.D
 have d9:A7.A r9= .none:=ak.I dt;have ad:r9≠P:=fun e=>by rw[e,am]at d9;cases d9
 have e9:∀r,rowOf v9=some r->S'.A r= .none:=fun r e=>by
  rw[b1]at e;injection e with e;refine Xf fun x=> ?_;have a:=dl r (cb r x);by_cases y:r=P
  ·exact ad (e.trans y)
  ·rw[<-cd r y,<-e]at a;exact a d9
 have cx:=nes ad;simp only[XM,simprocAttr,f0,cw,s7,s8,b4,b3,cx];refine⟨⟨by rw[Jt h9.1];simp;omega,by rw[c2,c4];rfl⟩,JaM (JQ (v:= .e r9 (W.length*4)) (w:= .e P 1) (q:=P) ?_ ?_ rfl fun e=>ad (by injection e)) (JQ (v:= .e P 1) (w:= .e r9 (W.length*4)) (q:=r9) ?_ ?_ rfl fun e=>ad (by injection e with e;exact e.symm)), ?_⟩
 ·simp[XZ]
 ·simp[XZ]
 ·simp[XZ]
 ·simp[XZ]
 have du:JF [v5,N,q0,q1,q2,q3,q4,q5,q6,q7,q8] 1 [v9]=[v5,v9,q0,q1,q2,q3,q4,q5,q6,q7,q8]:=rfl;rw[du];obtain⟨Aa,ax⟩:=exE (A9.D r9 t9 fun u=> .a u (JF (W++[[V.d .i64 0,ofL [],V.g,V.g]]).flatten (W.length*4) [V.d .i64 k,ofL n,nv,kv]));rw[<-ax];have ga:Gr Y Aa:=by rw[ax];exact g9.J b2 (Jb b3) (by rw[b3];rfl) (Jd _)
 have ra:∃t,Aa.A r9= .a t (JF (W++[[V.d .i64 0,ofL [],V.g,V.g]]).flatten (W.length*4) [V.d .i64 k,ofL n,nv,kv]):=⟨_,by rw[ax];simp[XM];rfl⟩
 have ka:∀r,r≠r9->Aa.A r=A9.A r:=fun r e=>by rw[ax];simp[J6,e]
 clear ax;have cy:Aa.A P= .a t7 [v5,N,q0,q1,q2,q3,q4,q5,q6,q7,q8]:=(ka P fun e=>ad e.symm).trans cw;obtain⟨Ab,ay⟩:=exE (Aa.D P t7 fun u=> .a u [v5,v9,q0,q1,q2,q3,q4,q5,q6,q7,q8]);have dv:Gr Y Ab:=by rw[ay];exact ga.J M.c.m (Jb cy) (by rw[cy];rfl) (Jd _)
 have rb:∃t,Ab.A P= .a t [v5,v9,q0,q1,q2,q3,q4,q5,q6,q7,q8]:=⟨_,by rw[ay];simp[XZ];rfl⟩
 have kb:∀r,r≠P->Ab.A r=Aa.A r:=fun r e=>by rw[ay];simp[J6,e]
 rw[<-ay];clear ay;have cz:JU v5=some (.d .i64 ((K.a.length+1:Nat):Int), .a):=by rw[dm,X7,l2];rfl
 have c0:IntKind.i64.wrap (((K.a.length+1:Nat):Int)-1)=(K.a.length:Int):=by rw[JV (by omega) (by omega)];omega
 have c5:∀r,r≠P->r≠r9->A7.A r≠ .none->rowOf N≠some r->Ab.A r=A7.A r:=fun r a b c d=>by
  have c8:=(ak.d r c)
  rw[kb r a,ka r b,cv r (by rw[c8];exact c) d,c8]
 obtain⟨dw,rb⟩:=rb;obtain⟨dx,ra⟩:=ra;have c6:=M.F (n:=n) (k:=k) (S':=Ab) (X:= .mk k n ns Z) (E:=[.d .i64 k,ofL n,nv,kv]) dv ⟨dw,rb⟩ l2 l3
  (bl.B fun r e=>c5 r (fun x=>Jb rc (x▸d5 r e)) (fun x=>bl.A e (x▸d9)) (bl.A e) fun x=>u1.A x (d5 r e)) u2 u3
  (by
   have:=b6 Ab dx 0 [.d .i64 k,ofL n,nv,kv] (by simp) (by rw[kb r9 ad];exact ra);rw[List.set_append_right _ _ (Xb _)]at this;simpa[JL]using this) bh d5 e9
  (fun r e x=>by
   rw[b1]at x;injection x with x;exact bl.A e (x▸d9))
  (fun p e a b c=>by rw[c5 p a (fun x=>by
   have:=e9 p (by rw[b1,x]);exact e this) (by rw[bk p e a b];exact e) c,bk p e a b])
 simp only[XZ,simprocAttr,cz,c0];exact⟨v5,v9,_,tr++[.mk k n ns Z],c6.1,T.A bg cp ap cq,c6.2⟩
theorem Jpv (mm:Nat):∀(X:Ty),tsz X<mm->∀{Sb P:St} {ru:Pt} {lv tv:V} {ad:List V} {O:Pt->Prop} {tb:Tb} {N:List Ty} {e:List V} {left:Int},RT Sb P ru lv tv ad O tb.a N->KZ tb.a N->TyC (fun r=>Sb.A r≠ .none) P e X->(addT X left tb).2.2.1≠0->fitT X=true->(QO X:Int)<=left->(∃r0 r1 r2 r3 r4 r5 r6 r7 r8,ad=[r0,r1,r2,r3,r4,r5,r6,r7,r8])->
  Dz 31 [.e ru 0, .j e] P fun v S=>Gr Sb S/\Kz O (fun _=>True) (Bt ru lv tv O) (fun _=>False) P S/\v= .p [.d .i64 0, .d .i64 20]:=by
 induction mm with
 |zero=>intro X h;exact absurd h (XO _)
 |succ mm ih=>
 intro X hX Sb P ru lv tv ad O tb N e left hR hI hx he af bc aw;obtain⟨k,n,ns,Q⟩:=X;rw[Jm9 af bc]at he;obtain⟨cf,cg,bp⟩:=JaO af;rw[QO]at bc;refine Jl (aT Tryz.func31 rfl) rfl ?_;have hw:=hR.g.D;obtain⟨n0,ak⟩:=nxE P;obtain⟨nv,kv,es,rfl,x1,x2,x3,x4⟩:=hx.D;have c1:=x1.A;have c2:=x1.B;have c3:=x2.A;have c4:=x2.B;have len2:=x2.G;rw[x3]at len2;obtain⟨Y,ax⟩:=exE (up 0 n0);simp only[CT,Tryz.f31,XY,simprocAttr];rw[Ja];simp[XY,ak,c2,c4];rw[<-ax];obtain⟨S0,al⟩:=exE (P.B fun t=> .a t [.d .i64 k,ofL n,nv,kv]);have G0:Gr P S0:=by rw[al];exact Gr.G hw (Jd _)
 obtain⟨t3,r3⟩:∃t,S0.A Y= .a t [.d .i64 k,ofL n,nv,kv]:=⟨_,by rw[al,ax];simp[XZ,ak];rfl⟩
 have bq:P.A Y= .none:=by rw[ax];exact nx0 hw ak 0
 rw[<-al];clear al;have w0:=G0.D;obtain⟨n1,ag⟩:=nxE S0;have o3:=fun k=>nes (Jr w0 ag (Jb r3) k);rw[Ja];simp[XY,r3,ag,o3];obtain⟨x0,ay⟩:=exE (up 0 n1);obtain⟨S1,am⟩:=exE (S0.B fun t=>Row.a t []);have G1:Gr S0 S1:=by rw[am];exact Gr.G w0 (Jd _)
 obtain⟨t1,r1⟩:∃t,S1.A x0= .a t []:=⟨_,by rw[am,ay];simp[XZ,ag];rfl⟩
 have bd:S0.A x0= .none:=by rw[ay];exact nx0 w0 ag 0
 rw[<-am,<-ay];clear am;have ae:Y≠x0:=fun e=>by grind
 have br:∀r,S0.A r= .none->P.A r= .none:=fun r e=>G0.I e;have bt:∀r,P.A r= .none->Sb.A r= .none:=fun r e=>hR.g.I e;have be:SlF P S1 (.m x0 0 0 1 0) 1 []:=⟨by simp, .inr ⟨x0,t1,br _ bd,by grind, .inr rfl⟩⟩
 have az:=G0.B G1;refine Qw (S0:=P) az be (x1.H az) (Yp _) (by rw[Jw];omega) (by rw[Jw];grind) fun Sa v1 ga Z au ah=> ?_;simp at Z;have bf:Sa.A Y= .a t3 [.d .i64 k,ofL n,nv,kv]:=(ah Y (Jb (G1.A r3)) fun e=>ae (by injection e with e;grind)).trans (G1.A r3);have bg:=Z.D.B;have bh:=Z.D.A;obtain⟨nA,ao⟩:=nxE Sa;simp[XY,ao,bg,bh];obtain⟨p6,a0⟩:=exE (up 0 nA);obtain⟨S2,ap⟩:=exE ((Sa.B fun t=> .a t [.d .i64 0,ofL [], .g, .g]).D (up 0 nA) Sa.t fun u=> .a u [.d .i64 k,ofL n,v1, .g]);have G2:Gr Sa S2:=by rw[ap];exact(Gr.F ga.D).M ao (Jd _) (Jd _)
 obtain⟨t6,r6⟩:∃t,S2.A p6= .a t [.d .i64 k,ofL n,v1, .g]:=⟨_,by rw[ap,a0];simp[XZ];rfl⟩
 have bu:Sa.A p6= .none:=by rw[a0];exact nx0 ga.D ao 0
 rw[<-ap,<-a0];clear ap;refine⟨JaM (JQ (v:= .m x0 0 0 1 0) (w:= .e Y 0) (q:=Y) ?_ ?_ rfl fun e=>ae (by injection e with e;grind)) (JQ (v:= .m x0 0 0 1 0) (w:= .e Y 1) (q:=Y) ?_ ?_ rfl fun e=>ae (by injection e with e;grind)), ?_⟩
 ·rfl
 ·rfl
 ·rfl
 ·rfl
 have bi:Gr P S2:=ga.B G2;have bv:P.A p6= .none:=ga.I bu;have av:∀r,rowOf v1=some r->Sa.A r≠ .none:=fun r e=>Z.A e;have bw:∀r,rowOf v1=some r->r≠Y/\r≠p6:=fun r e=>⟨fun x=>(by
  subst x;rcases au with h|h
  ·rw[h]at e;injection e with e;grind
  ·rw[h]at e;injection e with e;have:=J9 G1.D;rw[e,G1.A r3]at this;grind),fun x=>av r e (by grind)⟩
 have bx:Y≠p6:=fun x=>by grind
 have ow:∀r,P.A r= .none->S2.A r≠ .none->S2.A r≠ .none/\¬Bt ru lv tv O r:=fun r e a=>⟨a,fun x=>hR.A r x e⟩
 have r32:=G2.A bf;have M0:Mid5 Sb P S2 ru Y p6 lv tv lv tv ad O O tb.a N [.d .i64 k,ofL n,nv,kv] [.d .i64 k,ofL n] v1 .g ns []:=
  { c:=hR.I bi,f:=Kz.J (fun r e=>(hR.o r e).1) bi,s:=⟨_,r32⟩,u:=⟨_,r6⟩,l:=(Z.G G2).J bt,m:=SlF.I _ _ _,B:=fun r e=>e.elim (fun e=> .inr (Z.H e).1) (fun e=>nomatch e),j:=fun r e=>(nomatch e),v:=bw,z:=bx,H:=bq,I:=bv,d:=fun r e=>by
      rcases e with rfl|rfl|e|e
      ·grind
      ·grind
      ·exact ow _ (Z.H e).1 ((Z.G G2).A e)
      ·cases e}
 obtain⟨q0,q1,q2,q3,q4,q5,q6,q7,q8,rfl⟩:=aw;clear au ah be az r1 bd ae o3 ag ak ao bg bh ow r32 av r6 bf t6 t1;have kx:∀{S:St} {aa U a6 O' nd tr},RT Sb S ru aa U a6 O' nd tr->∀{E:List V} {T:Ty},TyC (fun r=>Sb.A r≠ .none) P E T->TyC (fun r=>Sb.A r≠ .none) S E T:=fun{_ _ _ _ _ _ _} R {_ _} h=>TyC.A h fun q p _=>⟨p,by rw[R.g.d q p,hR.g.d q p]⟩
 obtain⟨F,hF⟩:=opE fun W S=>∃(aa U a7:V) (O':Pt->Prop) (tr:List Ty) (y:Tb) (K:List Nat),W 0= .e ru 0/\W 3= .e Y 0/\W 6= .e p6 0/\
   Mid5 Sb P S ru Y p6 lv tv aa U [q0,q1,q2,q3,q4,q5,q6,q7,q8] O O' y.a tr [.d .i64 k,ofL n,nv,kv] [.d .i64 k,ofL n] v1 a7 ns K/\KZ y.a tr/\JT y.a Q=some K/\idx ⟨k,n,ns,K⟩ y.a 0=none/\120<=y.a.length
 refine QE F ?_ ?_
 ·rw[Ja];simp[XY];obtain⟨L,hL⟩:=loE fun j W S=>∃(i:Nat) (aa U a7:V) (O':Pt->Prop) (tr:List Ty) (y:Tb) (li:Int) (K:List Nat),j+i=Q.length/\W 0= .e ru 0/\W 3= .e Y 0/\W 6= .e p6 0/\W 7= .d .i64 i/\
   Mid5 Sb P S ru Y p6 lv tv aa U [q0,q1,q2,q3,q4,q5,q6,q7,q8] O O' y.a tr [.d .i64 k,ofL n,nv,kv] [.d .i64 k,ofL n] v1 a7 ns K/\KZ y.a tr/\
   JdD k n ns (Q.drop i) li y K≠0/\(Qx (Q.drop i):Int)<=li/\JT y.a (Q.take i)=some K/\K.length=i
  refine JC L Q.length (by omega) ((hL _ _ _).2 ⟨0,lv,tv, .g,O,N,tb,left-1,[],by omega,rfl,rfl,rfl,by rfl,M0,hI,he,(by grind),rfl,rfl⟩) ?_;intro j W S a8;obtain⟨i,aa,U,kw,O',tr,y,li,K,hj,f0,f3,f6,f7,M,T,e0,e1,e2,e3⟩:=(hL _ _ _).1 a8;obtain⟨t3,m3⟩:=M.s;obtain⟨t6,m6⟩:=M.u;simp at m6;by_cases hi:i<Q.length
  ·have ab:=wiN (i:=i) (by omega);have bz:LstAt (TyC (fun r=>Sb.A r≠ .none) S) (fun r=>Sb.A r≠ .none) S kv 4 Q:=⟨es,x2.D fun r p _=>⟨p,by rw[M.c.g.d r p,hR.g.d r p]⟩,x3,fun i a b=>kx M.c (x4 i a b)⟩
   obtain⟨q,qo,E,a1,a2,a3,a4,hE,e4,a5⟩:=bz.A hi;rw[Xc hi]at e0 e1;rw[Qx]at e1
   push_cast at e1
   by_cases ai:(addT Q[i] li y).2.2.1=0;rotate_left
   ·have b0:tsz Q[i]<mm:=by have:=YP (k:=k) (n:=n) (ns:=ns) hi;omega
    simp[XZ,f0,f3,f7,m3,len2,hi,a1,a4];refine Jc (ih Q[i] b0 M.c T hE ai (JaP bp i hi) (by omega) ⟨_,_,_,_,_,_,_,_,_,rfl⟩) ?_;rintro _ S3 ⟨g3,k3,rfl⟩;simp[XZ];exact⟨g3,M.f.I k3⟩
   rw[JkJ ai]at e0;obtain⟨_,_,aj,b1⟩:=Yt Q[i] ai;simp[XZ,f0,f3,f7,m3,len2,hi,a1,a4];refine Jc (JmE _ Q[i] (XK _) M.c T hE ai ⟨_,_,_,_,_,_,_,_,_,rfl⟩) ?_;rintro _ S3 ⟨b2,b3,O2,b4,R2,T2,K2,rfl⟩;have M2:=M.A R2 K2;obtain⟨u6,aq⟩:=M2.u;simp at aq;obtain⟨id,hid⟩:∃id,id=(addT Q[i] li y).2.1:=⟨_,rfl⟩
   rw[<-hid]at e0 aj⊢;have w3:=R2.g.D;obtain⟨n3,ae⟩:=nxE S3;simp[XZ,f6,aq,ae];have gn:Gr S3 (S3.B fun t=> .a t [.d .i64 id]):=Gr.G w3 (Jd _);have bj:SlAt (fun r=>r=up 0 n3) (S3.B fun t=> .a t [.d .i64 id]) (.m (up 0 n3) 0 1 1 1) 1 [[.d .i64 id]]:=by
    have:=Ql (st:=S3) (z:=1) (e:=[.d .i64 id]) rfl
    grind
   have M3:=M2.G gn;refine QG (S0:=Sb) M3.c.g M3.m bj (fun e he=>by rw[Xn.1 he];rfl) (by simp) (by simp) (by rw[JS];grind) ?_;intro S4 v4 g4 h4 b5 bk;have r64:S4.A p6= .a u6 [.d .i64 k,ofL n,v1,kw]:=(bk p6 (Jb (gn.A aq)) fun e=>(M3.j _ e).2.1 rfl).trans (gn.A aq);have b6:=h4.D.B;have b7:=h4.D.A;simp[XZ,f6,f7,r64,b6,b7,ab];refine⟨Q.length-(i+1),by omega,(hL _ _ _).2 ⟨i+1,b2,b3,v4,O2,b4,(addT Q[i] li y).1,(addT Q[i] li y).2.2.2,K++[id],by omega,f0,f3,f6,rfl, ?_,T2,e0,by omega, ?_,by simp[e3]⟩⟩
   ·refine M3.D (S1:=S4) (by unfold ints at h4⊢;grind) b5 bk (fun r e=>by simp[J6,e]) ⟨_,by simp[XZ];rfl⟩ (g4.J ?_ (Jb r64) (by rw[r64];rfl) (Jd _))
    grind
   ·rw[ZN,Xg hi];obtain⟨r,hr,_⟩:=Yt Q[i] ai;exact Jfj aj (by rw[hr];exact kV _ e2)
  ·rw[Xm (by omega)]at e0;rw[Xr (by omega)]at e2;obtain⟨h1,h2⟩:=JkK e0;simp[XZ,f3,f7,m3,len2,hi];exact(hF _ _).2 ⟨aa,U,kw,O',tr,y,K,f0,f3,f6,M,T,e2,h1,h2⟩
 clear M0 hI;intro W S ar;obtain⟨aa,U,kw,O',tr,bl,K,f0,f3,f6,M,T,b8,b9,ce⟩:=(hF _ _).1 ar;clear hF ar F he;have bm:Kh bl.a (.mk k n ns Q)=idx ⟨k,n,ns,K⟩ bl.a 0:=by rw[Kh,b8]
 obtain⟨t3,m3⟩:=M.s;obtain⟨tc,rc⟩:=M.c.d;obtain⟨ca,l1,l2,l3⟩:=M.c.l;obtain⟨a9,u1,u2,u3⟩:=M.c.t;have ll:=l1.D.G;have lt:=u1.D.G;have cb:=kx M.c hx;obtain⟨F,hF⟩:=opE fun W S'=>W 0= .e ru 0/\Gr S S';refine QE F ?_ ?_
 ·rw[Ja];simp[XY];obtain⟨L,hL⟩:=loE fun j W S'=>∃(i:Nat),j+i=tr.length/\W 0= .e ru 0/\W 3= .e Y 0/\W 10= .d .i64 i/\Gr S S';have ch:tr.length<1000000:=by
   have:=T.a;have:=T.c;omega
  refine JC L tr.length (by omega) ((hL _ _ _).2 ⟨0,by omega,f0,f3,by rfl,Gr.F M.c.g.D⟩) ?_;clear f0 f3 f6;intro j W S' a8;obtain⟨i,hj,f0,f3,ba,g⟩:=(hL _ _ _).1 a8;have bn:=g.A rc;have cc:=g.A m3;by_cases hi:i<tr.length
  ·have bb:(i:Int)<a9.length:=by omega
   have ab:=wiN (i:=i) (by omega);have cd:LstAt (TyC (fun r=>Sb.A r≠ .none) S') (fun r=>Sb.A r= .none) S' U 4 tr:=⟨a9,(u1.G g).D,u2,fun i a b=>(u3 i a b).H g⟩
   obtain⟨q,qo,E,a1,a2,a3,a4,hE,e4,a5⟩:=cd.A hi;simp[XZ,f0,f3,ba,bn,cc,lt,bb,a1,a4];have ft:=T.d _ (Xh hi);refine Jj (JrY _ tr[i] (.mk k n ns Q) (XK _) ft af (Js g.D _) (hE.I _) ((cb.H g).I _)) ?_;rintro _ S2 g2 ⟨b,rfl,hb⟩
   cases b with
   | true=>
     have e:=hb.1 rfl;rw[T.D hi,bm,b9]at e
     cases e
   | false=>
     simp[XZ,ba,ab];exact⟨tr.length-(i+1),by omega,(hL _ _ _).2 ⟨i+1,by omega,f0,f3,rfl,g.B g2⟩⟩
  ·have bb:¬(i:Int)<a9.length:=by omega
   simp[XZ,f0,ba,bn,lt,bb];exact(hF _ _).2 ⟨f0,g⟩
 clear f0 f3 f6;intro W S' ar;obtain⟨f0,g⟩:=(hF _ _).1 ar;have rc:=g.A rc;have bo:(120:Int)<=ca.length:=by omega
 rw[Je,Ja];simp[XZ,f0,rc,ll,bo];exact⟨M.c.g.B g,(M.G g).f.L⟩
theorem JqW (x:Nat)(f:x<256)(c:St):Dz 110 [.d .u8 x] c fun v a=>v= .h (digB x)/\c=a:=by
 refine Jl (aT Tryz.func110 rfl) rfl ?_;by_cases b:(48:Int)<=(x:Int)
 ·by_cases e:(x:Int)<=57
  ·simp only[CT,Tryz.f110,XZ,simprocAttr,b,e];rw[digB,Xo (by omega),Xo (by omega)];rfl
  ·simp only[CT,Tryz.f110,XZ,simprocAttr,b,e];rw[digB,Xo (by omega),Xq (by omega)];rfl
 ·simp only[CT,Tryz.f110,XZ,simprocAttr,b];rw[digB,Xq (by omega)];rfl
theorem JjV (x:Nat)(j:x<256)(g:St):Dz 109 [.d .u8 x] g fun v f=>v= .h (letB x)/\g=f:=by
 refine Jl (aT Tryz.func109 rfl) rfl ?_;rw[<-JqF j];unfold letR;by_cases b:(97:Int)<=(x:Int)
 ·rw[Xo (show 97<=x by omega)];by_cases i:(x:Int)<=122
  ·rw[Xo (show x<=122 by omega)];simp only[CT,Tryz.f109,XZ,simprocAttr,b,i];rfl
  ·rw[Xq (show¬x<=122 by omega),Xo (show 65<=x by omega),Xq (show¬x<=90 by omega),Xq (show¬x=95 by omega)];have c:(65:Int)<=(x:Int):=by omega
   have e:¬(x:Int)<=90:=by omega
   have a:¬(x:Int)=95:=by omega
   simp only[CT,Tryz.f109,XZ,simprocAttr,b,i,c,e,a];rfl
 ·rw[Xq (show¬97<=x by omega)];by_cases c:(65:Int)<=(x:Int)
  ·rw[Xo (show 65<=x by omega)];by_cases e:(x:Int)<=90
   ·rw[Xo (show x<=90 by omega)];simp only[CT,Tryz.f109,XZ,simprocAttr,b,c,e];rfl
   ·rw[Xq (show¬x<=90 by omega)];by_cases a:(x:Int)=95
    ·rw[Xo (show x=95 by omega)];simp only[CT,Tryz.f109,XZ,simprocAttr,a];rfl
    ·rw[Xq (show¬x=95 by omega)];simp only[CT,Tryz.f109,XZ,simprocAttr,b,c,e,a];rfl
  ·rw[Xq (show¬65<=x by omega),Xq (show¬x=95 by omega)];have a:¬(x:Int)=95:=by omega
   simp only[CT,Tryz.f109,XZ,simprocAttr,b,c,a];rfl
theorem JmF (l:List UInt8)(q:St):Dz 56 [ofL l] q fun v s=>v= .h (Ks l)/\q=s:=by
 refine Jl (aT Tryz.func56 rfl) rfl ?_
 cases l with
 | nil=>
   simp only[CT,Tryz.f56,XZ,simprocAttr,GV];rfl
 | cons c r=>
   obtain⟨l,f⟩:∃l,l=c::r:=⟨_,rfl⟩
   have hid:=JqG c r;rw[<-f]at hid⊢;have g:¬(l.length:Int)=0:=by grind
   have p:Jex l 0=c.toNat:=by rw[f];rfl
   have y:(0:Int)<(l.length:Int):=by omega
   by_cases z:16<l.length
   ·have a:(16:Int)<(l.length:Int):=by omega
    simp only[CT,Tryz.f56,XZ,simprocAttr,g,a]
    grind
   have a:¬(16:Int)<(l.length:Int):=by omega
   rw[Xo (by omega)]at hid;have hid:Ks l=(letB c.toNat&&Yq l):=hid;simp only[CT,Tryz.f56,XY,simprocAttr];rw[Ja];simp[XY];rw[Je,Ja];simp only[XY,simprocAttr,g,a,y,p];refine Jc (JjV c.toNat (ZI _) _) ?_;rintro _ _ ⟨rfl,rfl⟩
   cases w:letB c.toNat with
   | false=>
     rw[w]at hid;simp[XZ]
     grind
   | true=>
     rw[w]at hid;have hid:Ks l=Yq l:=hid;simp[XY];rw[Je,Ja];simp[XY];refine Jy (fun j t S=>∃(i:Nat),j+i=l.length/\t 0=ofL l/\t 3= .d .i64 i/\q=S/\Yq l=Yq (l.drop i)) l.length (by omega) ⟨0,by omega,rfl,by rfl,rfl,rfl⟩ ?_;rintro I x j t S ⟨i,M,k,m,rfl,e⟩;by_cases n:i<l.length
     ·have o:(0:Int)<=(i:Int):=by omega
      have p:=Jbr (l:=l) (i:=i) n;have b:=wiN (i:=i) (by omega);have N:Yq l=(okB l[i].toNat&&Yq (l.drop (i+1))):=by rw[e,Xc n];rfl
      simp[XZ,k,m,n,o,p];refine Jc (JjV l[i].toNat (ZI _) _) ?_;rintro _ _ ⟨rfl,rfl⟩
      cases K:letB l[i].toNat with
      | true=>
        have u:okB l[i].toNat=true:=by unfold okB;grind
        simp[XZ,m,b];exact⟨l.length-(i+1),by omega,x _ _ _ ⟨i+1,by omega,k,rfl,rfl,by grind⟩⟩
      | false=>
        simp[XZ,k,m,n,o,p];refine Jc (JqW l[i].toNat (ZI _) _) ?_;rintro _ _ ⟨rfl,rfl⟩;have u:okB l[i].toNat=digB l[i].toNat:=by unfold okB;grind
        cases L:digB l[i].toNat with
        | true=>
          simp[XZ,m,b];exact⟨l.length-(i+1),by omega,x _ _ _ ⟨i+1,by omega,k,rfl,rfl,by grind⟩⟩
        | false=>
          simp[XZ]
          grind
     ·simp[XZ,k,m,n];rw[hid,e,Xm (by omega)];rfl
theorem JsT (l:List UInt8)(r:St):Dz 57 [ofL l] r fun v i=>v= .h (Jfc.contains l)/\r=i:=by
 refine Jl (aT Tryz.func57 rfl) rfl ?_;by_cases j:l=[66,111,111,108]
 ·have a:(l=[66,111,111,108])=True:=XL j;simp only[CT,Tryz.f57,XZ,simprocAttr,a];rw[j];rfl
 have a:(l=[66,111,111,108])=False:=XF j;by_cases k:l=[73,110,116]
 ·have b:(l=[73,110,116])=True:=XL k;simp only[CT,Tryz.f57,XZ,simprocAttr,a,b];rw[k];rfl
 have b:(l=[73,110,116])=False:=XF k;by_cases m:l=[84,101,120,116]
 ·have c:(l=[84,101,120,116])=True:=XL m;simp only[CT,Tryz.f57,XZ,simprocAttr,a,b,c];rw[m];rfl
 have c:(l=[84,101,120,116])=False:=XF m;by_cases n:l=[76,105,115,116]
 ·have d:(l=[76,105,115,116])=True:=XL n;simp only[CT,Tryz.f57,XZ,simprocAttr,a,b,c,d];rw[n];rfl
 have d:(l=[76,105,115,116])=False:=XF n;by_cases o:l=[77,97,112]
 ·have e:(l=[77,97,112])=True:=XL o;simp only[CT,Tryz.f57,XZ,simprocAttr,a,b,c,d,e];rw[o];rfl
 have e:(l=[77,97,112])=False:=XF o;by_cases p:l=[79,112,116]
 ·have f:(l=[79,112,116])=True:=XL p;simp only[CT,Tryz.f57,XZ,simprocAttr,a,b,c,d,e,f];rw[p];rfl
 have f:(l=[79,112,116])=False:=XF p;by_cases q:l=[85,110,105,111,110]
 ·have g:(l=[85,110,105,111,110])=True:=XL q;simp only[CT,Tryz.f57,XZ,simprocAttr,a,b,c,d,e,f,g];rw[q];rfl
 have g:(l=[85,110,105,111,110])=False:=XF q;simp only[CT,Tryz.f57,XZ,simprocAttr,a,b,c,d,e,f,g];have:Jfc.contains l=false:=by
  cases s:Jfc.contains l with
  |false=>rfl
  | true=>
    have:=ZW.1 s;simp[Jfc,a,b,c,d,e,f,g]at this
 rw[this]
theorem Jnf (l:List UInt8)(st:St):Dz 59 [ofL l] st fun v Z=>v= .h (jl.contains l)/\st=Z:=by
 refine Jl (aT Tryz.func59 rfl) rfl ?_;by_cases n0:l=[108,101,110]
 ·have e:(l=[108,101,110])=True:=XL n0;simp only[CT,Tryz.f59,XZ,simprocAttr,e];rw[n0];rfl
 have e:(l=[108,101,110])=False:=XF n0;by_cases n1:l=[110,111,116]
 ·have f:(l=[110,111,116])=True:=XL n1;simp only[CT,Tryz.f59,XZ,simprocAttr,e,f];rw[n1];rfl
 have f:(l=[110,111,116])=False:=XF n1;by_cases n2:l=[97,110,100]
 ·have i:(l=[97,110,100])=True:=XL n2;simp only[CT,Tryz.f59,XZ,simprocAttr,e,f,i];rw[n2];rfl
 have i:(l=[97,110,100])=False:=XF n2;by_cases n3:l=[111,114]
 ·have j:(l=[111,114])=True:=XL n3;simp only[CT,Tryz.f59,XZ,simprocAttr,e,f,i,j];rw[n3];rfl
 have j:(l=[111,114])=False:=XF n3;by_cases n4:l=[101,113]
 ·have m:(l=[101,113])=True:=XL n4;simp only[CT,Tryz.f59,XZ,simprocAttr,e,f,i,j,m];rw[n4];rfl
 have m:(l=[101,113])=False:=XF n4;by_cases n5:l=[108,116]
 ·have n:(l=[108,116])=True:=XL n5;simp only[CT,Tryz.f59,XZ,simprocAttr,e,f,i,j,m,n];rw[n5];rfl
 have n:(l=[108,116])=False:=XF n5;by_cases n6:l=[97,100,100]
 ·have p:(l=[97,100,100])=True:=XL n6;simp only[CT,Tryz.f59,XZ,simprocAttr,e,f,i,j,m,n,p];rw[n6];rfl
 have p:(l=[97,100,100])=False:=XF n6;by_cases n7:l=[115,117,98]
 ·have q:(l=[115,117,98])=True:=XL n7;simp only[CT,Tryz.f59,XZ,simprocAttr,e,f,i,j,m,n,p,q];rw[n7];rfl
 have q:(l=[115,117,98])=False:=XF n7;by_cases n8:l=[109,117,108]
 ·have s:(l=[109,117,108])=True:=XL n8;simp only[CT,Tryz.f59,XZ,simprocAttr,e,f,i,j,m,n,p,q,s];rw[n8];rfl
 have s:(l=[109,117,108])=False:=XF n8;by_cases n9:l=[115,104,108]
 ·have t:(l=[115,104,108])=True:=XL n9;simp only[CT,Tryz.f59,XZ,simprocAttr,e,f,i,j,m,n,p,q,s,t];rw[n9];rfl
 have t:(l=[115,104,108])=False:=XF n9;by_cases K:l=[115,104,114]
 ·have a:(l=[115,104,114])=True:=XL K;simp only[CT,Tryz.f59,XZ,simprocAttr,e,f,i,j,m,n,p,q,s,t,a];rw[K];rfl
 have a:(l=[115,104,114])=False:=XF K;by_cases L:l=[105,56]
 ·have b:(l=[105,56])=True:=XL L;simp only[CT,Tryz.f59,XZ,simprocAttr,e,f,i,j,m,n,p,q,s,t,a,b];rw[L];rfl
 have b:(l=[105,56])=False:=XF L;by_cases M:l=[105,49,54]
 ·have c:(l=[105,49,54])=True:=XL M;simp only[CT,Tryz.f59,XZ,simprocAttr,e,f,i,j,m,n,p,q,s,t,a,b,c];rw[M];rfl
 have c:(l=[105,49,54])=False:=XF M;by_cases N:l=[105,51,50]
 ·have d:(l=[105,51,50])=True:=XL N;simp only[CT,Tryz.f59,XZ,simprocAttr,e,f,i,j,m,n,p,q,s,t,a,b,c,d];rw[N];rfl
 have d:(l=[105,51,50])=False:=XF N;by_cases O:l=[117,56]
 ·have g:(l=[117,56])=True:=XL O;simp only[CT,Tryz.f59,XZ,simprocAttr,e,f,i,j,m,n,p,q,s,t,a,b,c,d,g];rw[O];rfl
 have g:(l=[117,56])=False:=XF O;by_cases P:l=[117,49,54]
 ·have k:(l=[117,49,54])=True:=XL P;simp only[CT,Tryz.f59,XZ,simprocAttr,e,f,i,j,m,n,p,q,s,t,a,b,c,d,g,k];rw[P];rfl
 have k:(l=[117,49,54])=False:=XF P;by_cases Q:l=[117,51,50]
 ·have o:(l=[117,51,50])=True:=XL Q;simp only[CT,Tryz.f59,XZ,simprocAttr,e,f,i,j,m,n,p,q,s,t,a,b,c,d,g,k,o];rw[Q];rfl
 have o:(l=[117,51,50])=False:=XF Q;by_cases S:l=[99,97,116]
 ·have r:(l=[99,97,116])=True:=XL S;simp only[CT,Tryz.f59,XZ,simprocAttr,e,f,i,j,m,n,p,q,s,t,a,b,c,d,g,k,o,r];rw[S];rfl
 have r:(l=[99,97,116])=False:=XF S;by_cases T:l=[116,101,120,116]
 ·have u:(l=[116,101,120,116])=True:=XL T;simp only[CT,Tryz.f59,XZ,simprocAttr,e,f,i,j,m,n,p,q,s,t,a,b,c,d,g,k,o,r,u];rw[T];rfl
 have u:(l=[116,101,120,116])=False:=XF T;by_cases U:l=[97,116]
 ·have w:(l=[97,116])=True:=XL U;simp only[CT,Tryz.f59,XZ,simprocAttr,e,f,i,j,m,n,p,q,s,t,a,b,c,d,g,k,o,r,u,w];rw[U];rfl
 have w:(l=[97,116])=False:=XF U;by_cases W:l=[103,101,116]
 ·have x:(l=[103,101,116])=True:=XL W;simp only[CT,Tryz.f59,XZ,simprocAttr,e,f,i,j,m,n,p,q,s,t,a,b,c,d,g,k,o,r,u,w,x];rw[W];rfl
 have x:(l=[103,101,116])=False:=XF W;by_cases X:l=[104,97,115]
 ·have y:(l=[104,97,115])=True:=XL X;simp only[CT,Tryz.f59,XZ,simprocAttr,e,f,i,j,m,n,p,q,s,t,a,b,c,d,g,k,o,r,u,w,x,y];rw[X];rfl
 have y:(l=[104,97,115])=False:=XF X;by_cases Y:l=[111,114,101,108,115,101]
 ·have z:(l=[111,114,101,108,115,101])=True:=XL Y;simp only[CT,Tryz.f59,XZ,simprocAttr,e,f,i,j,m,n,p,q,s,t,a,b,c,d,g,k,o,r,u,w,x,y,z];rw[Y];rfl
 have z:(l=[111,114,101,108,115,101])=False:=XF Y;simp only[CT,Tryz.f59,XZ,simprocAttr,e,f,i,j,m,n,p,q,s,t,a,b,c,d,g,k,o,r,u,w,x,y,z];have:jl.contains l=false:=by
  cases hc:jl.contains l with
  |false=>rfl
  | true=>
    have:=ZW.1 hc;simp[jl,e,f,i,j,m,n,p,q,s,t,a,b,c,d,g,k,o,r,u,w,x,y,z]at this
 rw[this]
theorem Jpw (x:Nat)(f:x<256)(c:St):Dz 154 [.d .u8 x] c fun v a=>v= .h (digB x)/\c=a:=by
 refine Jl (aT Tryz.func154 rfl) rfl ?_;by_cases b:(48:Int)<=(x:Int)
 ·by_cases e:(x:Int)<=57
  ·simp only[CT,Tryz.f154,XZ,simprocAttr,b,e];rw[digB,Xo (by omega),Xo (by omega)];rfl
  ·simp only[CT,Tryz.f154,XZ,simprocAttr,b,e];rw[digB,Xo (by omega),Xq (by omega)];rfl
 ·simp only[CT,Tryz.f154,XZ,simprocAttr,b];rw[digB,Xq (by omega)];rfl
theorem JqX (x:Nat)(j:x<256)(g:St):Dz 182 [.d .u8 x] g fun v c=>v= .h (letB x)/\g=c:=by
 refine Jl (aT Tryz.func182 rfl) rfl ?_;by_cases b:x=95
 ·have a:((x:Int)=95)=True:=XL (by omega);simp only[CT,Tryz.f182,XZ,simprocAttr,a];rw[letB,Xo b];rfl
 ·have a:¬(x:Int)=95:=by omega
  have e:=JtB x j;by_cases f:(97:Int)<=((x|||32:Nat):Int)
  ·by_cases i:((x|||32:Nat):Int)<=122
   ·simp only[CT,Tryz.f182,XZ,simprocAttr,a,e,f,i];rw[letB,Xq b,Xo (by omega),Xo (by omega)];rfl
   ·simp only[CT,Tryz.f182,XZ,simprocAttr,a,e,f,i];rw[letB,Xq b,Xo (by omega),Xq (by omega)];rfl
  ·simp only[CT,Tryz.f182,XZ,simprocAttr,a,e,f];rw[letB,Xq b,Xq (by omega)];rfl
theorem Juh (x:Nat)(b:x<256)(c:St):Dz 181 [.d .u8 x] c fun v a=>v= .h (okB x)/\c=a:=by
 refine Jl (aT Tryz.func181 rfl) rfl ?_;simp only[CT,Tryz.f181,XZ,simprocAttr];refine Jc (JqX x b _) ?_;rintro _ _ ⟨rfl,rfl⟩
 cases h:letB x with
 | true=>
   simp[XZ];rw[okB,h];rfl
 | false=>
   simp[XZ];refine Jc (Jpw x b _) ?_;rintro _ _ ⟨rfl,rfl⟩;simp[XZ];rw[okB,h];rfl
theorem JsU (l:List UInt8)(a:St)(w:WF a)(T:l.length<=100000):
  Dz 180 [ofL l, .D 181 [] []] a fun v f=>Gr a f/\v= .d .i64 (fore l):=by
 refine Jl (aT Tryz.func180 rfl) rfl ?_;simp only[CT,Tryz.f180,XM,simprocAttr,Jsv,Jn5];refine JC (fun k m f=>∃(p t:Nat),k+p=l.length/\(∀j (M:j<l.length),j<p->okB l[j].toNat=true)/\m 0=ofL l/\m 1= .D 181 [] []/\m 7= .e a.b 0/\f.A a.b= .e t l.length (snum l) p/\Gr a f) l.length (by omega) ?_ ?_
 ·refine⟨0,a.t,by omega,fun j _ h=>absurd h (by omega), ?_, ?_, ?_, ?_,Gr.G w fun u=>⟨rfl,fun e=>by cases e⟩⟩
  all_goals simp[XM]
  all_goals rfl
 ·rintro k m i ⟨p,t,U,n,o,x,q,r,y⟩;by_cases g:p<l.length
  ·have N:=Jku g;have z:∀K:Nat,Gr a (i.D a.b t fun u=>Row.e u l.length (snum l) K):=fun K=>
    y.J (J9 w) (by grind) (by rw[r];rfl) fun u=>⟨rfl,fun e=>by cases e⟩
   have O:=Jbr g;have s:(0:Int)<=(p:Int)/\(p:Int)<(l.length:Int):=by omega
   simp only[XM,simprocAttr,o,x,q,JlB,Jkv r g,s,O];refine Jc (Juh _ (ZI _) _) ?_;rintro _ _ ⟨rfl,rfl⟩
   cases L:okB l[p].toNat with
   | true=>
     have P:=JkB g (Jm5 (ZI _) L);simp only[XM,simprocAttr,o,x,q];refine⟨k-1,by omega,p+1,i.t,by omega, ?_, ?_,z _⟩
     ·grind
     grind
   | false=>
     simp[XM];refine⟨z _, ?_⟩;rw[Ji8 l p (by omega) n g L]
  ·have Q:p=l.length:=by omega
   simp[XM,o,q,JlB,Jkw r g];refine⟨y, ?_⟩;rw[(JcN l).2 (by rw[Yq,Ze];intro c S;obtain⟨j,M,rfl⟩:=X1 S;grind)]
theorem rowC (l:List UInt8)(a:St)(c:WF a)(e:l.length<=100000):Dz 155 [ofL l] a fun v b=>Gr a b/\v= .d .i64 (fore l):=by
 refine Jl (aT Tryz.func155 rfl) rfl ?_;simp only[CT,Tryz.f155,XZ,simprocAttr];refine Jc (JsU l _ c e) ?_;rintro _ f ⟨g,rfl⟩;simp[XZ];exact g
theorem JkY (l:List UInt8)(f:St)(e:WF f):Dz 114 [ofL l] f fun v g=>Gr f g/\v= .h (Ks l):=by
 refine Jl (aT Tryz.func114 rfl) rfl ?_
 cases l with
 | nil=>
   simp only[CT,Tryz.f114,XZ,simprocAttr];exact⟨Gr.F e,rfl⟩
 | cons c r=>
   obtain⟨l,a⟩:∃l,l=c::r:=⟨_,rfl⟩
   rw[<-a];have b:¬l=[]:=by grind
   have j:Jex l 0=c.toNat:=by rw[a];rfl
   have k:(0:Int)<=0/\(0:Int)<(l.length:Int):=by grind
   have hid:Ks l=(decide (l.length<=16)&&(!digB c.toNat&&Yq l)):=by rw[a];rfl
   by_cases d:(l.length:Int)<=16
   ·simp only[CT,Tryz.f114,XZ,simprocAttr,b,d,k,j];refine Jc (Jpw c.toNat (ZI _) _) ?_;rintro _ _ ⟨rfl,rfl⟩
    cases m:digB c.toNat with
    | true=>
      simp[XZ];refine⟨Gr.F e, ?_⟩
      grind
    | false=>
      simp[XZ];refine Jc (rowC l _ e (by omega)) ?_;rintro _ n ⟨o,rfl⟩;simp[XZ];refine⟨o, ?_⟩;rw[hid,m,Xo (show l.length<=16 by omega)];by_cases i:fore l=l.length
      ·rw[(JcN l).1 i];simp[i]
      ·have:Yq l=false:=by
        cases p:Yq l with
        |false=>rfl
        |true=>exact absurd ((JcN l).2 p) i
       grind
   ·simp only[CT,Tryz.f114,XZ,simprocAttr,b,d];refine⟨Gr.F e, ?_⟩
    grind
theorem Jcw (l:List UInt8)(b:St)(e:WF b):
  Dz 118 [ofL l] b fun v a=>Gr b a/\v= .h (Ks l&&Lib.contains Yr (32::(l++[32]))):=by
 refine Jl (aT Tryz.func118 rfl) rfl ?_;simp only[CT,Tryz.f118,XZ,simprocAttr];refine Jc (JkY l _ e) ?_;rintro _ c ⟨d,rfl⟩
 cases f:Ks l with
 | false=>
   simp[XZ];exact d
 | true=>
   have g:=JeW f;simp[XZ];refine⟨by omega,by omega, ?_⟩;refine Jc (JcL (Q:=fun v a=>v= .h (Lib.contains Yr (32::(l++[32])))/\c=a) (aH (k:=115) rfl) (Jdt Yr (32::(l++[32])) (by decide)) ⟨rfl,rfl⟩) ?_;rintro _ _ ⟨rfl,rfl⟩;simp[XZ];exact d
theorem JtE {t:Ty}(o:WF v)(h:TyC P v s t):Dz 116 [.j s] v fun b l=>Gr v l/\b= .d .i64 (KX t:Nat):=by
 refine Jn tabM (aT Tryz.func116 rfl) rfl o fun K m=> ?_;obtain⟨n,c⟩:=nxE v;have i:=fun r (h:v.A r≠ .none)=>jM o c h;obtain⟨k,p,q,M⟩:=t;obtain⟨N,O,Q,rfl,f,g,S,T⟩:=h.D;have l1:=f.G;rw[Jw]at l1;have U:KX (.mk k p q M)=if k=4\/k=5\/k=6 then 1 else if k=7\/k=8 then q.length else 0:=rfl;have u:=fun b=>m b (v.B fun t=> .a t [.d .i64 k,ofL p,N,O]) (fun r s=>by simp[KW,c,i r s]);by_cases w:k=4
 ·simp only[CT,Tryz.f116,XZ,simprocAttr,c,f.B,g.B,w]
  grind
 by_cases x:k=5
 ·simp only[CT,Tryz.f116,XZ,simprocAttr,c,f.B,g.B,x]
  grind
 by_cases y:k=6
 ·simp only[CT,Tryz.f116,XZ,simprocAttr,c,f.B,g.B,y]
  grind
 by_cases z:k=7
 ·simp only[CT,Tryz.f116,XZ,simprocAttr,c,f.B,g.B,l1,z]
  grind
 by_cases L:k=8
 ·simp only[CT,Tryz.f116,XZ,simprocAttr,c,f.B,g.B,l1,L]
  grind
 simp only[CT,Tryz.f116,XZ,simprocAttr,c,f.B,g.B,w,x,y,z,L]
 grind
theorem JdK {p:Option Str}{n:Str}(a:Ks n=true)(b:Ky p n=false):Km p (n::e)=Km (some n) e:=by
 rw[Km,Xa (by grind),Xa (by grind)]
theorem JqY {t:Ty}(hw:WF v)(h:TyC P v s t):Dz 117 [.j s] v fun b ab=>Gr v ab/\b= .d .i64 (KH t):=by
 refine Jn tabM (aT Tryz.func117 rfl) rfl hw fun K g=> ?_;obtain⟨n,u⟩:=nxE v;have Y:=fun r (h:v.A r≠ .none)=>jM hw u h;obtain⟨k,Z,c,ks⟩:=t;obtain⟨U,kv,es,rfl,x1,x2,x3,x4⟩:=h.D;have l1:=x1.G;rw[Jw]at l1;have g0:Gr v (v.B fun t=> .a t [.d .i64 k,ofL Z,U,kv]):=Gr.G hw (Jd _);have hk:KH (.mk k Z c ks)=if 8<c.length then 3 else if Km none c≠0 then Km none c else if k=8/\c=[]then 12 else 0:=rfl;have aj:=fun b=>g b (v.B fun t=> .a t [.d .i64 k,ofL Z,U,kv]) (fun r s=>by simp[KW,u,Y r s]);by_cases c1:8<c.length
 ·have z:(8:Int)<c.length:=by omega
  simp only[CT,Tryz.f117,XZ,simprocAttr,u,x1.B,x2.B,l1,z]
  grind
 have z:¬(8:Int)<c.length:=by omega
 simp only[CT,Tryz.f117,XZ,simprocAttr,u,x1.B,x2.B,l1,z];obtain⟨I,hI⟩:=loE fun j fr S=>∃i p,j+i=c.length/\fr 1= .e (up 0 n) 0/\fr 10=U/\fr 11= .d .i64 c.length/\fr 12= .d .i64 i/\Gr (v.B fun t=> .a t [.d .i64 k,ofL Z,U,kv]) S/\Km none c=Km p (c.drop i)/\(p=if i=0 then none else c[i-1]?);refine JC I c.length (by omega) ?_ ?_
 ·refine(hI _ _ _).2 ⟨0,none,by omega, ?_, ?_, ?_, ?_,Gr.F g0.D,rfl,rfl⟩
  all_goals rfl
  all_goals rfl
 ·rintro j fr S ad;obtain⟨i,p,hj,L,N,l,m,W,f,hp⟩:=(hI _ _ _).1 ad;have b0:S.A (up 0 n)= .a v.t [.d .i64 k,ofL Z,U,kv]:=W.A (by simp[XZ,u]);have ae:=x1.H (g0.B W);by_cases hi:i<c.length
  ·obtain⟨q,qo,a1,a2,a3,a4⟩:=ae.M (xs:=c.map ofL) (i:=i) (by grind);simp at a4;simp[XZ,N,l,m,hi,a1,a4];have G:=g0.B W;have hd:=Xc hi;refine Jc (JkY _ _ W.D) ?_;rintro _ S2 ⟨g2,rfl⟩;have G2:=G.B g2;have b2:=g2.A b0
   cases hid:Ks c[i]with
   | false=>
     simp[XZ];refine g _ _ (fun r s=>G2.d r s) fun _=> ?_;rw[hk,Xa c1,f,hd,Km,Xd hid];rfl
   | true=>
     have w:=wiN (i:=i) (by omega);have next:∀{o:Fr},Ky p c[i]=false->o 1= .e (up 0 n) 0->o 10=U->o 11= .d .i64 c.length->o 12= .d .i64 ((i+1:Nat):Int)->∃j',j'<j/\I j' o S2:=fun{o} X e1 af ag ah=>
      ⟨c.length-(i+1),by omega,(hI _ _ _).2 ⟨i+1,some c[i],by omega,e1,af,ag,ah,W.B g2,by rw[f,hd,JdK hid X],by simp⟩⟩
     by_cases h0:i=0
     ·have x:¬(0:Int)<(i:Int):=by omega
      simp only[XZ,simprocAttr,m,x,w];refine next (by rw[hp,Xd h0];rfl) ?_ ?_ ?_ ?_<;>simp only[XZ,simprocAttr,L,N,l]
     ·have x:(0:Int)<(i:Int):=by omega
      have y:IntKind.i64.wrap ((i:Int)-1)=((i-1:Nat):Int):=by rw[JV (by omega) (by omega)];omega
      obtain⟨q',ak,d1,d2,d3,d4⟩:=(x1.H G2).M (xs:=c.map ofL) (i:=i-1) (by grind);simp at d4;have aa:p=some c[i-1]:=by grind
      cases X:Op.bytesLess c[i-1] c[i]with
      | false=>
        simp only[XZ,simprocAttr,L,x,b2,y,d1,d4,X];refine g _ _ (fun r s=>G2.d r s) fun _=> ?_;have hv:Km none c=6:=by rw[f,hd,Km,Xa (by grind),Xd (by rw[aa,Ky,X];rfl)]
        grind
      | true=>
        simp only[XZ,simprocAttr,L,m,x,b2,y,d1,d4,X,w];refine next (by rw[aa,Ky,X];rfl) ?_ ?_ ?_ ?_<;>simp only[XZ,simprocAttr,L,N,l]
  ·have O:¬(i:Int)<c.length:=by omega
   have ai:i=c.length:=by omega
   have hn:Km none c=0:=by rw[f,ai,Z3,Km]
   have G:=g0.B W;by_cases c8:k=8
   ·by_cases cn:c.length=0
    ·have Q:((c.length:Int)=0)=True:=XL (by omega);have T:(k=8)=True:=XL c8;simp only[XZ,simprocAttr,L,l,m,O,b0,l1,T,Q];refine g _ _ (fun r s=>G.d r s) fun _=> ?_
     grind
    ·have Q:((c.length:Int)=0)=False:=XF (by omega);have T:(k=8)=True:=XL c8;simp only[XZ,simprocAttr,L,l,m,O,b0,l1,T,Q];refine g _ _ (fun r s=>G.d r s) fun _=> ?_
     grind
   ·simp[XZ,L,l,m,O,b0,c8];refine g _ _ (fun r s=>G.d r s) fun _=> ?_
    grind
theorem JrZ {e:List V}{s:Sch}(n:Str)(Z:WF v)(h:SchC P v e s)(hl:s.a.length<=1000):
  Dz 152 [.j e,ofL n] v fun f S=>Gr v S/\∃E,f= .p [.j E, .h (hasN s.a n)]/\TyC P v E ((defN s.a n).getD QF):=by
 refine Jn tabM (aT Tryz.func152 rfl) rfl Z fun K w=> ?_;obtain⟨x,m⟩:=nxE v;obtain⟨c,tv,sv,rfl,h1,W,h3⟩:=h;obtain⟨l,aa⟩:∃l,l=s.a:=⟨_,rfl⟩
 rw[<-aa]at W hl w;obtain⟨nv,kv,es,rfl,x1,x2,x3,x4⟩:=h1.B;have l1:=W.H;have aj:=x1.A;have ab:=x1.B;have ak:=x2.A;have ad:=x2.B;have ae:=W.G;have af:=h3.G;obtain⟨I,hI⟩:=opE fun k S=>(Gr v S/\k 1=ofL n/\k 2= .e (up 0 x) 0/\k 4= .e (up 1 x) 0/\(∃u,S.A (up 0 x)= .a u [.d .i64 s.b.A,ofL s.b.B,nv,kv,tv,sv])/\(∃u,S.A (up 1 x)= .a u [.d .i64 0,ofL [], .g, .g]))
 simp only[CT,Tryz.f152,XY,simprocAttr];refine YQ I ?_ ?_
 ·simp[XZ,m,ab,ad,ae.1,af.1];exact(hI _ _).2 ⟨(Gr.G Z (Jd _)).L (Jd _),rfl,rfl,rfl,⟨_,by simp[XZ,m];rfl⟩,⟨_,by simp[XZ,m];rfl⟩⟩
 intro k S ag;obtain⟨g0,M,y,N,⟨t0,r0⟩,⟨t1,r1⟩⟩:=(hI _ _).1 ag;rw[Je,Ja];simp[XY];have ah:∀r,v.A r≠ .none->S.A r=v.A r:=fun r e=>g0.d r e;obtain⟨L,hL⟩:=loE fun j k S'=>∃(i:Nat),j+i=l.length/\k 1=ofL n/\k 2= .e (up 0 x) 0/\k 4= .e (up 1 x) 0/\k 6= .d .i64 i/\S=S'/\defN l n=defN (l.drop i) n;refine JC L l.length (by omega) ((hL _ _ _).2 ⟨0,by omega,M,y,N,by rfl,rfl,rfl⟩) ?_;clear M y N;intro j k S' ai;obtain⟨i,hj,M,y,N,f6,rfl,o⟩:=(hL _ _ _).1 ai;have O:∀E:List V,Gr v (S.D (up 1 x) t1 fun u=> .a u E):=fun E=>g0.J (nx0 Z m 1) (Jb r1) (by rw[r1];rfl) (Jd _);by_cases Q:i<l.length
 ·obtain⟨r,q,T,U,a1,a3,a4,al,d1,d2,d3,d4⟩:=Jdw W ah Q;have X:=JdZ a4 (j:=0) (by decide) rfl;have X:ld1 (S.A r) q=some (ofL l[i].1, .a):=X;have a6:=Jcg (a:=1) (b:=4) a4;have a6:ldn (S.A r) (q+1) 4=some (.j [.d .i64 l[i].2.A,ofL l[i].2.B,T,U], .a):=a6;have z:=wiN (i:=i) (by omega);have hd:defN (l.drop i) n=if l[i].1=n then some l[i].2 else defN (l.drop (i+1)) n:=by
   rw[Xc Q];unfold defN
   grind
  by_cases Y:l[i].1=n
  ·rw[Xd Y]at hd;simp[XZ,M,y,N,f6,r0,l1,Q,a1,X,a6,Y,d2,d4,r1];refine w _ _ (fun r e=>(O _).d r e) fun _=>⟨[.d .i64 l[i].2.A,ofL l[i].2.B,T,U], ?_, ?_⟩
   ·rw[JeX,o,hd];rfl
   grind
  ·rw[Xa Y]at hd;simp[XZ,M,y,f6,r0,l1,Q,a1,X,Y,z];exact⟨l.length-(i+1),by omega,(hL _ _ _).2 ⟨i+1,by omega,M,y,N,rfl,rfl,by grind⟩⟩
 ·have t:defN l n=none:=by rw[o,Xm (by omega)];rfl
  simp[XZ,y,N,f6,r0,r1,l1,Q];refine w _ _ (fun r e=>(O _).d r e) fun _=>⟨[.d .i64 0,ofL [], .g, .g], ?_, ?_⟩
  ·rw[JeX,t];rfl
  ·rw[t];exact JoJ P _
theorem rinC {a:V}(n:Str)(x:WF v)(h:SlAt P v a 1 (strs e))(y:e.length<=1000):
  Dz 153 [a,ofL n] v fun u S=>u= .h (e.contains n)/\v=S:=by
 refine Jl (aT Tryz.func153 rfl) rfl ?_;have l1:=h.G;rw[Jw]at l1;simp only[CT,Tryz.f153,XY,simprocAttr];rw[Ja];simp only[XY,simprocAttr];rw[Je,Ja];simp only[XY,simprocAttr];refine Jy (fun j g r=>∃(i:Nat),j+i=e.length/\g 0=a/\g 1=ofL n/\g 5= .d .i64 i/\v=r/\e.contains n=(e.drop i).contains n) e.length (by omega) ⟨0,by omega,rfl,rfl,by rfl,rfl,rfl⟩ ?_;rintro L hL j g r ⟨i,z,k,l,m,rfl,b⟩;by_cases w:i<e.length
 ·have c:(i:Int)<e.length:=by omega
  obtain⟨q,K,s,N,O,o⟩:=h.M (xs:=e.map ofL) (i:=i) (by grind);simp at o;have f:=wiN (i:=i) (by omega);rw[Xc w,List.contains_cons]at b;by_cases t:e[i]=n
  ·simp only[XZ,simprocAttr,k,l,m,l1,c,s,o,t]
   grind
  ·have p:(n==e[i])=false:=by grind
   rw[p,ZF]at b;simp[XZ,k,l,m,l1,c,s,o,t,f];exact⟨e.length-(i+1),by omega,hL _ _ _ ⟨i+1,by omega,k,l,rfl,rfl,b⟩⟩
 ·have c:¬(i:Int)<e.length:=by omega
  simp only[XZ,simprocAttr,k,m,l1,c];rw[b,Xm (by omega)];rfl
theorem JtF {e1 e2:List V}{s:Sch}{t:Ty}(hw:WF v)(h:SchC P v e1 s)(ht:TyC P v e2 t)(hl:s.a.length<=1000):
  Dz 111 [.j e1, .j e2] v fun f S=>Gr v S/\f= .d .i64 (ownS (hasN s.a) t):=by
 refine Jn tabM (aT Tryz.func111 rfl) rfl hw fun K ar=> ?_;obtain⟨Q,ae⟩:=nxE v;have aj:=h;obtain⟨c,tv,sv,rfl,h1,h2,h3⟩:=h;obtain⟨au,av,bi,rfl,x1,x2,x3,x4⟩:=h1.B;obtain⟨k,n,m,Y⟩:=t;obtain⟨nv,kv,es,rfl,y1,y2,y3,y4⟩:=ht.D;have l1:=y1.G;rw[Jw]at l1;have l2:=y2.G;rw[y3]at l2;have bj:=x1.A;have aw:=x1.B;have bk:=x2.A;have ax:=x2.B;have ay:=h2.G;have az:=h3.G;have bl:=y1.A;have a0:=y1.B;have bm:=y2.A;have a5:=y2.B;have z:ownS (hasN s.a) (.mk k n m Y)=if k<1\/9<k then 1 else if Y.length≠KX (.mk k n m Y)\/(n≠[]/\k≠9)\/(0<m.length/\¬(k=7\/k=8))then 12 else if k=9/\hasN s.a n=false then 15 else KH (.mk k n m Y):=rfl;have hk:KH (.mk k n m Y)=if 8<m.length then 3 else if Km none m≠0 then Km none m else if k=8/\m=[]then 12 else 0:=rfl;obtain⟨I,hI⟩:=opE fun o S=>(Gr v S/\o 2= .e (up 0 Q) 0/\o 3= .e (up 1 Q) 0/\(∃u,S.A (up 0 Q)= .a u [.d .i64 s.b.A,ofL s.b.B,au,av,tv,sv])/\(∃u,S.A (up 1 Q)= .a u [.d .i64 k,ofL n,nv,kv]))
 simp only[CT,Tryz.f111,XY,simprocAttr];refine YQ I ?_ ?_
 ·simp[XZ,ae,aw,ax,ay.1,az.1,a0,a5];exact(hI _ _).2 ⟨(Gr.G hw (Jd _)).L (Jd _),rfl,rfl,⟨_,by simp[XZ,ae];rfl⟩,⟨_,by simp[XZ,ae];rfl⟩⟩
 intro o S a6;obtain⟨g0,y,l,⟨t0,r0⟩,⟨t1,r1⟩⟩:=(hI _ _).1 a6;have a7:∀x,ownS (hasN s.a) (.mk k n m Y)=x->∀S',Gr S S'->K (.d .i64 x) S':=fun x hx S' g=>ar _ _ (fun r e=>(g0.B g).d r e) fun _=>by rw[hx]
 have rS:=Gr.F g0.D;by_cases b1:k<1
 ·rw[Je,Ja];simp[XZ,l,r1,b1]
  grind
 by_cases b2:9<k
 ·rw[Je,Ja];simp[XZ,l,r1,b1,b2]
  grind
 rw[Xa (fun h=>by omega)]at z;rw[Je,Ja];simp[XY,l,r1,b1,b2];rw[Ja];simp[XY];refine Jz (fun o S'=>(S=S'/\o 2= .e (up 0 Q) 0/\o 3= .e (up 1 Q) 0/\o 5= .d .i64 (KX (.mk k n m Y):Nat))) (fun J hJ=> ?_) ?_
 ·have ak:KX (.mk k n m Y)=if k=4\/k=5\/k=6 then 1 else if k=7\/k=8 then m.length else 0:=rfl;by_cases k4:k=4
  ·simp[XZ,l,r1,k4];exact hJ _ _ ⟨rfl,y,l,by simp[XZ];grind⟩
  by_cases k5:k=5
  ·simp[XZ,l,r1,k5];exact hJ _ _ ⟨rfl,y,l,by simp[XZ];grind⟩
  by_cases k6:k=6
  ·simp[XZ,l,r1,k6];exact hJ _ _ ⟨rfl,y,l,by simp[XZ];grind⟩
  rw[Xa (by omega)]at ak;by_cases k7:k=7
  ·simp[XZ,l,r1,k7,l1];exact hJ _ _ ⟨rfl,y,l,by simp[XZ];grind⟩
  by_cases k8:k=8
  ·simp[XZ,l,r1,k8,l1];exact hJ _ _ ⟨rfl,y,l,by simp[XZ];grind⟩
  rw[Xa (by omega)]at ak;simp[XZ,l,r1,k4,k5,k6,k7,k8];exact hJ _ _ ⟨rfl,y,l,by simp[XZ];omega⟩
 clear y l;rintro o S' ⟨rfl,y,l,N⟩;obtain⟨kk,a8⟩:∃kk,kk=KX (.mk k n m Y):=⟨_,rfl⟩
 rw[<-a8]at N z;obtain⟨R,hR⟩:∃b,b=decide (k=7\/k=8):=⟨_,rfl⟩
 refine Ji7 (fun o S'=>(S=S'/\o 2= .e (up 0 Q) 0/\o 3= .e (up 1 Q) 0/\o 5= .d .i64 kk/\o 6= .h R)) (fun J2 af=> ?_) ?_
 ·by_cases k7:k=7
  ·simp[XZ,l,r1,k7];exact af _ _ ⟨rfl,y,l,N,by simp[XZ];grind⟩
  by_cases k8:k=8
  ·simp[XZ,l,r1,k8];exact af _ _ ⟨rfl,y,l,N,by simp[XZ];grind⟩
  simp[XZ,l,r1,k7,k8];exact af _ _ ⟨rfl,y,l,N,by simp[XZ];grind⟩
 clear y l N;rintro o S' ⟨rfl,y,l,N,T⟩;by_cases c1:Y.length=kk;rotate_left
 ·have w:¬(Y.length:Int)=(kk:Int):=by omega
  rw[Je,Ja];simp[XZ,l,N,r1,l2,w]
  grind
 have w:(Y.length:Int)=(kk:Int):=by omega
 by_cases c2:n≠[]/\k≠9
 ·have a9:¬n=[]:=c2.1;have ba:¬k=9:=c2.2;rw[Je,Ja];simp[XZ,l,N,r1,l2,w,a9,ba]
  grind
 by_cases c3:0<m.length/\¬(k=7\/k=8)
 ·have al:¬(m.length:Int)=0:=by omega
  have bb:R=false:=by grind
  rw[bb]at T;by_cases U:k=9
  ·rw[Je,Ja];simp only[XZ,simprocAttr,l,N,T,r1,l1,l2,w,al,U]
   grind
  ·have hn:n=[]:=Xf fun h=>c2 ⟨h,U⟩;rw[Je,Ja];simp only[XZ,simprocAttr,l,N,T,r1,l1,l2,w,al,U,hn]
   grind
 rw[Xa (fun h=>by grind)]at z;have bc:k=9\/n=[]:=by grind
 have ag:R=true\/R=false/\(m.length:Int)=0:=by grind
 refine Jz (fun o S'=>(S=S'/\o 2= .e (up 0 Q) 0/\o 3= .e (up 1 Q) 0)) (fun J3 bd=> ?_) ?_
 ·have W:∀O:Fr,O 2= .e (up 0 Q) 0->O 3= .e (up 1 Q) 0->J3 O S:=fun _ a b=>bd _ _ ⟨rfl,a,b⟩;rcases bc with U|hn
  ·rcases ag with Z|⟨Z,hz⟩
   ·rw[Z]at T;rw[Ja];simp[XZ,l,N,T,r1,l2,w,U]
    grind
   ·rw[Z]at T;rw[Ja];simp[XZ,l,N,T,r1,l1,l2,w,U,hz];exact W _ y l
  ·by_cases U:k=9
   ·rcases ag with Z|⟨Z,hz⟩
    ·rw[Z]at T;rw[Ja];simp[XZ,l,N,T,r1,l2,w,U]
     grind
    ·rw[Z]at T;rw[Ja];simp[XZ,l,N,T,r1,l1,l2,w,U,hz];exact W _ y l
   ·rcases ag with Z|⟨Z,hz⟩
    ·rw[Z]at T;rw[Ja];simp[XZ,l,N,T,r1,l2,w,U,hn];exact W _ y l
    ·rw[Z]at T;rw[Ja];simp[XZ,l,N,T,r1,l1,l2,w,U,hn,hz];exact W _ y l
 clear y l N T;rintro o S' ⟨rfl,y,l⟩;refine Jz (fun o S'=>(Gr S S'/\o 3= .e (up 1 Q) 0/\¬(k=9/\hasN s.a n=false))) (fun J4 am=> ?_) ?_
 ·by_cases U:k=9
  ·rw[Ja];simp[XY,l,r1,U];rw[Ja];simp[XY,y,l,r0,r1];refine Jc (JrZ (P:=P) (s:=s) n g0.D (aj.A g0.H) hl) ?_;rintro _ S1 ⟨g1,E,rfl,hE⟩;have w1:=g1.D;obtain⟨n1,ao⟩:=nxE S1;have e4:=hE.G;have be:=hE.J;have bf:JF [.d .i64 0,ofL [], .g, .g] 0 E=E:=YI (by grind);have bn:E.take 4=E:=by grind
   have gn:Gr S1 ((S1.B fun t=> .a t [.d .i64 0,ofL [], .g, .g]).D (up 0 n1) S1.t fun u=> .a u E):=(Gr.F w1).M ao (Jd _) (Jd _);simp[XN,ao,e4,be,bf]
   cases hh:hasN s.a n with
   | true=>
     rw[Ja];simp[XZ];exact am _ _ ⟨g1.B gn,l,fun h=>by grind⟩
   | false=>
     rw[Ja];simp[XZ];exact a7 _ (by grind) _ (g1.B gn)
  ·rw[Ja];simp[XZ,l,r1,U];exact am _ _ ⟨rS,l,fun h=>U h.1⟩
 clear y l;rintro o S1 ⟨g1,l,c4⟩;rw[Xa c4,hk]at z;have r1:=g1.A r1;by_cases b8:8<m.length
 ·have ah:(8:Int)<m.length:=by omega
  rw[Je,Ja];simp[XZ,l,r1,l1,ah]
  grind
 have ah:¬(8:Int)<m.length:=by omega
 rw[Xa b8]at z;rw[Je,Ja];simp[XY,l,r1,l1,ah];refine Jz (fun o S'=>(S1=S'/\o 3= .e (up 1 Q) 0/\Km none m=0)) (fun J5 bg=> ?_) ?_
 ·rw[Ja];simp[XY];obtain⟨L,hL⟩:=loE fun j o S'=>∃(i:Nat) (p:Option Str),j+i=m.length/\o 3= .e (up 1 Q) 0/\o 9= .d .i64 i/\S1=S'/\Km none m=Km p (m.drop i)/\(p=if i=0 then none else m[i-1]?);refine JC L m.length (by omega) ((hL _ _ _).2 ⟨0,none,by omega,l,by rfl,rfl,rfl,rfl⟩) ?_;clear l;intro j o S' bh;obtain⟨i,p,hj,l,f9,rfl,X,hp⟩:=(hL _ _ _).1 bh;have yS:=(y1.H (g0.B g1))
  by_cases hi:i<m.length
  ·obtain⟨q,qo,a1,a2,a3,a4⟩:=yS.M (xs:=m.map ofL) (i:=i) (by grind);simp at a4;have hd:=Xc hi;have aa:=wiN (i:=i) (by omega);simp[XZ,l,f9,r1,l1,hi,a1,a4];refine Jc (JmF _ _) ?_;rintro _ _ ⟨rfl,rfl⟩
   cases hid:Ks m[i]with
   | false=>
     have hv:Km none m=15:=by rw[X,hd,Km,Xd hid]
     simp[XZ]
     grind
   | true=>
     have next:∀{O:Fr},Ky p m[i]=false->O 3= .e (up 1 Q) 0->O 9= .d .i64 ((i+1:Nat):Int)->∃j',j'<j/\L j' O S1:=fun{O} hl e3 e9=>
      ⟨m.length-(i+1),by omega,(hL _ _ _).2 ⟨i+1,some m[i],by omega,e3,e9,rfl,by rw[X,hd,JdK hid hl],by simp⟩⟩
     by_cases h0:i=0
     ·have ab:¬(0:Int)<(i:Int):=by omega
      simp only[XZ,simprocAttr,f9,ab,aa];exact next (by rw[hp,Xd h0];rfl) l rfl
     ·have ab:(0:Int)<(i:Int):=by omega
      have ad:IntKind.i64.wrap ((i:Int)-1)=((i-1:Nat):Int):=by rw[JV (by omega) (by omega)];omega
      obtain⟨q',bo,d1,d2,d3,d4⟩:=yS.M (xs:=m.map ofL) (i:=i-1) (by grind);simp at d4;have ap:p=some m[i-1]:=by grind
      cases hl:Op.bytesLess m[i-1] m[i]with
      | false=>
        have hv:Km none m=6:=by rw[X,hd,Km,Xa (by grind),Xd (by rw[ap,Ky,hl];rfl)]
        simp only[XZ,simprocAttr,l,f9,r1,ab,ad,a1,a4,d1,d4,JaR,hl]
        grind
      | true=>
        simp only[XZ,simprocAttr,l,f9,r1,ab,ad,a1,a4,d1,d4,JaR,hl,aa];exact next (by rw[ap,Ky,hl];rfl) l rfl
  ·have hv:Km none m=0:=by rw[X,Xm (by omega),Km]
   simp[XZ,l,f9,r1,l1,hi];exact bg _ _ ⟨rfl,l,hv⟩
 clear l;rintro o S' ⟨rfl,l,aq⟩;rw[Xa (fun h=>h aq)]at z;by_cases c8:k=8
 ·by_cases cn:m.length=0
  ·have ai:(m.length:Int)=0:=by omega
   simp[XZ,l,r1,l1,c8,ai]
   grind
  ·have ai:¬(m.length:Int)=0:=by omega
   simp only[XZ,simprocAttr,l,r1,l1,c8,ai]
   grind
 ·simp[XZ,l,r1,c8]
  grind
theorem Jpx :∀(m:Nat) (ty:Ty),tsz ty<m->∀(P Q:Pt->Prop) (N:St) (O:V) (f:List Str) (e:List V),WF N->SlAt Q N O 1 (strs f)->f.length<=1000->TyC P N e ty->cntT ty<1000000->
  Dz 112 [O, .j e] N fun v ae=>Gr N ae/\v= .h (KI f.contains ty)
 |0,_,h=>absurd h (by omega)
 | m+1, .mk k Y ns l,hm=>by
   intro P Q N O f e hw Z aa hx af;refine Jn tabM (aT Tryz.func112 rfl) rfl hw fun K ag=> ?_;obtain⟨n0,ab⟩:=nxE N;obtain⟨nv,kv,es,rfl,y1,y2,y3,y4⟩:=hx.D;have l2:=y2.G;rw[y3]at l2;have ao:=y1.A;have ah:=y1.B;have ap:=y2.A;have ai:=y2.B;have T:=Jfe f.contains k Y ns l;have am:l.length<1000000:=by have h1:=Jb7 l;rw[Ys]at af;omega
   obtain⟨I,hI⟩:=opE fun x S=>(Gr N S/\x 0=O/\x 3= .e (up 0 n0) 0/\(∃u,S.A (up 0 n0)= .a u [.d .i64 k,ofL Y,nv,kv]))
   simp only[CT,Tryz.f112,XY,simprocAttr];refine YQ I ?_ ?_
   ·simp[XZ,ab,ah,ai];exact(hI _ _).2 ⟨Gr.G hw (Jd _),rfl,rfl,⟨_,by simp[XZ,ab];rfl⟩⟩
   intro x S aj;obtain⟨U,y,s,⟨t0,r0⟩⟩:=(hI _ _).1 aj;have z:∀b,KI f.contains (.mk k Y ns l)=b->∀S',Gr S S'->K (.h b) S':=fun b W S' g=>ag _ _ (fun r e=>(U.B g).d r e) fun _=>by rw[W]
   have ad:∀{S':St} {i:Nat} (w:i<l.length),Gr S S'->∃q o E,Jo 4 kv (.d .i64 i)=some (.e q o, .a)/\ldn (S'.A q) o 4=some (.j E, .a)/\Dz 112 [O, .j E] S' fun v ak=>Gr S' ak/\v= .h (KI f.contains l[i]):=fun{S' i} w g=>by
    have G:=U.B g;have al:LstAt (TyC P S') P S' kv 4 l:=⟨es,y2.H G,y3,fun i a b=>(y4 i a b).H G⟩
    obtain⟨q,qo,E',a1,a2,a3,a4,hE,e4,a5⟩:=al.A w;have h1:=jB w;have h2:=Ys k Y ns l;exact⟨q,qo,E',a1,a4,Jpx m l[i] (by have:=YP (k:=k) (n:=Y) (ns:=ns) w;omega) P Q S' O f E' G.D (Z.H G) aa hE (by omega)⟩
   rw[Je,Ja];simp[XY,s,r0];by_cases k7:k=7
   ·rw[Xd k7,Jcf]at T;rw[Ja];simp[XY,k7];rw[Je,Ja];simp[XY];obtain⟨L,hL⟩:=loE fun j x S'=>∃(i:Nat),j+i=l.length/\x 0=O/\x 3= .e (up 0 n0) 0/\x 5= .d .i64 i/\Gr S S'/\(l.all fun t=>KI f.contains t)=((l.drop i).all fun t=>KI f.contains t);refine JC L l.length (by omega) ((hL _ _ _).2 ⟨0,by omega,y,s,by rfl,Gr.F U.D,rfl⟩) ?_;clear y s;intro j x S' X;obtain⟨i,hj,y,s,f5,M,c⟩:=(hL _ _ _).1 X;have r0:=M.A r0;by_cases w:i<l.length
    ·have p:=wiN (i:=i) (by omega);obtain⟨q,o,E,a1,a2,a3⟩:=ad w M;rw[Xc w,ZE]at c;simp[XZ,y,s,f5,r0,l2,w,a1,a2];refine Jc a3 ?_;rintro _ S2 ⟨g2,rfl⟩
     cases W:KI f.contains l[i]with
     | true=>
       rw[W,Hm]at c;simp[XZ,f5,p];exact⟨l.length-(i+1),by omega,(hL _ _ _).2 ⟨i+1,by omega,y,s,rfl,M.B g2,c⟩⟩
     | false=>
       rw[W,GI]at c;simp[XZ];exact z _ (by grind) _ (M.B g2)
    ·rw[Xm (by omega)]at c;simp[XZ,s,f5,r0,l2,w]
     grind
   rw[Xa k7]at T;by_cases k8:k=8
   ·rw[Xd k8,Jce]at T;rw[Ja];simp[XY,k7];rw[Ja];simp[XY,k8];rw[Je,Ja];simp[XY];obtain⟨L,hL⟩:=loE fun j x S'=>∃(i:Nat),j+i=l.length/\x 0=O/\x 3= .e (up 0 n0) 0/\x 6= .d .i64 i/\Gr S S'/\(l.any fun t=>KI f.contains t)=((l.drop i).any fun t=>KI f.contains t);refine JC L l.length (by omega) ((hL _ _ _).2 ⟨0,by omega,y,s,by rfl,Gr.F U.D,rfl⟩) ?_;clear y s;intro j x S' X;obtain⟨i,hj,y,s,f6,M,c⟩:=(hL _ _ _).1 X;have r0:=M.A r0;by_cases w:i<l.length
    ·have p:=wiN (i:=i) (by omega);obtain⟨q,o,E,a1,a2,a3⟩:=ad w M;rw[Xc w,Ga]at c;simp[XZ,y,s,f6,r0,l2,w,a1,a2];refine Jc a3 ?_;rintro _ S2 ⟨g2,rfl⟩
     cases W:KI f.contains l[i]with
     | false=>
       rw[W,ZF]at c;simp[XZ,f6,p];exact⟨l.length-(i+1),by omega,(hL _ _ _).2 ⟨i+1,by omega,y,s,rfl,M.B g2,c⟩⟩
     | true=>
       rw[W,Gi]at c;simp[XZ];exact z _ (by grind) _ (M.B g2)
    ·rw[Xm (by omega)]at c;simp[XZ,s,f6,r0,l2,w]
     grind
   rw[Xa k8]at T;by_cases k9:k=9
   ·rw[Xd k9]at T;simp[XZ,k9,y,s,r0];refine Jc (rinC (P:=Q) Y U.D (Z.H U) aa) ?_;rintro _ _ ⟨rfl,rfl⟩;simp only[XZ,simprocAttr];exact z _ T _ (Gr.F U.D)
   ·rw[Xa k9]at T;simp[XZ,k7,k8,k9];exact z _ T _ (Gr.F U.D)
def rndR (l:List (Str×Ty))(has:List Str):List Str:=(l.filter fun p=>KI has.contains p.2).map Prod.fst
theorem JjW (l:List (Str×Ty))(a:List Str):(rndR l a).length<=l.length:=by
 unfold rndR
 grind
theorem Jpy {E:List V}{s:Sch}(hw:WF v)(h:SchC P v E s)(hl:s.a.length<=100)(ab:j8 (s.a.map Prod.snd)<1000000):
  Dz 60 [.j E] v fun f S=>Gr v S/\SlAt (fun r=>v.A r= .none) S f 1 (strs (finR s.a (s.a.length+1) [])):=by
 refine Jn tabM (aT Tryz.func60 rfl) rfl hw fun K ad=> ?_;obtain⟨n0,ae⟩:=nxE v;obtain⟨c,tv,sv,rfl,h1,h2,h3⟩:=h;obtain⟨l,ak⟩:∃l,l=s.a:=⟨_,rfl⟩
 rw[<-ak]at h2 hl ab ad;obtain⟨af,ag,a2,rfl,x1,x2,x3,x4⟩:=h1.B;have l1:=h2.H;have a5:=x1.A;have al:=x1.B;have a7:=x2.A;have am:=x2.B;have ao:=h2.G;have ap:=h3.G;simp only[CT,Tryz.f60,XY,simprocAttr];rw[Ja];simp[XY,ae,al,am,ao.1,ap.1];obtain⟨y,W⟩:=exE (v.B fun t=> .a t [.d .i64 s.b.A,ofL s.b.B,af,ag,tv,sv]);have g0:Gr v y:=by rw[W];exact Gr.G hw (Jd _)
 obtain⟨t0,r0⟩:∃t,y.A (up 0 n0)= .a t [.d .i64 s.b.A,ofL s.b.B,af,ag,tv,sv]:=⟨_,by rw[W];simp[XZ,ae];rfl⟩
 rw[<-W];clear W;rw[Ja];simp[XY];have X:∀{S:St},Gr y S->∀r,v.A r≠ .none->S.A r=v.A r:=fun g r e=>by rw[g.d r (by rw[g0.d r e];exact e),g0.d r e]
 have aq:∀{S:St} {e t},Gr y S->TyC P v e t->TyC P S e t:=fun g h=>h.A fun r p e=>⟨p,X g r e⟩
 rw[Je,Ja];simp[XY];refine Jy (fun j u S=>∃(k:Nat) (Z:V) (n:List Str),j+k=l.length+1/\u 1= .e (up 0 n0) 0/\u 3=Z/\u 4= .d .i64 k/\Gr y S/\SlF y S Z 1 (strs n)/\n.length<=l.length/\finR l (l.length+1) []=finR l (l.length+1-k) n) (l.length+1) (by omega) ⟨0, .g,[],by omega,rfl,rfl,by rfl,Gr.F g0.D,SlF.I _ _ _,XC _,rfl⟩ ?_;rintro I hI j u S ⟨k,Z,n,hj,x,f3,N,O,w,a8,o⟩;have rS:=O.A r0;by_cases hk:k<=l.length
 ·have aa:=wiN (i:=k) (by omega);rw[show l.length+1-k=(l.length+1-(k+1))+1 by omega,JcT]at o;rw[Je,Ja];simp[XY,x,N,rS,l1,hk];rw[Je];simp[XY];rw[Ja];simp[XY];refine Jz (fun u U=>(∃nv,u 1= .e (up 0 n0) 0/\u 4= .d .i64 k/\u 5=nv/\Gr y U/\SlF y U nv 1 (strs (rndR l n)))) (fun J hJ=> ?_) ?_
  ·rw[Ja];simp[XY];obtain⟨L,hL⟩:=loE fun j u U=>∃(i:Nat) (nv:V),j+i=l.length/\u 1= .e (up 0 n0) 0/\u 3=Z/\u 4= .d .i64 k/\u 5=nv/\u 6= .d .i64 i/\Gr y U/\SlF y U Z 1 (strs n)/\SlF y U nv 1 (strs (rndR (l.take i) n))/\(∀r,rowOf nv=some r->rowOf Z≠some r);refine JC L l.length (by omega) ((hL _ _ _).2 ⟨0, .g,by omega,x,f3,N,rfl,by rfl,O,w,SlF.I _ _ _,fun r h=>by cases h⟩) ?_;clear x f3 N rS O w;intro j2 u U ar;obtain⟨i,nw,a9,x,f3,N,f5,f6,O,w,M,ah⟩:=(hL _ _ _).1 ar;have rS:=O.A r0;by_cases hi:i<l.length
   ·have Q:=wiN (i:=i) (by omega);obtain⟨r,q,au,av,a1,a3,a4,aw,d1,d2,d3,d4⟩:=Jdw h2 (X O) hi;have a6:=Jcg (a:=1) (b:=4) a4;have a6:ldn (U.A r) (q+1) 4=some (.j [.d .i64 l[i].2.A,ofL l[i].2.B,au,av], .a):=a6;have ax:=jB (ks:=l.map Prod.snd) (i:=i) (by grind);rw[Zv]at ax;have Y:rndR (l.take (i+1)) n=if KI n.contains l[i].2=true then rndR (l.take i) n++[l[i].1]else rndR (l.take i) n:=by
     unfold rndR;rw[XD hi,List.filter_append,ZA]
     grind
    simp[XZ,x,f3,f6,rS,l1,hi,a1,a6];refine Jc (Jpx _ l[i].2 (XK _) P _ U Z n _ O.D w.D (by omega) (aq O aw) (by omega)) ?_;rintro _ S2 ⟨g2,rfl⟩;have G2:=O.B g2;have r2:=G2.A r0
    cases hb:KI n.contains l[i].2 with
    | false=>
      rw[Xa (by grind)]at Y;simp[XZ,f6,Q];exact⟨l.length-(i+1),by omega,(hL _ _ _).2 ⟨i+1,nw,by omega,x,f3,N,f5,rfl,G2,w.G g2,by rw[Y];exact M.G g2,ah⟩⟩
    | true=>
      rw[Xd hb]at Y;obtain⟨r',q',ba,bb,b1,b3,b4,_⟩:=Jdw h2 (X G2) hi;have b5:=JdZ b4 (j:=0) (by decide) rfl;have b5:ld1 (S2.A r') q'=some (ofL l[i].1, .a):=b5;have w2:=g2.D;obtain⟨n2,ay⟩:=nxE S2;simp[XZ,x,f5,f6,r2,b1,b5,ay];have gn:Gr S2 (S2.B fun t=> .a t [ofL l[i].1]):=Gr.G w2 (Jd _);have ai:SlAt (fun r=>r=up 0 n2) (S2.B fun t=> .a t [ofL l[i].1]) (.m (up 0 n2) 0 1 1 1) 1 [[ofL l[i].1]]:=by
       have:=Ql (st:=S2) (z:=1) (e:=[ofL l[i].1]) rfl
       grind
      have az:=JjW (l.take i) n;rw[ZG]at az;refine Qw (S0:=y) (G2.B gn) ((M.G g2).G gn) ai (fun e he=>by rw[Xn.1 he];rfl) (by simp) (by rw[Jw];grind) ?_;intro S3 v3 g3 h3 rv kp;have T:=(w.G g2).G gn;have aj:SlF y S3 Z 1 (strs n):=T.B fun r hr=>kp r (by obtain⟨_,t,e⟩:=T.H hr;grind) (fun e=>ah r e hr);simp[XZ,f6,Q];refine⟨l.length-(i+1),by omega,(hL _ _ _).2 ⟨i+1,v3,by omega,x,f3,N,rfl,rfl,g3,aj, ?_, ?_⟩⟩
      ·rw[Y];have:strs (rndR (l.take i) n++[l[i].1])=strs (rndR (l.take i) n)++[[ofL l[i].1]]:=by unfold strs;simp
       grind
      ·intro r hr e;rcases rv with rv|rv
       ·grind
       ·rw[rv]at hr;injection hr with hr;obtain⟨_,t,e2⟩:=T.H e;rw[<-hr]at e2;have:=J9 gn.D
        grind
   ·rw[Xr (by omega)]at M;simp[XZ,x,f6,rS,l1,hi];exact hJ _ _ ⟨nw,x,N,f5,O,M⟩
  clear x f3 N;rintro u U ⟨nw,x,N,f5,a0,M⟩;simp[XZ,N,f5,aa];exact⟨l.length+1-(k+1),by omega,hI _ _ _ ⟨k+1,nw,rndR l n,by omega,x,rfl,rfl,a0,M,JjW l n,o⟩⟩
 ·rw[show l.length+1-k=0 by omega]at o;have o:finR l (l.length+1) []=n:=o;simp[XZ,x,f3,N,rS,l1,hk];refine ad _ _ (X O) fun _=> ?_;rw[o];exact w.D.D fun r p _=>⟨g0.I p,rfl⟩
theorem _root_.Eva.SchC.B (h:SchC P v s n)(k:Nat):SchC P {v with a:=k} s n:=h.A kR
theorem Jr0 :∀(m:Nat) (ty:Ty),tsz ty<m->∀(P:Pt->Prop) (Q:St) (z:Pt) (s:Sch) (g:Nat) (E e:List V) (f:Nat),WF Q->SchC P Q E s->TyC P Q e ty->(∀r,P r->r≠z)->(∃t,Q.A z= .a t (E++[.d .i64 g]))->f<=13->g<=400->s.a.length<=1000->cntT ty<1000000\/True->
  Dz 58 [.e z 0, .j e, .d .i64 f] Q fun v ap=>Ch (fun r=>r=z) Q ap/\(∃t,ap.A z= .a t (E++[.d .i64 (mayS (hasN s.a) ty f g).2]))/\v= .d .i64 (mayS (hasN s.a) ty f g).1
 |0,_,h=>absurd h (by omega)
 | m+1, .mk k M N l,hm=>by
   intro P Q z s g E e f hw ad hx ae av aw bc hl _;refine JeV tabM (aT Tryz.func58 rfl) rfl hw fun K ax=> ?_;obtain⟨n0,ag⟩:=nxE Q;have Y:=ad;obtain⟨c,tv,sv,rfl,h1,h2,h3⟩:=ad;obtain⟨W,X,bd,rfl,x1,x2,x3,x4⟩:=h1.B;have ay:=hx;obtain⟨nv,kv,es,rfl,y1,y2,y3,y4⟩:=hx.D;have l2:=y2.G;rw[y3]at l2;have be:=x1.A;have bf:=x1.B;have bg:=x2.A;have bh:=x2.B;have bi:=h2.G;have bj:=h3.G;have bk:=y1.A;have az:=y1.B;have bl:=y2.A;have a0:=y2.B;obtain⟨tk,rk⟩:=av;have rk:Q.A z= .a tk [.d .i64 s.b.A,ofL s.b.B,W,X,tv,sv, .d .i64 g]:=rk;have T:=qf (hasN s.a) k M N l f g;have aq:=Jr hw ag (Jb rk) 0;have a6:=nes aq;obtain⟨I,hI⟩:=opE fun U S=>(Ch (fun r=>r=z) Q S/\U 0= .e z 0/\U 2= .d .i64 f/\U 4= .e (up 0 n0) 0/\(∃u,S.A (up 0 n0)= .a u [.d .i64 k,ofL M,nv,kv])/\(∃u,S.A z= .a u [.d .i64 s.b.A,ofL s.b.B,W,X,tv,sv, .d .i64 ((g+1:Nat):Int)]))
   have ar:=wiN (i:=g) (by omega);simp only[CT,Tryz.f58,XY,simprocAttr];rw[Ja];simp only[XY,simprocAttr,ag,az,a0];refine YQ I ?_ ?_
   ·have gn:Gr Q (Q.B fun t=> .a t [.d .i64 k,ofL M,nv,kv]):=Gr.G hw (Jd _);have o:=gn.A rk;simp only[XZ,simprocAttr,o,ar];refine(hI _ _).2 ⟨(Ch.H _ gn).J (Jb o) (by rw[o];rfl) (.inl rfl) (Jd _),rfl,rfl,rfl,⟨_,by simp only[XZ,simprocAttr,ag,a6];rfl⟩,⟨_,Jk _ _ _ _⟩⟩
   intro U S a7;obtain⟨hC,f0,f2,f4,⟨t0,r0⟩,⟨u1,o⟩⟩:=(hI _ _).1 a7;have y:∀{S':St},Ch (fun r=>r=z) Q S'->∀r,P r->Q.A r≠ .none->P r/\S'.A r=Q.A r:=fun c r p e=>⟨p,c.d r e (ae r p)⟩
   have bm:∀(x:Int) (mm:Nat),mayS (hasN s.a) (.mk k M N l) f g=(x,mm)->∀S',Ch (fun r=>r=z) Q S'->(∃u,S'.A z= .a u [.d .i64 s.b.A,ofL s.b.B,W,X,tv,sv, .d .i64 (mm:Int)])->K (.d .i64 x) S':=fun x mm hx S' c hr=>ax _ _ (fun r a b=>c.d r a b) fun _=>by grind
   by_cases b1:400<g+1
   ·have ah:(400:Int)<((g+1:Nat):Int):=by omega
    rw[Je,Ja];simp only[XZ,simprocAttr,f0,o,ah]
    grind
   have ah:¬(400:Int)<((g+1:Nat):Int):=by omega
   rw[Xa b1]at T;rw[Je,Ja];simp only[XY,simprocAttr,f0,o,ah];by_cases b2:12<f
   ·have ai:(12:Int)<(f:Int):=by omega
    rw[Je,Ja];simp only[XZ,simprocAttr,f2,ai]
    grind
   have ai:¬(12:Int)<(f:Int):=by omega
   rw[Xa b2]at T;rw[Je,Ja];simp only[XY,simprocAttr,f2,ai];have wS:=hC.D;rw[Ja];simp only[XY,simprocAttr,f0,f4,o,r0];refine Jj (JtF (P:=P) (s:=s) (Js wS S.t) ((Y.A (y hC)).B S.t) ((ay.A (y hC)).I S.t) hl) ?_;rintro _ S1 g1 rfl;obtain⟨O,hO⟩:∃O,O=ownS (hasN s.a) (.mk k M N l):=⟨_,rfl⟩
   rw[<-hO]at T⊢;have C1:Ch (fun r=>r=z) Q S1:=hC.I g1;have aj:=g1.A r0;have o:=g1.A o;simp only[XY,simprocAttr];refine Jz (fun U S'=>(∃x mm,U 7= .d .i64 x/\mayS (hasN s.a) (.mk k M N l) f g=(x,mm)/\Ch (fun r=>r=z) Q S'/\∃u,S'.A z= .a u [.d .i64 s.b.A,ofL s.b.B,W,X,tv,sv, .d .i64 (mm:Int)])) (fun J hJ=> ?_) ?_
   ·rw[Ja];simp only[XY,simprocAttr];obtain⟨L,hL⟩:=loE fun j U S'=>∃(i mi:Nat) (x:Int),j+i=l.length/\U 0= .e z 0/\U 2= .d .i64 f/\U 4= .e (up 0 n0) 0/\U 7= .d .i64 x/\U 8= .d .i64 i/\Ch (fun r=>r=z) Q S'/\(∃u,S'.A (up 0 n0)= .a u [.d .i64 k,ofL M,nv,kv])/\(∃u,S'.A z= .a u [.d .i64 s.b.A,ofL s.b.B,W,X,tv,sv, .d .i64 (mi:Int)])/\mayS (hasN s.a) (.mk k M N l) f g=(if x≠0 then(x,mi)else JD (hasN s.a) (l.drop i) (f+1) mi)/\(x=0->mi<=400);have af:l.length<1000000\/O≠0:=by
     by_cases ho:O=0
     ·left;have hf:ownS (hasN s.a) (.mk k M N l)=if k<1\/9<k then 1 else if l.length≠KX (.mk k M N l)\/(M≠[]/\k≠9)\/(0<N.length/\¬(k=7\/k=8))then 12 else if k=9/\hasN s.a M=false then 15 else KH (.mk k M N l):=rfl;rw[hO,hf]at ho;by_cases d1:k<1\/9<k
      ·omega
      rw[Xa d1]at ho;by_cases d2:l.length≠KX (.mk k M N l)\/(M≠[]/\k≠9)\/(0<N.length/\¬(k=7\/k=8))
      ·grind
      rw[Xa d2]at ho;have d3:l.length=KX (.mk k M N l):=Xf fun h=>d2 (.inl h);by_cases d4:k=9/\hasN s.a M=false
      ·grind
      rw[Xa d4]at ho;have bn:N.length<=8:=by
       have hk:KH (.mk k M N l)=if 8<N.length then 3 else if Km none N≠0 then Km none N else if k=8/\N=[]then 12 else 0:=rfl;omega
      have bo:KX (.mk k M N l)=if k=4\/k=5\/k=6 then 1 else if k=7\/k=8 then N.length else 0:=rfl
      grind
     omega
    by_cases ho:O=0;rotate_left
    ·
     refine j9 (by decide) ?_;by_cases hz:(0:Int)<l.length
     ·simp only[XZ,simprocAttr,f4,aj,l2,ho,hz];exact hJ _ _ ⟨O,g+1,rfl,by grind,C1,_,o⟩
     ·simp only[XZ,simprocAttr,f4,aj,l2,hz];exact hJ _ _ ⟨O,g+1,rfl,by grind,C1,_,o⟩
    have af:l.length<1000000:=af.resolve_right fun h=>h ho;rw[Xa (fun h=>h ho)]at T;refine JC L l.length (by omega) ((hL _ _ _).2 ⟨0,g+1,O,by omega,f0,f2,f4,rfl,by rfl,C1,⟨_,aj⟩,⟨_,o⟩,by grind,fun _=>by omega⟩) ?_;clear f0 f2 f4;intro j U S2 a8;obtain⟨i,mi,x,hj,f0,f2,f4,f7,f8,C2,⟨ua,Z⟩,⟨ub,ak⟩,aa,au⟩:=(hL _ _ _).1 a8;by_cases hi:i<l.length
    ·have ab:(i:Int)<l.length:=by omega
     by_cases hx:x=0
     ·rw[Xa (fun h=>h hx),Xc hi,Kg]at aa;have a9:LstAt (TyC P S2) P S2 kv 4 l:=⟨es,y2.D (y C2),y3,fun i a b=>(y4 i a b).A (y C2)⟩
      obtain⟨q,qo,E',a1,a2,a3,a4,hE,e4,a5⟩:=a9.A hi;have al:=wiN (i:=i) (by omega);have am:=wiN (i:=f) (by omega);simp only[XZ,simprocAttr,f0,f2,f4,f7,f8,Z,l2,ab,hx,a1,a4,am];refine Jc (Jr0 m l[i] (by have:=YP (k:=k) (n:=M) (ns:=N) hi;omega) P S2 z s mi _ E' (f+1) C2.D (Y.A (y C2)) hE ae ⟨ub,ak⟩ (by omega) (au hx) hl (.inr trivial)) ?_;rintro _ S3 ⟨c3,⟨u3,ao⟩,rfl⟩;have ao:S3.A z= .a u3 [.d .i64 s.b.A,ofL s.b.B,W,X,tv,sv, .d .i64 ((mayS (hasN s.a) l[i] (f+1) mi).2:Nat)]:=ao;have C3:=C2.A c3 fun r w=> .inl w;have ba:S3.A (up 0 n0)= .a ua [.d .i64 k,ofL M,nv,kv]:=by rw[c3.d _ (Jb Z) (fun h=>aq h.symm),Z]
      have bb:=QN (hasN s.a) l[i] (f+1) mi (au hx);simp only[XZ,simprocAttr,f8,al];exact⟨l.length-(i+1),by omega,(hL _ _ _).2 ⟨i+1,_,_,by omega,f0,f2,f4,rfl,rfl,C3,⟨ua,ba⟩,⟨u3,ao⟩,aa,bb.2⟩⟩
     ·rw[Xd hx]at aa;simp only[XZ,simprocAttr,f4,f7,f8,Z,l2,ab,hx];exact hJ _ _ ⟨x,mi,f7,aa,C2,ub,ak⟩
    ·have ab:¬(i:Int)<l.length:=by omega
     simp only[XZ,simprocAttr,f4,f8,Z,l2,ab];refine hJ _ _ ⟨x,mi,f7, ?_,C2,ub,ak⟩;rw[aa,Xm (by omega),QU]
     grind
   rintro U S2 ⟨x,mm,f7,bp,C2,hr⟩;simp only[XZ,simprocAttr,f7]
   grind
end Go.Proofs.YtmcjecniobkggaaGreat
