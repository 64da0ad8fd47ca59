/- Types told apart. The document's Add. The document's Add, where the table is full. The  -/
import Derived.Test.YtdajkeoobbonjaaGreatText
set_option linter.constructorNameAsVariable false
set_option maxHeartbeats 8000000
set_option linter.unusedVariables false
set_option linter.unusedSimpArgs false
set_option linter.unusedSectionVars false
set_option maxRecDepth 100000
namespace Go.Proofs.YtdajkeoobbonjaaGreat
open Eva Go.RowKit
variable {P:Pt->Prop}{s:List V}{v:St}{e:List Str}{n:Sch}
theorem Q7 {f:V}(h:SlAt P v f 1 (strs e)){i:Nat}(j:i<e.length):∃r o,Js 1 f (.d .i64 i)=some (.g r o, .a)/\ld1 (v.A r) o=some (ofL e[i], .a):=by
 obtain⟨r,q,a,b,c,d⟩:=SlAt.M (xs:=e.map ofL) h (i:=i) (by grind)
 grind
theorem JsH (m:Nat):∀(X Y:Ty),tsz X<m->fitT X=true->fitT Y=true->∀{P Q:Pt->Prop} {z:St} {e1 e2:List V},WF z->TyC P z e1 X->TyC Q z e2 Y->
  Dz 75 [.j e1, .j e2] z fun v S=>Gr z S/\∃b,v= .h b/\(b=true<->X=Y):=by
 induction m with
 |zero=>intro X Y h;exact absurd h (XH _)
 |succ m ih=>
 intro X Y hX hf ai P Q z e1 e2 hw h1 h2;obtain⟨k,n,l,u⟩:=X;obtain⟨k',n',c,f⟩:=Y;obtain⟨f1,y,M⟩:=Jaa hf;obtain⟨v4,v5,v6⟩:=Jaa ai;refine Jl (aT Tryz.func75 rfl) rfl ?_;obtain⟨n0,W⟩:=nxE z;obtain⟨nv,kv,es,rfl,x1,x2,x3,x4⟩:=h1.D;obtain⟨mv,lv,fs,rfl,y1,y2,y3,y4⟩:=h2.D;have c1:=x1.A;have c2:=x1.B;have c3:=x2.A;have c4:=x2.B;have d1:=y1.A;have d2:=y1.B;have d3:=y2.A;have d4:=y2.B;have o:=x1.G;have J:=x2.G;have O:=y1.G;have Z:=y2.G;rw[Jv]at o O;rw[x3]at J;rw[y3]at Z;obtain⟨p2,ad⟩:=exE (up 0 n0);obtain⟨p3,ae⟩:=exE (up 1 n0);simp only[CT,Tryz.f75,XY,simprocAttr];rw[Ja];simp only[XY,simprocAttr,W,c2,c4,d2,d4];rw[<-ad,<-ae];obtain⟨S0,K⟩:=exE ((z.B fun t=> .a t [.d .i64 k,ofL n,nv,kv]).B fun t=> .a t [.d .i64 k',ofL n',mv,lv]);have T:Gr z S0:=by rw[K];exact(Gr.G hw (Jc _)).L (Jc _)
 obtain⟨t2,w⟩:∃t,S0.A p2= .a t [.d .i64 k,ofL n,nv,kv]:=⟨_,by rw[K,ad];simp only[XZ,simprocAttr,W];rfl⟩
 obtain⟨t3,N⟩:∃t,S0.A p3= .a t [.d .i64 k',ofL n',mv,lv]:=⟨_,by rw[K,ae];simp only[XZ,simprocAttr,W];rfl⟩
 rw[<-K];clear K;have af:∀{S:St},Gr z S->¬(Ty.mk k n l u=Ty.mk k' n' c f)->Gr z S/\∃b,V.h false= .h b/\(b=true<->Ty.mk k n l u=Ty.mk k' n' c f):=fun g h=>⟨g,false,rfl,fun e=>(by cases e),fun e=>absurd e h⟩
 by_cases hk:k=k';rotate_left
 ·simp only[XZ,simprocAttr,w,N,hk]
  grind
 subst hk;by_cases hn:n=n';rotate_left
 ·simp only[XZ,simprocAttr,w,N,hn]
  grind
 subst hn;by_cases hl:l.length=c.length;rotate_left
 ·have U:((l.length:Int)=(c.length:Int))=False:=Zi (by omega);simp only[XZ,simprocAttr,w,N,o,O,U]
  grind
 have U:((l.length:Int)=(c.length:Int))=True:=Zn (by omega);by_cases hm:u.length=f.length;rotate_left
 ·have aa:((u.length:Int)=(f.length:Int))=False:=Zi (by omega);simp only[XZ,simprocAttr,w,N,o,O,J,Z,U,aa]
  grind
 have aa:((u.length:Int)=(f.length:Int))=True:=Zn (by omega);rw[Jd,Ja];simp only[XY,simprocAttr,w,N,o,J,O,Z,U,aa];have aj:=x1.I T;have ak:=y1.I T;refine Yf (fun p S=>S=S0/\p 2= .g p2 0/\p 3= .g p3 0/\l=c) ?_ ?_
 ·rw[Ja];simp only[XY,simprocAttr];refine Jo (fun j p S=>∃(i:Nat),j+i=l.length/\p 2= .g p2 0/\p 3= .g p3 0/\p 5= .d .i64 i/\S=S0/\∀q (h:q<l.length) (h':q<c.length),q<i->l[q]=c[q]) l.length (by omega) ⟨0,by omega,rfl,rfl,by rfl,rfl,fun q _ _ h=>absurd h (by omega)⟩ ?_;rintro L hL j p S ⟨i,hj,y,M,f5,rfl,ab⟩;by_cases hi:i<l.length
  ·have x:(i:Int)<l.length:=by omega
   have s:=wiN (i:=i) (by omega);obtain⟨r,q,a1,a4⟩:=Q7 aj hi;obtain⟨r',q',b1,b4⟩:=Q7 ak (i:=i) (by omega);by_cases he:l[i]=c[i]'(by omega)
   ·simp only[XZ,simprocAttr,y,M,f5,w,N,o,x,a1,a4,b1,b4,s,he];exact⟨j-1,by omega,hL _ _ _ ⟨i+1,by omega,y,M,rfl,rfl,fun q h h' hq=>by
     grind⟩⟩
   ·simp only[XZ,simprocAttr,y,M,f5,w,N,o,x,a1,a4,b1,b4,he]
    grind
  ·have x:¬(i:Int)<l.length:=by omega
   simp only[XZ,simprocAttr,y,M,f5,w,o,x];exact ZT hl fun q h h'=>ab q h h' (by omega)
 rintro p S ⟨rfl,y,M,al⟩;refine Yf (fun p S'=>Gr S S'/\u=f) ?_ fun p S' h=>by
  simp only[XZ,simprocAttr];exact⟨T.A h.1,true,rfl,fun _=>by grind,fun _=>rfl⟩
 rw[Ja];simp only[XY,simprocAttr];refine Jo (fun j p S'=>∃(i:Nat),j+i=u.length/\p 2= .g p2 0/\p 3= .g p3 0/\p 6= .d .i64 i/\Gr S S'/\∀q (h:q<u.length) (h':q<f.length),q<i->u[q]=f[q]) u.length (by omega) ⟨0,by omega,y,M,by rfl,Gr.F T.D,fun q _ _ h=>absurd h (by omega)⟩ ?_;rintro L hL j p S' ⟨i,hj,y,M,f6,g,ab⟩;have w:=g.B w;have N:=g.B N;by_cases hi:i<u.length
 ·have x:(i:Int)<u.length:=by omega
  have s:=wiN (i:=i) (by omega);have ag:i<es.length:=by omega
  have ah:i<fs.length:=by omega
  obtain⟨r,q,a1,a2,a3,a4,a5⟩:=((x2.I T).I g).H ag;obtain⟨r',q',b1,b2,b3,b4,b5⟩:=((y2.I T).I g).H ah;rw[Jd,Ja];simp only[XY,simprocAttr,y,f6,w,J,x];rw[Jd];simp only[XY,simprocAttr];rw[Ja];simp only[XY,simprocAttr,y,M,f6,w,N,a1,a4,b1,b4];refine Ji (ih u[i] (f[i]'(by omega)) (by have:=Yv (k:=k) (n:=n) (ns:=l) hi;omega) (qx (by omega) i hi) (qx v6 i (by omega)) (Jq g.D _) (((x4 i ag hi).H (T.A g)).I _) (((y4 i ah (by omega)).H (T.A g)).I _)) ?_;rintro _ Se ge ⟨b,rfl,hb⟩
  cases b with
  | true=>
    simp only[XZ,simprocAttr,f6,s];exact⟨j-1,by omega,hL _ _ _ ⟨i+1,by omega,y,M,rfl,g.A ge,fun q h h' hq=>by
     grind⟩⟩
  | false=>
    simp only[XZ,simprocAttr];exact af (T.A (g.A ge)) fun e=>by grind
 ·simp[XZ,y,f6,w,J,hi];exact⟨g,ZT hm fun q h h'=>ab q h h' (by omega)⟩
theorem Jqg (mm:Nat):∀(X:Ty),tsz X<mm->∀{Y st:St} {P:Pt} {lv tv:V} {af:List V} {O:Pt->Prop} {tb:Tb} {aa:List Ty} {e:List V} {left:Int},RT Y st P lv tv af O tb.a aa->Qd tb.a aa->TyC (fun r=>Y.A r≠ .none) st e X->(addT X left tb).2.2.1=0->(∃r0 r1 r2 r3 r4 r5 r6 r7 r8,af=[r0,r1,r2,r3,r4,r5,r6,r7,r8])->
  Dz 39 [.g P 0, .j e] st fun v S=>∃Q N O' al,RT Y S P Q N af O' (addT X left tb).1.a al/\Qd (addT X left tb).1.a al/\Kz O O' (Bt P lv tv O) (Bt P Q N O') st S/\v= .p [.d .i64 ((addT X left tb).2.1:Nat), .d .i64 0]:=by
 induction mm with
 |zero=>intro X h;exact absurd h (XH _)
 |succ mm ih=>
 intro X hX Y st P lv tv af O tb aa e left hR hI hx he bq;obtain⟨k,n,ns,Z⟩:=X;obtain⟨d0,d1,ao,az,a0,a6⟩:=Jro he;have ap:=Jfx _ he;obtain⟨_,_,d2⟩:=Jaa ap;refine Jl (aT Tryz.func39 rfl) rfl ?_;have hw:=hR.g.D;obtain⟨n0,a7⟩:=nxE st;obtain⟨nv,kv,es,rfl,x1,x2,x3,x4⟩:=hx.D;have c1:=x1.A;have c2:=x1.B;have c3:=x2.A;have c4:=x2.B;have len2:=x2.G;rw[x3]at len2;obtain⟨p3,br⟩:=exE (up 0 n0);simp only[CT,Tryz.f39,XY,simprocAttr];rw[Ja];simp[XY,a7,c2,c4];rw[<-br];obtain⟨S0,a8⟩:=exE (st.B fun t=> .a t [.d .i64 k,ofL n,nv,kv]);have G0:Gr st S0:=by rw[a8];exact Gr.G hw (Jc _)
 obtain⟨t3,r3⟩:∃t,S0.A p3= .a t [.d .i64 k,ofL n,nv,kv]:=⟨_,by rw[a8,br];simp[XZ,a7];rfl⟩
 have ch:st.A p3= .none:=by rw[br];exact nx0 hw a7 0
 rw[<-a8];clear a8;have w0:=G0.D;obtain⟨n1,aq⟩:=nxE S0;have o3:=fun k=>nes (Jt w0 aq (Jb r3) k);rw[Ja];simp[XY,r3,aq,o3];obtain⟨x0,bt⟩:=exE (up 0 n1);obtain⟨S1,a9⟩:=exE (S0.B fun t=>Row.a t []);have G1:Gr S0 S1:=by rw[a9];exact Gr.G w0 (Jc _)
 obtain⟨t1,r1⟩:∃t,S1.A x0= .a t []:=⟨_,by rw[a9,bt];simp[XZ,aq];rfl⟩
 have ba:S0.A x0= .none:=by rw[bt];exact nx0 w0 aq 0
 rw[<-a9,<-bt];clear a9;have ag:p3≠x0:=fun e=>by rw[<-e,r3]at ba;cases ba
 have da:∀r,S0.A r= .none->st.A r= .none:=fun r e=>G0.I e;have cj:∀r,st.A r= .none->Y.A r= .none:=fun r e=>hR.g.I e;have ck:SlF st S1 (.m x0 0 0 1 0) 1 []:=⟨by simp, .inr ⟨x0,t1,da _ ba,by rw[r1];rfl, .inr rfl⟩⟩
 have bu:=G0.A G1;refine Qj (S0:=st) bu ck (x1.I bu) (Ya _) (by rw[Jv];omega) (by rw[Jv];simp;omega) fun Sa v1 ga ah bn ar=> ?_;simp at ah;have bv:Sa.A p3= .a t3 [.d .i64 k,ofL n,nv,kv]:=(ar p3 (Jb (G1.B r3)) fun e=>ag (by injection e with e;exact e.symm)).trans (G1.B r3);have cl:=ah.D.B;have cm:=ah.D.A;obtain⟨nA,bb⟩:=nxE Sa;simp[XY,bb,cl,cm];obtain⟨p6,bw⟩:=exE (up 0 nA);obtain⟨S2,bc⟩:=exE ((Sa.B fun t=> .a t [.d .i64 0,ofL [], .e, .e]).D (up 0 nA) Sa.t fun u=> .a u [.d .i64 k,ofL n,v1, .e]);have G2:Gr Sa S2:=by rw[bc];exact(Gr.F ga.D).M bb (Jc _) (Jc _)
 obtain⟨t6,r6⟩:∃t,S2.A p6= .a t [.d .i64 k,ofL n,v1, .e]:=⟨_,by rw[bc,bw];simp[XZ];rfl⟩
 have bd:Sa.A p6= .none:=by rw[bw];exact nx0 ga.D bb 0
 rw[<-bc,<-bw];clear bc;refine⟨Ja4 (JU (v:= .m x0 0 0 1 0) (w:= .g p3 0) (q:=p3) ?_ ?_ rfl fun e=>ag (by injection e with e;exact e.symm)) (JU (v:= .m x0 0 0 1 0) (w:= .g p3 1) (q:=p3) ?_ ?_ rfl fun e=>ag (by injection e with e;exact e.symm)), ?_⟩
 ·simp[XZ]
 ·simp[XZ]
 ·simp[XZ]
 ·simp[XZ]
 have cn:Gr st S2:=ga.A G2;have bx:st.A p6= .none:=ga.I bd;have bo:∀r,rowOf v1=some r->Sa.A r≠ .none:=fun r e=>ah.A e;have db:∀r,rowOf v1=some r->r≠p3/\r≠p6:=fun r e=>⟨fun x=>(by
  subst x;rcases bn with h|h
  ·rw[h]at e;injection e with e;exact ag e.symm
  ·rw[h]at e;injection e with e;have:=J6 G1.D;rw[e,G1.B r3]at this;cases this),fun x=>bo r e (by rw[x];exact bd)⟩
 have dc:p3≠p6:=fun x=>by rw[<-x,bv]at bd;cases bd
 have ow:∀r,st.A r= .none->S2.A r≠ .none->S2.A r≠ .none/\¬Bt P lv tv O r:=fun r e a=>⟨a,fun x=>hR.A r x e⟩
 have bz:=G2.B bv;have M0:Mid5 Y st S2 P p3 p6 lv tv lv tv af O O tb.a aa [.d .i64 k,ofL n,nv,kv] [.d .i64 k,ofL n] v1 .e ns []:=
  { c:=hR.G cn,f:=Kz.J (fun r e=>(hR.o r e).1) cn,s:=⟨_,bz⟩,u:=⟨_,r6⟩,l:=(ah.G G2).J cj,m:=SlF.I _ _ _,B:=fun r e=>e.elim (fun e=> .inr (ah.H e).1) (fun e=>nomatch e),j:=fun r e=>(nomatch e),v:=db,z:=dc,H:=ch,I:=bx,d:=fun r e=>by
      rcases e with rfl|rfl|e|e
      ·exact ow _ ch (Jb bz)
      ·exact ow _ bx (Jb r6)
      ·exact ow _ (ah.H e).1 ((ah.G G2).A e)
      ·cases e}
 obtain⟨q0,q1,q2,q3,q4,q5,q6,q7,q8,rfl⟩:=bq;clear bn ar ck bu r1 ba ag o3 aq a7 bb cl cm ow bz bo r6 bv t6 t1;have kx:∀{S:St} {Q N b0 O' nd tr},RT Y S P Q N b0 O' nd tr->∀{E:List V} {T:Ty},TyC (fun r=>Y.A r≠ .none) st E T->TyC (fun r=>Y.A r≠ .none) S E T:=fun{_ _ _ _ _ _ _} R {_ _} h=>TyC.A h fun q p _=>⟨p,by rw[R.g.d q p,hR.g.d q p]⟩
 obtain⟨F,hF⟩:∃F:Fr->St->Prop,∀fr S,F fr S<->∃(Q N b7:V) (O':Pt->Prop) (tr:List Ty),fr 0= .g P 0/\fr 3= .g p3 0/\fr 6= .g p6 0/\
   Mid5 Y st S P p3 p6 lv tv Q N [q0,q1,q2,q3,q4,q5,q6,q7,q8] O O' (JA Z (left-1) tb).1.a tr [.d .i64 k,ofL n,nv,kv] [.d .i64 k,ofL n] v1 b7 ns (JA Z (left-1) tb).2.1/\Qd (JA Z (left-1) tb).1.a tr:=⟨_,fun _ _=>Iff.rfl⟩
 refine Yf F ?_ ?_
 ·rw[Ja];simp[XY];obtain⟨L,hL⟩:∃L:Nat->Fr->St->Prop,∀j fr S,L j fr S<->∃(i:Nat) (Q N b7:V) (O':Pt->Prop) (tr:List Ty) (ae:Tb) (li:Int) (U:List Nat),j+i=Z.length/\fr 0= .g P 0/\fr 3= .g p3 0/\fr 6= .g p6 0/\fr 7= .d .i64 i/\
   Mid5 Y st S P p3 p6 lv tv Q N [q0,q1,q2,q3,q4,q5,q6,q7,q8] O O' ae.a tr [.d .i64 k,ofL n,nv,kv] [.d .i64 k,ofL n] v1 b7 ns U/\Qd ae.a tr/\
   (JA (Z.drop i) li ae).2.2.1=0/\(JA Z (left-1) tb).1=(JA (Z.drop i) li ae).1/\(JA Z (left-1) tb).2.1=U++(JA (Z.drop i) li ae).2.1/\U.length=i:=⟨_,fun _ _ _=>Iff.rfl⟩
  refine JD L Z.length (by omega) ((hL _ _ _).2 ⟨0,lv,tv, .e,O,aa,tb,left-1,[],by omega,rfl,rfl,rfl,by simp[XZ]<;>rfl,M0,hI,ao,rfl,rfl,rfl⟩) ?_;intro j fr S b8;obtain⟨i,Q,N,kw,O',tr,ae,li,U,hj,f0,f3,f6,f7,M,T,e0,e1,e2,e3⟩:=(hL _ _ _).1 b8;obtain⟨t3,m3⟩:=M.s;obtain⟨t6,m6⟩:=M.u;simp at m6;by_cases hi:i<Z.length
  ·have aj:=wiN (i:=i) (by omega);have dd:LstAt (TyC (fun r=>Y.A r≠ .none) S) (fun r=>Y.A r≠ .none) S kv 4 Z:=⟨es,x2.D fun r p _=>⟨p,by rw[M.c.g.d r p,hR.g.d r p]⟩,x3,fun i a b=>kx M.c (x4 i a b)⟩
   obtain⟨q,qo,E,a1,a2,a3,a4,hE,e4,a5⟩:=dd.A hi;rw[Xc hi]at e0 e1 e2;obtain⟨s1,s2,s3,s4⟩:=JpF e0;rw[s3]at e1;rw[s4]at e2;simp[XZ,f0,f3,f7,m3,len2,hi,a1,a4];refine Je (ih Z[i] (by have:=Yv (k:=k) (n:=n) (ns:=ns) hi;omega) M.c T hE s1 ⟨_,_,_,_,_,_,_,_,_,rfl⟩) ?_;rintro _ S3 ⟨de,df,O2,dg,R2,T2,K2,rfl⟩;have M2:=M.A R2 K2;obtain⟨u6,be⟩:=M2.u;simp at be;obtain⟨id,hid⟩:∃id,id=(addT Z[i] li ae).2.1:=⟨_,rfl⟩
   rw[<-hid]at e2⊢;have w3:=R2.g.D;obtain⟨n3,ag⟩:=nxE S3;simp[XZ,f6,be,ag];have gn:Gr S3 (S3.B fun t=> .a t [.d .i64 id]):=Gr.G w3 (Jc _);have au:SlAt (fun r=>r=up 0 n3) (S3.B fun t=> .a t [.d .i64 id]) (.m (up 0 n3) 0 1 1 1) 1 [[.d .i64 id]]:=by
    have:=QE (st:=S3) (z:=1) (e:=[.d .i64 id]) rfl
    rwa [ag]at this
   have M3:=M2.G gn;refine Yc (S0:=Y) M3.c.g M3.m au (fun e he=>by rw[Xj.1 he];rfl) (by simp) (by simp) (by rw[JP];simp;omega) ?_;intro S4 v4 g4 h4 dh co;have b9:S4.A p6= .a u6 [.d .i64 k,ofL n,v1,kw]:=(co p6 (Jb (gn.B be)) fun e=>(M3.j _ e).2.1 rfl).trans (gn.B be);have di:=h4.D.B;have dj:=h4.D.A;simp[XZ,f6,f7,b9,di,dj,aj];refine⟨Z.length-(i+1),by omega,(hL _ _ _).2 ⟨i+1,de,df,v4,O2,dg,(addT Z[i] li ae).1,(addT Z[i] li ae).2.2.2,U++[id],by omega,f0,f3,f6,rfl, ?_,T2,s2,e1,by rw[e2];simp,by simp[e3]⟩⟩;refine M3.D (S1:=S4) (by unfold ints at h4⊢;simpa using h4) dh co (fun r e=>by simp[JQ,e]) ⟨_,by simp[XZ];rfl⟩ (g4.J ?_ (Jb b9) (by rw[b9];rfl) (Jc _));exact cj _ bx
  ·rw[Xm (by omega),Qm]at e1 e2;simp[XZ,f3,f7,m3,len2,hi];refine(hF _ _).2 ⟨Q,N,kw,O',tr,f0,f3,f6, ?_⟩;rw[e1,e2,ZL];exact⟨M,T⟩
 clear M0 hI;intro fr S bf;obtain⟨Q,N,kw,O',tr,f0,f3,f6,M,T⟩:=(hF _ _).1 bf;obtain⟨_,_,bg,_⟩:=qi Z ao;generalize hA:JA Z (left-1) tb=A at ao az a0 a6 M T bg;obtain⟨K,U,eA,lA⟩:=A;simp at ao az a0 a6 M T bg;clear hF bf F ao hA;rw[a0,a6];clear a0 a6 he;have ab:layS K ⟨k,n,ns,U⟩=match idx ⟨k,n,ns,U⟩ K.a 0 with
  |some i=>(K,i,0)
  |none=>if 120<=K.a.length then(K,0,20)else({K with a:=K.a++[⟨k,n,ns,U⟩]},K.a.length,0):=rfl
 have bp:Ki K.a (.mk k n ns Z)=idx ⟨k,n,ns,U⟩ K.a 0:=by rw[Ki,bg]
 obtain⟨t3,m3⟩:=M.s;obtain⟨t6,m6⟩:=M.u;simp at m6;obtain⟨tc,rc⟩:=M.c.d;obtain⟨av,l1,l2,l3⟩:=M.c.l;obtain⟨W,u1,u2,u3⟩:=M.c.t;have ll:=l1.D.G;have lt:=u1.D.G;have bh:=kx M.c hx;obtain⟨F,hF⟩:=opE fun fr S'=>fr 0= .g P 0/\fr 3= .g p3 0/\fr 6= .g p6 0/\Gr S S'/\idx ⟨k,n,ns,U⟩ K.a 0=none;refine Yf F ?_ ?_
 ·rw[Ja];simp[XY];obtain⟨L,hL⟩:=loE fun j fr S'=>∃(i:Nat),j+i=tr.length/\fr 0= .g P 0/\fr 3= .g p3 0/\fr 6= .g p6 0/\fr 10= .d .i64 i/\Gr S S'/\∀q (a:q<tr.length),q<i->tr[q]≠ .mk k n ns Z;have d3:tr.length<1000000:=by
   have:=T.a;have:=T.c;omega
  refine JD L tr.length (by omega) ((hL _ _ _).2 ⟨0,by omega,f0,f3,f6,by simp[XZ]<;>rfl,Gr.F M.c.g.D,fun q _ h=>absurd h (XH _)⟩) ?_;clear f0 f3 f6;intro j fr S' b8;obtain⟨i,hj,f0,f3,f6,bi,g,cp⟩:=(hL _ _ _).1 b8;have cq:=g.B rc;have dk:=g.B m3;by_cases hi:i<tr.length
  ·have ca:(i:Int)<W.length:=by omega
   have aj:=wiN (i:=i) (by omega);have cb:LstAt (TyC (fun r=>Y.A r≠ .none) S') (fun r=>Y.A r= .none) S' N 4 tr:=⟨W,(u1.G g).D,u2,fun i a b=>(u3 i a b).H g⟩
   obtain⟨q,qo,E,a1,a2,a3,a4,hE,e4,a5⟩:=cb.A hi;simp[XZ,f0,f3,bi,cq,dk,lt,ca,a1,a4];have ft:=T.d _ (Xh hi);refine Ji (JsH _ tr[i] (.mk k n ns Z) (XO _) ft ap (Jq g.D _) (hE.I _) ((bh.H g).I _)) ?_;rintro _ S2 g2 ⟨b,rfl,hb⟩
   cases b with
   | true=>
     have e:=hb.1 rfl;rw[T.D hi,bp]at e;have e2:layS K ⟨k,n,ns,U⟩=(K,i,0):=by rw[ab,e]
     simp[XZ,bi];rw[e2];exact⟨Q,N,O',tr,M.c.G (g.A g2),T,(M.G (g.A g2)).f,rfl⟩
   | false=>
     simp[XZ,bi,aj];exact⟨tr.length-(i+1),by omega,(hL _ _ _).2 ⟨i+1,by omega,f0,f3,f6,rfl,g.A g2,fun q a h=>by
      by_cases x:q=i
      ·subst x;exact fun e=>(by cases hb.2 e)
      ·exact cp q a (by omega)⟩⟩
  ·have ca:¬(i:Int)<W.length:=by omega
   simp[XZ,f0,bi,cq,lt,ca];refine(hF _ _).2 ⟨f0,f3,f6,g, ?_⟩
   cases e:idx ⟨k,n,ns,U⟩ K.a 0 with
   |none=>rfl
   | some q=>
     obtain⟨_,b⟩:=jG e;have hq:q<tr.length:=by
      rw[T.a];exact(Xx.1 b).1
     exact absurd ((T.D hq).2 (bp.trans e)) (cp q hq (by omega))
 clear f0 f3 f6;intro fr S' bf;obtain⟨f0,f3,f6,g,cr⟩:=(hF _ _).1 bf;obtain⟨cs,cb⟩:K.a.length<120/\layS K ⟨k,n,ns,U⟩=({K with a:=K.a++[⟨k,n,ns,U⟩]},K.a.length,0):=by
  rw[cr]at ab;by_cases c:120<=K.a.length
  ·rw[Xe c]at ab;rw[ab]at az;cases az
  ·rw[Xa c]at ab;exact⟨by omega,ab⟩
 rw[cb];have M:=M.G g;have rc:=g.B rc;have m3:=g.B m3;have m6:=g.B m6;have l1:=l1.G g;have u1:=u1.G g;have bh:=bh.H g;have l3:∀i (a:i<av.length) (b:i<K.a.length),NdC O' S' av[i] K.a[i]:=fun i a b=>(l3 i a b).B g;have u3:∀i (a:i<W.length) (b:i<tr.length),TyC (fun r=>Y.A r≠ .none) S' W[i] tr[i]:=fun i a b=>(u3 i a b).H g;have ct:¬(120:Int)<=av.length:=by omega
 have s1:=M.l.D.B;have s2:=M.m.D.B;have s3:=M.l.D.A;have s4:=M.m.D.A;rw[Jd,Ja];simp[XY,f0,rc,ll,ct];obtain⟨nS,cc⟩:=nxE S';rw[Ja];simp[XY,f0,f6,rc,m6,cc,s1,s2];obtain⟨A5,bj⟩:=exE (S'.B fun t=> .a t [.d .i64 k,ofL n,v1,kw]);have ai:Gr S' A5:=by rw[bj];exact Gr.G M.c.g.D (Jc _)
 have au:SlAt (fun r=>r=up 0 nS) A5 (.m (up 0 nS) 0 1 4 1) 4 [[.d .i64 k,ofL n,v1,kw]]:=by
  have:=QE (st:=S') (z:=4) (e:=[.d .i64 k,ofL n,v1,kw]) rfl
  rwa [cc,<-bj]at this
 rw[<-bj];clear bj cc;have d4:=M.c.A;have cd:=fun r (e:S'.A r≠ .none)=>(ai.d r e▸e:A5.A r≠ .none)
 have dl:okC [[V.d .i64 k,ofL n,v1,kw]]:=fun e he=>by rw[Xj.1 he];simp only[Kc,ZG,Hk,s1,s2];rfl
 refine Jto (Jrp (R:=fun v' S=>Gr Y S/\SlF Y S v' 4 (av++[[.d .i64 k,ofL n,v1,kw]])/\rowOf v'=some A5.b/\∀p,A5.A p≠ .none->rowOf Q≠some p->S.A p=A5.A p) ai.D (Yc (S0:=Y) (M.c.g.A ai) (l1.G ai) au dl (by simp) (by simp) (by simp;omega) fun S' v' a b c d=>⟨a,b,c,d⟩)) ?_;rintro v5 A6 ⟨⟨g6,h5,dm,cu⟩,dn⟩;have ce:A6.A P= .a tc [Q,N,q0,q1,q2,q3,q4,q5,q6,q7,q8]:=(cu P (cd _ (Jb rc)) fun e=>(M.c.f P e).2 rfl).trans (ai.B rc);have s5:=h5.D.B;have s6:=h5.D.A;have dp:=h5.D.G;simp[XY,ce,s5,s6];obtain⟨A7,aw⟩:=exE (A6.D P tc fun u=> .a u [v5,N,q0,q1,q2,q3,q4,q5,q6,q7,q8]);have g7:Gr Y A7:=by rw[aw];exact g6.J M.c.m (Jb ce) (by rw[ce];rfl) (Jc _)
 have am:∃t,A7.A P= .a t [v5,N,q0,q1,q2,q3,q4,q5,q6,q7,q8]:=⟨_,by rw[aw];simp[XZ];rfl⟩
 have cf:∀r,r≠P->A7.A r=A6.A r:=fun r e=>by rw[aw];simp[JQ,e]
 rw[<-aw];clear aw;obtain⟨t7,am⟩:=am;have bk:∀r,S'.A r≠ .none->r≠P->rowOf Q≠some r->A7.A r=S'.A r:=fun r e a b=>by rw[cf r a,cu r (cd r e) b,ai.d r e]
 have o3:=M.d p3 (.inl rfl);have dq:=(bk p3 (Jb m3) (fun x=>o3.2 (.inl x)) fun x=>o3.2 (.inr (.inl x))).trans m3;have cv:SlF Y A7 N 4 W:=u1.B fun r e=>bk r (u1.A e) (M.c.j r e) fun x=>(M.c.f r x).1 e;have d5:∀r,rowOf v5=some r->S'.A r= .none:=fun r e=>by
  rw[dm]at e;injection e with e;exact ai.I (e▸J6 ai.D)
 have bl:SlF Y A7 v5 4 (av++[[.d .i64 k,ofL n,v1,kw]]):=h5.B fun r e=>cf r fun x=>Jb rc (x▸d5 r e);obtain⟨nB,cg⟩:=nxE A7;have dr:=cv.D.G;rw[Ja];simp[XY,f0,f3,am,dq,dr,cg];obtain⟨A8,bm⟩:=exE (A7.B fun t=> .a t [.d .i64 0,ofL [], .e, .e]);have ak:Gr A7 A8:=by rw[bm];exact Gr.G g7.D (Jc _)
 have cw:SlAt (fun r=>r=up 0 nB) A8 (.m (up 0 nB) 0 1 4 1) 4 [[.d .i64 0,ofL [], .e, .e]]:=by
  have:=QE (st:=A7) (z:=4) (e:=[.d .i64 0,ofL [], .e, .e]) rfl
  rwa [cg,<-bm]at this
 rw[<-bm];clear bm cg;have ds:okC [[V.d .i64 0,ofL [], .e, .e]]:=fun e he=>by rw[Xj.1 he];rfl
 refine Yc (S0:=Y) (g7.A ak) (cv.G ak) cw ds (by simp) (by simp) (by have:=T.c;have:=T.a;simp;omega) ?_;intro A9 v9 g9 h9 dt cx;have du:∀x,rowOf N=some x->x≠P:=M.c.j;have cy:A9.A P= .a t7 [v5,N,q0,q1,q2,q3,q4,q5,q6,q7,q8]:=(cx P (Jb (ak.B am)) fun e=>du _ e rfl).trans (ak.B am);have s7:=h9.D.B;have s8:=h9.D.A;obtain⟨r9,t9,b1,b2,b3,b4,b5,b6⟩:=Jie h9 (k:=W.length) (by simp);have dv:A8.A r9= .none:=by
  rw[dt]at b1;injection b1 with b1;exact b1▸J6 ak.D
 have d9:A7.A r9= .none:=ak.I dv;have ad:r9≠P:=fun e=>by rw[e,am]at d9;cases d9
 have e9:∀r,rowOf v9=some r->S'.A r= .none:=fun r e=>by
  rw[b1]at e;injection e with e;refine Xd fun x=> ?_;have a:=dn r (cd r x);by_cases y:r=P
  ·exact ad (e.trans y)
  ·rw[<-cf r y,<-e]at a;exact a d9
 have cz:=nes ad;simp only[XM,simprocAttr,f0,cy,s7,s8,b4,b3,cz];refine⟨⟨by rw[Jp h9.1];simp;omega,by rw[c2,c4];rfl⟩,Ja4 (JU (v:= .g r9 (W.length*4)) (w:= .g P 1) (q:=P) ?_ ?_ rfl fun e=>ad (by injection e)) (JU (v:= .g P 1) (w:= .g r9 (W.length*4)) (q:=r9) ?_ ?_ rfl fun e=>ad (by injection e with e;exact e.symm)), ?_⟩
 ·simp[XZ]
 ·simp[XZ]
 ·simp[XZ]
 ·simp[XZ]
 have dw:Jw [v5,N,q0,q1,q2,q3,q4,q5,q6,q7,q8] 1 [v9]=[v5,v9,q0,q1,q2,q3,q4,q5,q6,q7,q8]:=rfl;rw[dw];obtain⟨Aa,ax⟩:=exE (A9.D r9 t9 fun u=> .a u (Jw (W++[[V.d .i64 0,ofL [],V.e,V.e]]).flatten (W.length*4) [V.d .i64 k,ofL n,nv,kv]));rw[<-ax];have ga:Gr Y Aa:=by rw[ax];exact g9.J b2 (Jb b3) (by rw[b3];rfl) (Jc _)
 have ra:∃t,Aa.A r9= .a t (Jw (W++[[V.d .i64 0,ofL [],V.e,V.e]]).flatten (W.length*4) [V.d .i64 k,ofL n,nv,kv]):=⟨_,by rw[ax];simp[XM];rfl⟩
 have ka:∀r,r≠r9->Aa.A r=A9.A r:=fun r e=>by rw[ax];simp[JQ,e]
 clear ax;have c0:Aa.A P= .a t7 [v5,N,q0,q1,q2,q3,q4,q5,q6,q7,q8]:=(ka P fun e=>ad e.symm).trans cy;obtain⟨Ab,ay⟩:=exE (Aa.D P t7 fun u=> .a u [v5,v9,q0,q1,q2,q3,q4,q5,q6,q7,q8]);have dx:Gr Y Ab:=by rw[ay];exact ga.J M.c.m (Jb c0) (by rw[c0];rfl) (Jc _)
 have rb:∃t,Ab.A P= .a t [v5,v9,q0,q1,q2,q3,q4,q5,q6,q7,q8]:=⟨_,by rw[ay];simp[XZ];rfl⟩
 have kb:∀r,r≠P->Ab.A r=Aa.A r:=fun r e=>by rw[ay];simp[JQ,e]
 rw[<-ay];clear ay;have c5:J8 v5=some (.d .i64 ((K.a.length+1:Nat):Int), .a):=by rw[dp,XW,l2];rfl
 have c6:IntKind.i64.wrap (((K.a.length+1:Nat):Int)-1)=(K.a.length:Int):=by rw[JX (by omega) (by omega)];omega
 have c7:∀r,r≠P->r≠r9->A7.A r≠ .none->rowOf N≠some r->Ab.A r=A7.A r:=fun r a b c d=>by
  have c8:=(ak.d r c)
  rw[kb r a,ka r b,cx r (by rw[c8];exact c) d,c8]
 obtain⟨dy,rb⟩:=rb;obtain⟨dz,ra⟩:=ra;have c9:=M.F (n:=n) (k:=k) (S':=Ab) (X:= .mk k n ns Z) (E:=[.d .i64 k,ofL n,nv,kv]) dx ⟨dy,rb⟩ l2 l3
  (bl.B fun r e=>c7 r (fun x=>Jb rc (x▸d5 r e)) (fun x=>bl.A e (x▸d9)) (bl.A e) fun x=>u1.A x (d5 r e)) u2 u3
  (by
   have:=b6 Ab dz 0 [.d .i64 k,ofL n,nv,kv] (by simp) (by rw[kb r9 ad];exact ra);rw[List.set_append_right _ _ (Xb _)]at this;simpa[JK]using this) bh d5 e9
  (fun r e x=>by
   rw[b1]at x;injection x with x;exact bl.A e (x▸d9))
  (fun p e a b c=>by rw[c7 p a (fun x=>by
   have:=e9 p (by rw[b1,x]);exact e this) (by rw[bk p e a b];exact e) c,bk p e a b])
 simp only[XZ,simprocAttr,c5,c6];exact⟨v5,v9,_,tr++[.mk k n ns Z],c9.1,T.A bg cr ap cs,c9.2⟩
theorem JsI (mm:Nat):∀(X:Ty),tsz X<mm->∀{Sb P:St} {ru:Pt} {lv tv:V} {ad:List V} {O:Pt->Prop} {tb:Tb} {N:List Ty} {e:List V} {left:Int},RT Sb P ru lv tv ad O tb.a N->Qd tb.a N->TyC (fun r=>Sb.A r≠ .none) P e X->(addT X left tb).2.2.1≠0->fitT X=true->(Q1 X:Int)<=left->(∃r0 r1 r2 r3 r4 r5 r6 r7 r8,ad=[r0,r1,r2,r3,r4,r5,r6,r7,r8])->
  Dz 39 [.g ru 0, .j e] P fun v S=>Gr Sb S/\Kz O (fun _=>True) (Bt ru lv tv O) (fun _=>False) P S/\v= .p [.d .i64 0, .d .i64 20]:=by
 induction mm with
 |zero=>intro X h;exact absurd h (XH _)
 |succ mm ih=>
 intro X hX Sb P ru lv tv ad O tb N e left hR hI hx he af bd aw;obtain⟨k,n,ns,Q⟩:=X;rw[JnF af bd]at he;obtain⟨ch,cj,br⟩:=Jaa af;rw[Q1]at bd;refine Jl (aT Tryz.func39 rfl) rfl ?_;have hw:=hR.g.D;obtain⟨n0,ak⟩:=nxE P;obtain⟨nv,kv,es,rfl,x1,x2,x3,x4⟩:=hx.D;have c1:=x1.A;have c2:=x1.B;have c3:=x2.A;have c4:=x2.B;have len2:=x2.G;rw[x3]at len2;obtain⟨Y,ax⟩:=exE (up 0 n0);simp only[CT,Tryz.f39,XY,simprocAttr];rw[Ja];simp[XY,ak,c2,c4];rw[<-ax];obtain⟨S0,al⟩:=exE (P.B fun t=> .a t [.d .i64 k,ofL n,nv,kv]);have G0:Gr P S0:=by rw[al];exact Gr.G hw (Jc _)
 obtain⟨t3,r3⟩:∃t,S0.A Y= .a t [.d .i64 k,ofL n,nv,kv]:=⟨_,by rw[al,ax];simp[XZ,ak];rfl⟩
 have bt:P.A Y= .none:=by rw[ax];exact nx0 hw ak 0
 rw[<-al];clear al;have w0:=G0.D;obtain⟨n1,ag⟩:=nxE S0;have o3:=fun k=>nes (Jt w0 ag (Jb r3) k);rw[Ja];simp[XY,r3,ag,o3];obtain⟨x0,ay⟩:=exE (up 0 n1);obtain⟨S1,am⟩:=exE (S0.B fun t=>Row.a t []);have G1:Gr S0 S1:=by rw[am];exact Gr.G w0 (Jc _)
 obtain⟨t1,r1⟩:∃t,S1.A x0= .a t []:=⟨_,by rw[am,ay];simp[XZ,ag];rfl⟩
 have be:S0.A x0= .none:=by rw[ay];exact nx0 w0 ag 0
 rw[<-am,<-ay];clear am;have ae:Y≠x0:=fun e=>by grind
 have bu:∀r,S0.A r= .none->P.A r= .none:=fun r e=>G0.I e;have bv:∀r,P.A r= .none->Sb.A r= .none:=fun r e=>hR.g.I e;have bf:SlF P S1 (.m x0 0 0 1 0) 1 []:=⟨by simp, .inr ⟨x0,t1,bu _ be,by grind, .inr rfl⟩⟩
 have az:=G0.A G1;refine Qj (S0:=P) az bf (x1.I az) (Ya _) (by rw[Jv];omega) (by rw[Jv];grind) fun Sa v1 ga Z au ah=> ?_;simp at Z;have bg:Sa.A Y= .a t3 [.d .i64 k,ofL n,nv,kv]:=(ah Y (Jb (G1.B r3)) fun e=>ae (by injection e with e;grind)).trans (G1.B r3);have bh:=Z.D.B;have bi:=Z.D.A;obtain⟨nA,ao⟩:=nxE Sa;simp[XY,ao,bh,bi];obtain⟨p6,a0⟩:=exE (up 0 nA);obtain⟨S2,ap⟩:=exE ((Sa.B fun t=> .a t [.d .i64 0,ofL [], .e, .e]).D (up 0 nA) Sa.t fun u=> .a u [.d .i64 k,ofL n,v1, .e]);have G2:Gr Sa S2:=by rw[ap];exact(Gr.F ga.D).M ao (Jc _) (Jc _)
 obtain⟨t6,r6⟩:∃t,S2.A p6= .a t [.d .i64 k,ofL n,v1, .e]:=⟨_,by rw[ap,a0];simp[XZ];rfl⟩
 have bw:Sa.A p6= .none:=by rw[a0];exact nx0 ga.D ao 0
 rw[<-ap,<-a0];clear ap;refine⟨Ja4 (JU (v:= .m x0 0 0 1 0) (w:= .g Y 0) (q:=Y) ?_ ?_ rfl fun e=>ae (by injection e with e;grind)) (JU (v:= .m x0 0 0 1 0) (w:= .g Y 1) (q:=Y) ?_ ?_ rfl fun e=>ae (by injection e with e;grind)), ?_⟩
 ·rfl
 ·rfl
 ·rfl
 ·rfl
 have bj:Gr P S2:=ga.A G2;have bx:P.A p6= .none:=ga.I bw;have av:∀r,rowOf v1=some r->Sa.A r≠ .none:=fun r e=>Z.A e;have bz:∀r,rowOf v1=some r->r≠Y/\r≠p6:=fun r e=>⟨fun x=>(by
  subst x;rcases au with h|h
  ·rw[h]at e;injection e with e;grind
  ·rw[h]at e;injection e with e;have:=J6 G1.D;rw[e,G1.B r3]at this;grind),fun x=>av r e (by grind)⟩
 have b0:Y≠p6:=fun x=>by grind
 have ow:∀r,P.A r= .none->S2.A r≠ .none->S2.A r≠ .none/\¬Bt ru lv tv O r:=fun r e a=>⟨a,fun x=>hR.A r x e⟩
 have bk:=G2.B bg;have M0:Mid5 Sb P S2 ru Y p6 lv tv lv tv ad O O tb.a N [.d .i64 k,ofL n,nv,kv] [.d .i64 k,ofL n] v1 .e ns []:=
  { c:=hR.G bj,f:=Kz.J (fun r e=>(hR.o r e).1) bj,s:=⟨_,bk⟩,u:=⟨_,r6⟩,l:=(Z.G G2).J bv,m:=SlF.I _ _ _,B:=fun r e=>e.elim (fun e=> .inr (Z.H e).1) (fun e=>nomatch e),j:=fun r e=>(nomatch e),v:=bz,z:=b0,H:=bt,I:=bx,d:=fun r e=>by
      rcases e with rfl|rfl|e|e
      ·grind
      ·grind
      ·exact ow _ (Z.H e).1 ((Z.G G2).A e)
      ·cases e}
 obtain⟨q0,q1,q2,q3,q4,q5,q6,q7,q8,rfl⟩:=aw;clear au ah bf az r1 be ae o3 ag ak ao bh bi ow bk av r6 bg t6 t1;have kx:∀{S:St} {aa U a6 O' nd tr},RT Sb S ru aa U a6 O' nd tr->∀{E:List V} {T:Ty},TyC (fun r=>Sb.A r≠ .none) P E T->TyC (fun r=>Sb.A r≠ .none) S E T:=fun{_ _ _ _ _ _ _} R {_ _} h=>TyC.A h fun q p _=>⟨p,by rw[R.g.d q p,hR.g.d q p]⟩
 obtain⟨F,hF⟩:=opE fun W S=>∃(aa U a7:V) (O':Pt->Prop) (tr:List Ty) (y:Tb) (K:List Nat),W 0= .g ru 0/\W 3= .g Y 0/\W 6= .g p6 0/\
   Mid5 Sb P S ru Y p6 lv tv aa U [q0,q1,q2,q3,q4,q5,q6,q7,q8] O O' y.a tr [.d .i64 k,ofL n,nv,kv] [.d .i64 k,ofL n] v1 a7 ns K/\Qd y.a tr/\JS y.a Q=some K/\idx ⟨k,n,ns,K⟩ y.a 0=none/\120<=y.a.length
 refine Yf F ?_ ?_
 ·rw[Ja];simp[XY];obtain⟨L,hL⟩:=loE fun j W S=>∃(i:Nat) (aa U a7:V) (O':Pt->Prop) (tr:List Ty) (y:Tb) (li:Int) (K:List Nat),j+i=Q.length/\W 0= .g ru 0/\W 3= .g Y 0/\W 6= .g p6 0/\W 7= .d .i64 i/\
   Mid5 Sb P S ru Y p6 lv tv aa U [q0,q1,q2,q3,q4,q5,q6,q7,q8] O O' y.a tr [.d .i64 k,ofL n,nv,kv] [.d .i64 k,ofL n] v1 a7 ns K/\Qd y.a tr/\
   Jd2 k n ns (Q.drop i) li y K≠0/\(QF (Q.drop i):Int)<=li/\JS y.a (Q.take i)=some K/\K.length=i
  refine JD L Q.length (by omega) ((hL _ _ _).2 ⟨0,lv,tv, .e,O,N,tb,left-1,[],by omega,rfl,rfl,rfl,by rfl,M0,hI,he,(by grind),rfl,rfl⟩) ?_;intro j W S a8;obtain⟨i,aa,U,kw,O',tr,y,li,K,hj,f0,f3,f6,f7,M,T,e0,e1,e2,e3⟩:=(hL _ _ _).1 a8;obtain⟨t3,m3⟩:=M.s;obtain⟨t6,m6⟩:=M.u;simp at m6;by_cases hi:i<Q.length
  ·have ab:=wiN (i:=i) (by omega);have b1:LstAt (TyC (fun r=>Sb.A r≠ .none) S) (fun r=>Sb.A r≠ .none) S kv 4 Q:=⟨es,x2.D fun r p _=>⟨p,by rw[M.c.g.d r p,hR.g.d r p]⟩,x3,fun i a b=>kx M.c (x4 i a b)⟩
   obtain⟨q,qo,E,a1,a2,a3,a4,hE,e4,a5⟩:=b1.A hi;rw[Xc hi]at e0 e1;rw[QF]at e1
   push_cast at e1
   by_cases ai:(addT Q[i] li y).2.2.1=0;rotate_left
   ·have b2:tsz Q[i]<mm:=by have:=Yv (k:=k) (n:=n) (ns:=ns) hi;omega
    simp[XZ,f0,f3,f7,m3,len2,hi,a1,a4];refine Je (ih Q[i] b2 M.c T hE ai (qx br i hi) (by omega) ⟨_,_,_,_,_,_,_,_,_,rfl⟩) ?_;rintro _ S3 ⟨g3,k3,rfl⟩;simp[XZ];exact⟨g3,M.f.I k3⟩
   rw[Jlh ai]at e0;obtain⟨_,_,aj,b3⟩:=Yz Q[i] ai;simp[XZ,f0,f3,f7,m3,len2,hi,a1,a4];refine Je (Jqg _ Q[i] (XO _) M.c T hE ai ⟨_,_,_,_,_,_,_,_,_,rfl⟩) ?_;rintro _ S3 ⟨b4,b5,O2,b6,R2,T2,K2,rfl⟩;have M2:=M.A R2 K2;obtain⟨u6,aq⟩:=M2.u;simp at aq;obtain⟨id,hid⟩:∃id,id=(addT Q[i] li y).2.1:=⟨_,rfl⟩
   rw[<-hid]at e0 aj⊢;have w3:=R2.g.D;obtain⟨n3,ae⟩:=nxE S3;simp[XZ,f6,aq,ae];have gn:Gr S3 (S3.B fun t=> .a t [.d .i64 id]):=Gr.G w3 (Jc _);have bl:SlAt (fun r=>r=up 0 n3) (S3.B fun t=> .a t [.d .i64 id]) (.m (up 0 n3) 0 1 1 1) 1 [[.d .i64 id]]:=by
    have:=QE (st:=S3) (z:=1) (e:=[.d .i64 id]) rfl
    grind
   have M3:=M2.G gn;refine Yc (S0:=Sb) M3.c.g M3.m bl (fun e he=>by rw[Xj.1 he];rfl) (by simp) (by simp) (by rw[JP];grind) ?_;intro S4 v4 g4 h4 b7 bm;have a9:S4.A p6= .a u6 [.d .i64 k,ofL n,v1,kw]:=(bm p6 (Jb (gn.B aq)) fun e=>(M3.j _ e).2.1 rfl).trans (gn.B aq);have b8:=h4.D.B;have b9:=h4.D.A;simp[XZ,f6,f7,a9,b8,b9,ab];refine⟨Q.length-(i+1),by omega,(hL _ _ _).2 ⟨i+1,b4,b5,v4,O2,b6,(addT Q[i] li y).1,(addT Q[i] li y).2.2.2,K++[id],by omega,f0,f3,f6,rfl, ?_,T2,e0,by omega, ?_,by simp[e3]⟩⟩
   ·refine M3.D (S1:=S4) (by unfold ints at h4⊢;grind) b7 bm (fun r e=>by simp[JQ,e]) ⟨_,by simp[XZ];rfl⟩ (g4.J ?_ (Jb a9) (by rw[a9];rfl) (Jc _))
    grind
   ·rw[Zy,Xg hi];obtain⟨r,hr,_⟩:=Yz Q[i] ai;exact JfG aj (by rw[hr];exact kZ _ e2)
  ·rw[Xm (by omega)]at e0;rw[Xt (by omega)]at e2;obtain⟨h1,h2⟩:=Jli e0;simp[XZ,f3,f7,m3,len2,hi];exact(hF _ _).2 ⟨aa,U,kw,O',tr,y,K,f0,f3,f6,M,T,e2,h1,h2⟩
 clear M0 hI;intro W S ar;obtain⟨aa,U,kw,O',tr,bn,K,f0,f3,f6,M,T,ca,cb,cg⟩:=(hF _ _).1 ar;clear hF ar F he;have bo:Ki bn.a (.mk k n ns Q)=idx ⟨k,n,ns,K⟩ bn.a 0:=by rw[Ki,ca]
 obtain⟨t3,m3⟩:=M.s;obtain⟨tc,rc⟩:=M.c.d;obtain⟨cc,l1,l2,l3⟩:=M.c.l;obtain⟨ba,u1,u2,u3⟩:=M.c.t;have ll:=l1.D.G;have lt:=u1.D.G;have cd:=kx M.c hx;obtain⟨F,hF⟩:=opE fun W S'=>W 0= .g ru 0/\Gr S S';refine Yf F ?_ ?_
 ·rw[Ja];simp[XY];obtain⟨L,hL⟩:=loE fun j W S'=>∃(i:Nat),j+i=tr.length/\W 0= .g ru 0/\W 3= .g Y 0/\W 10= .d .i64 i/\Gr S S';have ck:tr.length<1000000:=by
   have:=T.a;have:=T.c;omega
  refine JD L tr.length (by omega) ((hL _ _ _).2 ⟨0,by omega,f0,f3,by rfl,Gr.F M.c.g.D⟩) ?_;clear f0 f3 f6;intro j W S' a8;obtain⟨i,hj,f0,f3,bb,g⟩:=(hL _ _ _).1 a8;have bp:=g.B rc;have ce:=g.B m3;by_cases hi:i<tr.length
  ·have bc:(i:Int)<ba.length:=by omega
   have ab:=wiN (i:=i) (by omega);have cf:LstAt (TyC (fun r=>Sb.A r≠ .none) S') (fun r=>Sb.A r= .none) S' U 4 tr:=⟨ba,(u1.G g).D,u2,fun i a b=>(u3 i a b).H g⟩
   obtain⟨q,qo,E,a1,a2,a3,a4,hE,e4,a5⟩:=cf.A hi;simp[XZ,f0,f3,bb,bp,ce,lt,bc,a1,a4];have ft:=T.d _ (Xh hi);refine Ji (JsH _ tr[i] (.mk k n ns Q) (XO _) ft af (Jq g.D _) (hE.I _) ((cd.H g).I _)) ?_;rintro _ S2 g2 ⟨b,rfl,hb⟩
   cases b with
   | true=>
     have e:=hb.1 rfl;rw[T.D hi,bo,cb]at e
     cases e
   | false=>
     simp[XZ,bb,ab];exact⟨tr.length-(i+1),by omega,(hL _ _ _).2 ⟨i+1,by omega,f0,f3,rfl,g.A g2⟩⟩
  ·have bc:¬(i:Int)<ba.length:=by omega
   simp[XZ,f0,bb,bp,lt,bc];exact(hF _ _).2 ⟨f0,g⟩
 clear f0 f3 f6;intro W S' ar;obtain⟨f0,g⟩:=(hF _ _).1 ar;have rc:=g.B rc;have bq:(120:Int)<=cc.length:=by omega
 rw[Jd,Ja];simp[XZ,f0,rc,ll,bq];exact⟨M.c.g.A g,(M.G g).f.L⟩
theorem JrC (x:Nat)(f:x<256)(c:St):Dz 104 [.d .u8 x] c fun v a=>v= .h (digB x)/\c=a:=by
 refine Jl (aT Tryz.func104 rfl) rfl ?_;by_cases b:(48:Int)<=(x:Int)
 ·by_cases e:(x:Int)<=57
  ·simp only[CT,Tryz.f104,XZ,simprocAttr,b,e];rw[digB,Xp (by omega),Xp (by omega)];rfl
  ·simp only[CT,Tryz.f104,XZ,simprocAttr,b,e];rw[digB,Xp (by omega),Xv (by omega)];rfl
 ·simp only[CT,Tryz.f104,XZ,simprocAttr,b];rw[digB,Xv (by omega)];rfl
theorem Jkv (x:Nat)(j:x<256)(g:St):Dz 103 [.d .u8 x] g fun v f=>v= .h (letB x)/\g=f:=by
 refine Jl (aT Tryz.func103 rfl) rfl ?_;rw[<-Jrk j];unfold letR;by_cases b:(97:Int)<=(x:Int)
 ·rw[Xp (show 97<=x by omega)];by_cases i:(x:Int)<=122
  ·rw[Xp (show x<=122 by omega)];simp only[CT,Tryz.f103,XZ,simprocAttr,b,i];rfl
  ·rw[Xv (show¬x<=122 by omega),Xp (show 65<=x by omega),Xv (show¬x<=90 by omega),Xv (show¬x=95 by omega)];have c:(65:Int)<=(x:Int):=by omega
   have e:¬(x:Int)<=90:=by omega
   have a:¬(x:Int)=95:=by omega
   simp only[CT,Tryz.f103,XZ,simprocAttr,b,i,c,e,a];rfl
 ·rw[Xv (show¬97<=x by omega)];by_cases c:(65:Int)<=(x:Int)
  ·rw[Xp (show 65<=x by omega)];by_cases e:(x:Int)<=90
   ·rw[Xp (show x<=90 by omega)];simp only[CT,Tryz.f103,XZ,simprocAttr,b,c,e];rfl
   ·rw[Xv (show¬x<=90 by omega)];by_cases a:(x:Int)=95
    ·rw[Xp (show x=95 by omega)];simp only[CT,Tryz.f103,XZ,simprocAttr,a];rfl
    ·rw[Xv (show¬x=95 by omega)];simp only[CT,Tryz.f103,XZ,simprocAttr,b,c,e,a];rfl
  ·rw[Xv (show¬65<=x by omega),Xv (show¬x=95 by omega)];have a:¬(x:Int)=95:=by omega
   simp only[CT,Tryz.f103,XZ,simprocAttr,b,c,a];rfl
theorem Jnb (l:List UInt8)(q:St):Dz 59 [ofL l] q fun v s=>v= .h (Ko l)/\q=s:=by
 refine Jl (aT Tryz.func59 rfl) rfl ?_
 cases l with
 | nil=>
   simp only[CT,Tryz.f59,XZ,simprocAttr,Hb];rfl
 | cons c r=>
   obtain⟨l,f⟩:∃l,l=c::r:=⟨_,rfl⟩
   have hid:=Jrl c r;rw[<-f]at hid⊢;have g:¬(l.length:Int)=0:=by grind
   have p:JeV l 0=c.toNat:=by rw[f];rfl
   have y:(0:Int)<(l.length:Int):=by omega
   by_cases z:16<l.length
   ·have a:(16:Int)<(l.length:Int):=by omega
    simp only[CT,Tryz.f59,XZ,simprocAttr,g,a]
    grind
   have a:¬(16:Int)<(l.length:Int):=by omega
   rw[Xp (by omega)]at hid;have hid:Ko l=(letB c.toNat&&Yw l):=hid;simp only[CT,Tryz.f59,XY,simprocAttr];rw[Ja];simp[XY];rw[Jd,Ja];simp only[XY,simprocAttr,g,a,y,p];refine Je (Jkv c.toNat (ZI _) _) ?_;rintro _ _ ⟨rfl,rfl⟩
   cases w:letB c.toNat with
   | false=>
     rw[w]at hid;simp[XZ]
     grind
   | true=>
     rw[w]at hid;have hid:Ko l=Yw l:=hid;simp[XY];rw[Jd,Ja];simp[XY];refine Jo (fun j t S=>∃(i:Nat),j+i=l.length/\t 0=ofL l/\t 3= .d .i64 i/\q=S/\Yw l=Yw (l.drop i)) l.length (by omega) ⟨0,by omega,rfl,by rfl,rfl,rfl⟩ ?_;rintro I x j t S ⟨i,L,k,m,rfl,e⟩;by_cases n:i<l.length
     ·have o:(0:Int)<=(i:Int):=by omega
      have p:=JbJ (l:=l) (i:=i) n;have b:=wiN (i:=i) (by omega);have M:Yw l=(okB l[i].toNat&&Yw (l.drop (i+1))):=by rw[e,Xc n];rfl
      simp[XZ,k,m,n,o,p];refine Je (Jkv l[i].toNat (ZI _) _) ?_;rintro _ _ ⟨rfl,rfl⟩
      cases J:letB l[i].toNat with
      | true=>
        have u:okB l[i].toNat=true:=by unfold okB;grind
        simp[XZ,m,b];exact⟨l.length-(i+1),by omega,x _ _ _ ⟨i+1,by omega,k,rfl,rfl,by grind⟩⟩
      | false=>
        simp[XZ,k,m,n,o,p];refine Je (JrC l[i].toNat (ZI _) _) ?_;rintro _ _ ⟨rfl,rfl⟩;have u:okB l[i].toNat=digB l[i].toNat:=by unfold okB;grind
        cases K:digB l[i].toNat with
        | true=>
          simp[XZ,m,b];exact⟨l.length-(i+1),by omega,x _ _ _ ⟨i+1,by omega,k,rfl,rfl,by grind⟩⟩
        | false=>
          simp[XZ]
          grind
     ·simp[XZ,k,m,n];rw[hid,e,Xm (by omega)];rfl
theorem JtA (l:List UInt8)(r:St):Dz 60 [ofL l] r fun v i=>v= .h (Jfz.contains l)/\r=i:=by
 refine Jl (aT Tryz.func60 rfl) rfl ?_;by_cases j:l=[66,111,111,108]
 ·have a:(l=[66,111,111,108])=True:=Zn j;simp only[CT,Tryz.f60,XZ,simprocAttr,a];rw[j];rfl
 have a:(l=[66,111,111,108])=False:=Zi j;by_cases k:l=[73,110,116]
 ·have b:(l=[73,110,116])=True:=Zn k;simp only[CT,Tryz.f60,XZ,simprocAttr,a,b];rw[k];rfl
 have b:(l=[73,110,116])=False:=Zi k;by_cases m:l=[84,101,120,116]
 ·have c:(l=[84,101,120,116])=True:=Zn m;simp only[CT,Tryz.f60,XZ,simprocAttr,a,b,c];rw[m];rfl
 have c:(l=[84,101,120,116])=False:=Zi m;by_cases n:l=[76,105,115,116]
 ·have d:(l=[76,105,115,116])=True:=Zn n;simp only[CT,Tryz.f60,XZ,simprocAttr,a,b,c,d];rw[n];rfl
 have d:(l=[76,105,115,116])=False:=Zi n;by_cases o:l=[77,97,112]
 ·have e:(l=[77,97,112])=True:=Zn o;simp only[CT,Tryz.f60,XZ,simprocAttr,a,b,c,d,e];rw[o];rfl
 have e:(l=[77,97,112])=False:=Zi o;by_cases p:l=[79,112,116]
 ·have f:(l=[79,112,116])=True:=Zn p;simp only[CT,Tryz.f60,XZ,simprocAttr,a,b,c,d,e,f];rw[p];rfl
 have f:(l=[79,112,116])=False:=Zi p;by_cases q:l=[85,110,105,111,110]
 ·have g:(l=[85,110,105,111,110])=True:=Zn q;simp only[CT,Tryz.f60,XZ,simprocAttr,a,b,c,d,e,f,g];rw[q];rfl
 have g:(l=[85,110,105,111,110])=False:=Zi q;simp only[CT,Tryz.f60,XZ,simprocAttr,a,b,c,d,e,f,g];have:Jfz.contains l=false:=by
  cases s:Jfz.contains l with
  |false=>rfl
  | true=>
    have:=Gu.1 s;simp[Jfz,a,b,c,d,e,f,g]at this
 rw[this]
theorem Jqh (x:Nat)(f:x<256)(c:St):Dz 144 [.d .u8 x] c fun v a=>v= .h (digB x)/\c=a:=by
 refine Jl (aT Tryz.func144 rfl) rfl ?_;by_cases b:(48:Int)<=(x:Int)
 ·by_cases e:(x:Int)<=57
  ·simp only[CT,Tryz.f144,XZ,simprocAttr,b,e];rw[digB,Xp (by omega),Xp (by omega)];rfl
  ·simp only[CT,Tryz.f144,XZ,simprocAttr,b,e];rw[digB,Xp (by omega),Xv (by omega)];rfl
 ·simp only[CT,Tryz.f144,XZ,simprocAttr,b];rw[digB,Xv (by omega)];rfl
theorem JrD (x:Nat)(j:x<256)(g:St):Dz 175 [.d .u8 x] g fun v c=>v= .h (letB x)/\g=c:=by
 refine Jl (aT Tryz.func175 rfl) rfl ?_;by_cases b:x=95
 ·have a:((x:Int)=95)=True:=Zn (by omega);simp only[CT,Tryz.f175,XZ,simprocAttr,a];rw[letB,Xp b];rfl
 ·have a:¬(x:Int)=95:=by omega
  have e:=Juj x j;by_cases f:(97:Int)<=((x|||32:Nat):Int)
  ·by_cases i:((x|||32:Nat):Int)<=122
   ·simp only[CT,Tryz.f175,XZ,simprocAttr,a,e,f,i];rw[letB,Xv b,Xp (by omega),Xp (by omega)];rfl
   ·simp only[CT,Tryz.f175,XZ,simprocAttr,a,e,f,i];rw[letB,Xv b,Xp (by omega),Xv (by omega)];rfl
  ·simp only[CT,Tryz.f175,XZ,simprocAttr,a,e,f];rw[letB,Xv b,Xv (by omega)];rfl
theorem Ju0 (x:Nat)(b:x<256)(c:St):Dz 174 [.d .u8 x] c fun v a=>v= .h (okB x)/\c=a:=by
 refine Jl (aT Tryz.func174 rfl) rfl ?_;simp only[CT,Tryz.f174,XZ,simprocAttr];refine Je (JrD x b _) ?_;rintro _ _ ⟨rfl,rfl⟩
 cases h:letB x with
 | true=>
   simp[XZ];rw[okB,h];rfl
 | false=>
   simp[XZ];refine Je (Jqh x b _) ?_;rintro _ _ ⟨rfl,rfl⟩;simp[XZ];rw[okB,h];rfl
theorem JtB (l:List UInt8)(a:St)(x:WF a)(U:l.length<=100000):
  Dz 173 [ofL l, .D 174 [] []] a fun v f=>Gr a f/\v= .d .i64 (fore l):=by
 refine Jl (aT Tryz.func173 rfl) rfl ?_;simp only[CT,Tryz.f173,XM,simprocAttr,Jte,JoA];refine JD (fun k n f=>∃(p t:Nat),k+p=l.length/\(∀j (N:j<l.length),j<p->okB l[j].toNat=true)/\n 0=ofL l/\n 1= .D 174 [] []/\n 7= .g a.b 0/\f.A a.b= .e t l.length (snum l) p/\Gr a f) l.length (by omega) ?_ ?_
 ·refine⟨0,a.t,by omega,fun j _ h=>absurd h (by omega), ?_, ?_, ?_, ?_,Gr.G x fun u=>⟨rfl,fun e=>by cases e⟩⟩
  all_goals simp[XM]
  all_goals rfl
 ·rintro k n m ⟨p,t,W,o,q,y,r,s,z⟩;by_cases i:p<l.length
  ·have O:=Jk0 i;have K:∀L:Nat,Gr a (m.D a.b t fun u=>Row.e u l.length (snum l) L):=fun L=>
    z.J (J6 x) (by grind) (by rw[s];rfl) fun u=>⟨rfl,fun e=>by cases e⟩
   have P:=JbJ i;have w:(0:Int)<=(p:Int)/\(p:Int)<(l.length:Int):=by omega
   simp only[XM,simprocAttr,q,y,r,Jma,Jk1 s i,w,P];refine Je (Ju0 _ (ZI _) _) ?_;rintro _ _ ⟨rfl,rfl⟩
   cases M:okB l[p].toNat with
   | true=>
     have Q:=Jk8 i (Jnz (ZI _) M);simp only[XM,simprocAttr,q,y,r];refine⟨k-1,by omega,p+1,m.t,by omega, ?_, ?_,K _⟩
     ·grind
     grind
   | false=>
     simp[XM];refine⟨K _, ?_⟩;rw[JjA l p (by omega) o i M]
  ·have S:p=l.length:=by omega
   simp[XM,q,r,Jma,Jk2 s i];refine⟨z, ?_⟩;rw[(Jda l).2 (by rw[Yw,Ze];intro c T;obtain⟨j,N,rfl⟩:=X1 T;grind)]
theorem rowC (l:List UInt8)(a:St)(c:WF a)(e:l.length<=100000):Dz 145 [ofL l] a fun v b=>Gr a b/\v= .d .i64 (fore l):=by
 refine Jl (aT Tryz.func145 rfl) rfl ?_;simp only[CT,Tryz.f145,XZ,simprocAttr];refine Je (JtB l _ c e) ?_;rintro _ f ⟨g,rfl⟩;simp[XZ];exact g
theorem Jlv (l:List UInt8)(f:St)(e:WF f):Dz 108 [ofL l] f fun v g=>Gr f g/\v= .h (Ko l):=by
 refine Jl (aT Tryz.func108 rfl) rfl ?_
 cases l with
 | nil=>
   simp only[CT,Tryz.f108,XZ,simprocAttr];exact⟨Gr.F e,rfl⟩
 | cons c r=>
   obtain⟨l,a⟩:∃l,l=c::r:=⟨_,rfl⟩
   rw[<-a];have b:¬l=[]:=by grind
   have j:JeV l 0=c.toNat:=by rw[a];rfl
   have k:(0:Int)<=0/\(0:Int)<(l.length:Int):=by grind
   have hid:Ko l=(decide (l.length<=16)&&(!digB c.toNat&&Yw l)):=by rw[a];rfl
   by_cases d:(l.length:Int)<=16
   ·simp only[CT,Tryz.f108,XZ,simprocAttr,b,d,k,j];refine Je (Jqh c.toNat (ZI _) _) ?_;rintro _ _ ⟨rfl,rfl⟩
    cases m:digB c.toNat with
    | true=>
      simp[XZ];refine⟨Gr.F e, ?_⟩
      grind
    | false=>
      simp[XZ];refine Je (rowC l _ e (by omega)) ?_;rintro _ n ⟨o,rfl⟩;simp[XZ];refine⟨o, ?_⟩;rw[hid,m,Xp (show l.length<=16 by omega)];by_cases i:fore l=l.length
      ·rw[(Jda l).1 i];simp[i]
      ·have:Yw l=false:=by
        cases p:Yw l with
        |false=>rfl
        |true=>exact absurd ((Jda l).2 p) i
       grind
   ·simp only[CT,Tryz.f108,XZ,simprocAttr,b,d];refine⟨Gr.F e, ?_⟩
    grind
theorem JcW (l:List UInt8)(b:St)(e:WF b):
  Dz 112 [ofL l] b fun v a=>Gr b a/\v= .h (Ko l&&Lib.contains Yx (32::(l++[32]))):=by
 refine Jl (aT Tryz.func112 rfl) rfl ?_;simp only[CT,Tryz.f112,XZ,simprocAttr];refine Je (Jlv l _ e) ?_;rintro _ c ⟨d,rfl⟩
 cases f:Ko l with
 | false=>
   simp[XZ];exact d
 | true=>
   have g:=Jfk f;simp[XZ];refine⟨by omega,by omega, ?_⟩;refine Je (Jc9 (Q:=fun v a=>v= .h (Lib.contains Yx (32::(l++[32])))/\c=a) (aH (k:=109) rfl) (JdS Yx (32::(l++[32])) (by decide)) ⟨rfl,rfl⟩) ?_;rintro _ _ ⟨rfl,rfl⟩;simp[XZ];exact d
theorem Jun {t:Ty}(p:WF v)(h:TyC P v s t):Dz 110 [.j s] v fun b l=>Gr v l/\b= .d .i64 (KS t:Nat):=by
 refine Jn tabM (aT Tryz.func110 rfl) rfl p fun K m=> ?_;obtain⟨n,c⟩:=nxE v;have i:=fun r (h:v.A r≠ .none)=>jR p c h;obtain⟨k,q,u,M⟩:=t;obtain⟨N,O,Q,rfl,f,g,S,T⟩:=h.D;have o:=f.G;rw[Jv]at o;have U:KS (.mk k q u M)=if k=4\/k=5\/k=6 then 1 else if k=7\/k=8 then u.length else 0:=rfl;have w:=fun b=>m b (v.B fun t=> .a t [.d .i64 k,ofL q,N,O]) (fun r s=>by simp[KR,c,i r s]);by_cases x:k=4
 ·simp only[CT,Tryz.f110,XZ,simprocAttr,c,f.B,g.B,x]
  grind
 by_cases y:k=5
 ·simp only[CT,Tryz.f110,XZ,simprocAttr,c,f.B,g.B,y]
  grind
 by_cases z:k=6
 ·simp only[CT,Tryz.f110,XZ,simprocAttr,c,f.B,g.B,z]
  grind
 by_cases J:k=7
 ·simp only[CT,Tryz.f110,XZ,simprocAttr,c,f.B,g.B,o,J]
  grind
 by_cases L:k=8
 ·simp only[CT,Tryz.f110,XZ,simprocAttr,c,f.B,g.B,o,L]
  grind
 simp only[CT,Tryz.f110,XZ,simprocAttr,c,f.B,g.B,x,y,z,J,L]
 grind
theorem Jea {p:Option Str}{n:Str}(a:Ko n=true)(b:Kx p n=false):Kk p (n::e)=Kk (some n) e:=by
 rw[Kk,Xa (by grind),Xa (by grind)]
theorem JrE {t:Ty}(hw:WF v)(h:TyC P v s t):Dz 111 [.j s] v fun b ab=>Gr v ab/\b= .d .i64 (KG t):=by
 refine Jn tabM (aT Tryz.func111 rfl) rfl hw fun K l=> ?_;obtain⟨n,w⟩:=nxE v;have Y:=fun r (h:v.A r≠ .none)=>jR hw w h;obtain⟨k,Z,c,ks⟩:=t;obtain⟨U,kv,es,rfl,x1,x2,x3,x4⟩:=h.D;have l1:=x1.G;rw[Jv]at l1;have g0:Gr v (v.B fun t=> .a t [.d .i64 k,ofL Z,U,kv]):=Gr.G hw (Jc _);have hk:KG (.mk k Z c ks)=if 8<c.length then 3 else if Kk none c≠0 then Kk none c else if k=8/\c=[]then 12 else 0:=rfl;have aj:=fun b=>l b (v.B fun t=> .a t [.d .i64 k,ofL Z,U,kv]) (fun r s=>by simp[KR,w,Y r s]);by_cases c1:8<c.length
 ·have J:(8:Int)<c.length:=by omega
  simp only[CT,Tryz.f111,XZ,simprocAttr,w,x1.B,x2.B,l1,J]
  grind
 have J:¬(8:Int)<c.length:=by omega
 simp only[CT,Tryz.f111,XZ,simprocAttr,w,x1.B,x2.B,l1,J];obtain⟨I,hI⟩:=loE fun j fr S=>∃i p,j+i=c.length/\fr 1= .g (up 0 n) 0/\fr 10=U/\fr 11= .d .i64 c.length/\fr 12= .d .i64 i/\Gr (v.B fun t=> .a t [.d .i64 k,ofL Z,U,kv]) S/\Kk none c=Kk p (c.drop i)/\(p=if i=0 then none else c[i-1]?);refine JD I c.length (by omega) ?_ ?_
 ·refine(hI _ _ _).2 ⟨0,none,by omega, ?_, ?_, ?_, ?_,Gr.F g0.D,rfl,rfl⟩
  all_goals rfl
  all_goals rfl
 ·rintro j fr S ad;obtain⟨i,p,hj,L,N,m,o,W,f,hp⟩:=(hI _ _ _).1 ad;have b0:S.A (up 0 n)= .a v.t [.d .i64 k,ofL Z,U,kv]:=W.B (by simp[XZ,w]);have ae:=x1.I (g0.A W);by_cases hi:i<c.length
  ·obtain⟨q,qo,a1,a2,a3,a4⟩:=ae.M (xs:=c.map ofL) (i:=i) (by grind);simp at a4;simp[XZ,N,m,o,hi,a1,a4];have G:=g0.A W;have hd:=Xc hi;refine Je (Jlv _ _ W.D) ?_;rintro _ S2 ⟨g2,rfl⟩;have G2:=G.A g2;have b2:=g2.B b0
   cases hid:Ko c[i]with
   | false=>
     simp[XZ];refine l _ _ (fun r s=>G2.d r s) fun _=> ?_;rw[hk,Xa c1,f,hd,Kk,Xe hid];rfl
   | true=>
     have x:=wiN (i:=i) (by omega);have next:∀{u:Fr},Kx p c[i]=false->u 1= .g (up 0 n) 0->u 10=U->u 11= .d .i64 c.length->u 12= .d .i64 ((i+1:Nat):Int)->∃j',j'<j/\I j' u S2:=fun{u} X e1 af ag ah=>
      ⟨c.length-(i+1),by omega,(hI _ _ _).2 ⟨i+1,some c[i],by omega,e1,af,ag,ah,W.A g2,by rw[f,hd,Jea hid X],by simp⟩⟩
     by_cases h0:i=0
     ·have y:¬(0:Int)<(i:Int):=by omega
      simp only[XZ,simprocAttr,o,y,x];refine next (by rw[hp,Xe h0];rfl) ?_ ?_ ?_ ?_<;>simp only[XZ,simprocAttr,L,N,m]
     ·have y:(0:Int)<(i:Int):=by omega
      have z:IntKind.i64.wrap ((i:Int)-1)=((i-1:Nat):Int):=by rw[JX (by omega) (by omega)];omega
      obtain⟨q',ak,d1,d2,d3,d4⟩:=(x1.I G2).M (xs:=c.map ofL) (i:=i-1) (by grind);simp at d4;have aa:p=some c[i-1]:=by grind
      cases X:Op.bytesLess c[i-1] c[i]with
      | false=>
        simp only[XZ,simprocAttr,L,y,b2,z,d1,d4,X];refine l _ _ (fun r s=>G2.d r s) fun _=> ?_;have hv:Kk none c=6:=by rw[f,hd,Kk,Xa (by grind),Xe (by rw[aa,Kx,X];rfl)]
        grind
      | true=>
        simp only[XZ,simprocAttr,L,o,y,b2,z,d1,d4,X,x];refine next (by rw[aa,Kx,X];rfl) ?_ ?_ ?_ ?_<;>simp only[XZ,simprocAttr,L,N,m]
  ·have O:¬(i:Int)<c.length:=by omega
   have ai:i=c.length:=by omega
   have hn:Kk none c=0:=by rw[f,ai,Ga,Kk]
   have G:=g0.A W;by_cases c8:k=8
   ·by_cases cn:c.length=0
    ·have Q:((c.length:Int)=0)=True:=Zn (by omega);have T:(k=8)=True:=Zn c8;simp only[XZ,simprocAttr,L,m,o,O,b0,l1,T,Q];refine l _ _ (fun r s=>G.d r s) fun _=> ?_
     grind
    ·have Q:((c.length:Int)=0)=False:=Zi (by omega);have T:(k=8)=True:=Zn c8;simp only[XZ,simprocAttr,L,m,o,O,b0,l1,T,Q];refine l _ _ (fun r s=>G.d r s) fun _=> ?_
     grind
   ·simp[XZ,L,m,o,O,b0,c8];refine l _ _ (fun r s=>G.d r s) fun _=> ?_
    grind
theorem JsJ {e:List V}{s:Sch}(n:Str)(hw:WF v)(h:SchC P v e s)(hl:s.a.length<=1000):
  Dz 142 [.j e,ofL n] v fun f S=>Gr v S/\∃E,f= .p [.j E, .h (hasN s.a n)]/\TyC P v E ((defN s.a n).getD QD):=by
 refine Jn tabM (aT Tryz.func142 rfl) rfl hw fun K w=> ?_;obtain⟨x,m⟩:=nxE v;obtain⟨c,tv,sv,rfl,h1,W,h3⟩:=h;obtain⟨l,aa⟩:∃l,l=s.a:=⟨_,rfl⟩
 rw[<-aa]at W hl w;obtain⟨nv,kv,es,rfl,x1,x2,x3,x4⟩:=h1.B;have l1:=W.H;have aj:=x1.A;have ab:=x1.B;have ak:=x2.A;have ad:=x2.B;have ae:=W.B;have af:=h3.B;obtain⟨I,hI⟩:=opE fun k S=>(Gr v S/\k 1=ofL n/\k 2= .g (up 0 x) 0/\k 4= .g (up 1 x) 0/\(∃u,S.A (up 0 x)= .a u [.d .i64 s.b.A,ofL s.b.B,nv,kv,tv,sv])/\(∃u,S.A (up 1 x)= .a u [.d .i64 0,ofL [], .e, .e]))
 simp only[CT,Tryz.f142,XY,simprocAttr];refine YU I ?_ ?_
 ·simp[XZ,m,ab,ad,ae.1,af.1];exact(hI _ _).2 ⟨(Gr.G hw (Jc _)).L (Jc _),rfl,rfl,rfl,⟨_,by simp[XZ,m];rfl⟩,⟨_,by simp[XZ,m];rfl⟩⟩
 intro k S ag;obtain⟨g0,M,y,N,⟨t0,r0⟩,⟨t1,X⟩⟩:=(hI _ _).1 ag;rw[Jd,Ja];simp[XY];have ah:∀r,v.A r≠ .none->S.A r=v.A r:=fun r e=>g0.d r e;obtain⟨L,hL⟩:=loE fun j k S'=>∃(i:Nat),j+i=l.length/\k 1=ofL n/\k 2= .g (up 0 x) 0/\k 4= .g (up 1 x) 0/\k 6= .d .i64 i/\S=S'/\defN l n=defN (l.drop i) n;refine JD L l.length (by omega) ((hL _ _ _).2 ⟨0,by omega,M,y,N,by rfl,rfl,rfl⟩) ?_;clear M y N;intro j k S' ai;obtain⟨i,hj,M,y,N,f6,rfl,o⟩:=(hL _ _ _).1 ai;have O:∀E:List V,Gr v (S.D (up 1 x) t1 fun u=> .a u E):=fun E=>g0.J (nx0 hw m 1) (Jb X) (by rw[X];rfl) (Jc _);by_cases Q:i<l.length
 ·obtain⟨r,q,T,U,a1,a3,a4,al,d1,d2,d3,d4⟩:=JdV W ah Q;have Y:=Jep a4 (j:=0) (by decide) rfl;have Y:ld1 (S.A r) q=some (ofL l[i].1, .a):=Y;have a6:=JcC (a:=1) (b:=4) a4;have a6:ldn (S.A r) (q+1) 4=some (.j [.d .i64 l[i].2.A,ofL l[i].2.B,T,U], .a):=a6;have z:=wiN (i:=i) (by omega);have hd:defN (l.drop i) n=if l[i].1=n then some l[i].2 else defN (l.drop (i+1)) n:=by
   rw[Xc Q];unfold defN
   grind
  by_cases Z:l[i].1=n
  ·rw[Xe Z]at hd;simp[XZ,M,y,N,f6,r0,l1,Q,a1,Y,a6,Z,d2,d4,X];refine w _ _ (fun r e=>(O _).d r e) fun _=>⟨[.d .i64 l[i].2.A,ofL l[i].2.B,T,U], ?_, ?_⟩
   ·rw[Jfl,o,hd];rfl
   grind
  ·rw[Xa Z]at hd;simp[XZ,M,y,f6,r0,l1,Q,a1,Y,Z,z];exact⟨l.length-(i+1),by omega,(hL _ _ _).2 ⟨i+1,by omega,M,y,N,rfl,rfl,by grind⟩⟩
 ·have t:defN l n=none:=by rw[o,Xm (by omega)];rfl
  simp[XZ,y,N,f6,r0,X,l1,Q];refine w _ _ (fun r e=>(O _).d r e) fun _=>⟨[.d .i64 0,ofL [], .e, .e], ?_, ?_⟩
  ·rw[Jfl,t];rfl
  ·rw[t];exact Jpe P _
theorem rinC {a:V}(n:Str)(y:WF v)(h:SlAt P v a 1 (strs e))(z:e.length<=1000):
  Dz 143 [a,ofL n] v fun w S=>w= .h (e.contains n)/\v=S:=by
 refine Jl (aT Tryz.func143 rfl) rfl ?_;have g:=h.G;rw[Jv]at g;simp only[CT,Tryz.f143,XY,simprocAttr];rw[Ja];simp only[XY,simprocAttr];rw[Jd,Ja];simp only[XY,simprocAttr];refine Jo (fun j k s=>∃(i:Nat),j+i=e.length/\k 0=a/\k 1=ofL n/\k 5= .d .i64 i/\v=s/\e.contains n=(e.drop i).contains n) e.length (by omega) ⟨0,by omega,rfl,rfl,by rfl,rfl,rfl⟩ ?_;rintro L hL j k s ⟨i,J,l,m,o,rfl,b⟩;by_cases x:i<e.length
 ·have c:(i:Int)<e.length:=by omega
  obtain⟨q,K,t,N,O,p⟩:=h.M (xs:=e.map ofL) (i:=i) (by grind);simp at p;have f:=wiN (i:=i) (by omega);rw[Xc x,List.contains_cons]at b;by_cases u:e[i]=n
  ·simp only[XZ,simprocAttr,l,m,o,g,c,t,p,u]
   grind
  ·have r:(n==e[i])=false:=by grind
   rw[r,ZQ]at b;simp[XZ,l,m,o,g,c,t,p,u,f];exact⟨e.length-(i+1),by omega,hL _ _ _ ⟨i+1,by omega,l,m,rfl,rfl,b⟩⟩
 ·have c:¬(i:Int)<e.length:=by omega
  simp only[XZ,simprocAttr,l,o,g,c];rw[b,Xm (by omega)];rfl
theorem Juo {e1 e2:List V}{s:Sch}{t:Ty}(hw:WF v)(h:SchC P v e1 s)(ht:TyC P v e2 t)(hl:s.a.length<=1000):
  Dz 105 [.j e1, .j e2] v fun f S=>Gr v S/\f= .d .i64 (ownS (hasN s.a) t):=by
 refine Jn tabM (aT Tryz.func105 rfl) rfl hw fun K au=> ?_;obtain⟨U,af⟩:=nxE v;have ak:=h;obtain⟨c,tv,sv,rfl,h1,h2,h3⟩:=h;obtain⟨av,aw,bj,rfl,x1,x2,x3,x4⟩:=h1.B;obtain⟨k,n,m,ks⟩:=t;obtain⟨nv,kv,es,rfl,y1,y2,y3,y4⟩:=ht.D;have Y:=y1.G;rw[Jv]at Y;have l2:=y2.G;rw[y3]at l2;have bk:=x1.A;have ax:=x1.B;have bl:=x2.A;have ay:=x2.B;have az:=h2.B;have a0:=h3.B;have bm:=y1.A;have a5:=y1.B;have bn:=y2.A;have a6:=y2.B;have N:ownS (hasN s.a) (.mk k n m ks)=if k<1\/9<k then 1 else if ks.length≠KS (.mk k n m ks)\/(n≠[]/\k≠9)\/(0<m.length/\¬(k=7\/k=8))then 12 else if k=9/\hasN s.a n=false then 15 else KG (.mk k n m ks):=rfl;have hk:KG (.mk k n m ks)=if 8<m.length then 3 else if Kk none m≠0 then Kk none m else if k=8/\m=[]then 12 else 0:=rfl;obtain⟨I,hI⟩:=opE fun w S=>(Gr v S/\w 2= .g (up 0 U) 0/\w 3= .g (up 1 U) 0/\(∃u,S.A (up 0 U)= .a u [.d .i64 s.b.A,ofL s.b.B,av,aw,tv,sv])/\(∃u,S.A (up 1 U)= .a u [.d .i64 k,ofL n,nv,kv]))
 simp only[CT,Tryz.f105,XY,simprocAttr];refine YU I ?_ ?_
 ·simp[XZ,af,ax,ay,az.1,a0.1,a5,a6];exact(hI _ _).2 ⟨(Gr.G hw (Jc _)).L (Jc _),rfl,rfl,⟨_,by simp[XZ,af];rfl⟩,⟨_,by simp[XZ,af];rfl⟩⟩
 intro w S a7;obtain⟨g0,z,l,⟨t0,r0⟩,⟨t1,o⟩⟩:=(hI _ _).1 a7;have a8:∀x,ownS (hasN s.a) (.mk k n m ks)=x->∀O,Gr S O->K (.d .i64 x) O:=fun x hx O g=>au _ _ (fun r e=>(g0.A g).d r e) fun _=>by rw[hx]
 have rS:=Gr.F g0.D;by_cases b1:k<1
 ·rw[Jd,Ja];simp[XZ,l,o,b1]
  grind
 by_cases b2:9<k
 ·rw[Jd,Ja];simp[XZ,l,o,b1,b2]
  grind
 rw[Xa (fun h=>by omega)]at N;rw[Jd,Ja];simp[XY,l,o,b1,b2];rw[Ja];simp[XY];refine Ju (fun w O=>(S=O/\w 2= .g (up 0 U) 0/\w 3= .g (up 1 U) 0/\w 5= .d .i64 (KS (.mk k n m ks):Nat))) (fun J hJ=> ?_) ?_
 ·have al:KS (.mk k n m ks)=if k=4\/k=5\/k=6 then 1 else if k=7\/k=8 then m.length else 0:=rfl;by_cases k4:k=4
  ·simp[XZ,l,o,k4];exact hJ _ _ ⟨rfl,z,l,by simp[XZ];grind⟩
  by_cases k5:k=5
  ·simp[XZ,l,o,k5];exact hJ _ _ ⟨rfl,z,l,by simp[XZ];grind⟩
  by_cases k6:k=6
  ·simp[XZ,l,o,k6];exact hJ _ _ ⟨rfl,z,l,by simp[XZ];grind⟩
  rw[Xa (by omega)]at al;by_cases k7:k=7
  ·simp[XZ,l,o,k7,Y];exact hJ _ _ ⟨rfl,z,l,by simp[XZ];grind⟩
  by_cases k8:k=8
  ·simp[XZ,l,o,k8,Y];exact hJ _ _ ⟨rfl,z,l,by simp[XZ];grind⟩
  rw[Xa (by omega)]at al;simp[XZ,l,o,k4,k5,k6,k7,k8];exact hJ _ _ ⟨rfl,z,l,by simp[XZ];omega⟩
 clear z l;rintro w O ⟨rfl,z,l,Q⟩;obtain⟨kk,a9⟩:∃kk,kk=KS (.mk k n m ks):=⟨_,rfl⟩
 rw[<-a9]at Q N;obtain⟨R,hR⟩:∃b,b=decide (k=7\/k=8):=⟨_,rfl⟩
 refine Jcp (fun w O=>(S=O/\w 2= .g (up 0 U) 0/\w 3= .g (up 1 U) 0/\w 5= .d .i64 kk/\w 6= .h R)) (fun J2 ag=> ?_) ?_
 ·by_cases k7:k=7
  ·simp[XZ,l,o,k7];exact ag _ _ ⟨rfl,z,l,Q,by simp[XZ];grind⟩
  by_cases k8:k=8
  ·simp[XZ,l,o,k8];exact ag _ _ ⟨rfl,z,l,Q,by simp[XZ];grind⟩
  simp[XZ,l,o,k7,k8];exact ag _ _ ⟨rfl,z,l,Q,by simp[XZ];grind⟩
 clear z l Q;rintro w O ⟨rfl,z,l,Q,W⟩;by_cases c1:ks.length=kk;rotate_left
 ·have y:¬(ks.length:Int)=(kk:Int):=by omega
  rw[Jd,Ja];simp[XZ,l,Q,o,l2,y]
  grind
 have y:(ks.length:Int)=(kk:Int):=by omega
 by_cases c2:n≠[]/\k≠9
 ·have ba:¬n=[]:=c2.1;have bb:¬k=9:=c2.2;rw[Jd,Ja];simp[XZ,l,Q,o,l2,y,ba,bb]
  grind
 by_cases c3:0<m.length/\¬(k=7\/k=8)
 ·have am:¬(m.length:Int)=0:=by omega
  have bc:R=false:=by grind
  rw[bc]at W;by_cases X:k=9
  ·rw[Jd,Ja];simp only[XZ,simprocAttr,l,Q,W,o,Y,l2,y,am,X]
   grind
  ·have hn:n=[]:=Xd fun h=>c2 ⟨h,X⟩;rw[Jd,Ja];simp only[XZ,simprocAttr,l,Q,W,o,Y,l2,y,am,X,hn]
   grind
 rw[Xa (fun h=>by grind)]at N;have bd:k=9\/n=[]:=by grind
 have ah:R=true\/R=false/\(m.length:Int)=0:=by grind
 refine Ju (fun w O=>(S=O/\w 2= .g (up 0 U) 0/\w 3= .g (up 1 U) 0)) (fun J3 be=> ?_) ?_
 ·have Z:∀T:Fr,T 2= .g (up 0 U) 0->T 3= .g (up 1 U) 0->J3 T S:=fun _ a b=>be _ _ ⟨rfl,a,b⟩;rcases bd with X|hn
  ·rcases ah with hr|⟨hr,hz⟩
   ·rw[hr]at W;rw[Ja];simp[XZ,l,Q,W,o,l2,y,X]
    grind
   ·rw[hr]at W;rw[Ja];simp[XZ,l,Q,W,o,Y,l2,y,X,hz];exact Z _ z l
  ·by_cases X:k=9
   ·rcases ah with hr|⟨hr,hz⟩
    ·rw[hr]at W;rw[Ja];simp[XZ,l,Q,W,o,l2,y,X]
     grind
    ·rw[hr]at W;rw[Ja];simp[XZ,l,Q,W,o,Y,l2,y,X,hz];exact Z _ z l
   ·rcases ah with hr|⟨hr,hz⟩
    ·rw[hr]at W;rw[Ja];simp[XZ,l,Q,W,o,l2,y,X,hn];exact Z _ z l
    ·rw[hr]at W;rw[Ja];simp[XZ,l,Q,W,o,Y,l2,y,X,hn,hz];exact Z _ z l
 clear z l Q W;rintro w O ⟨rfl,z,l⟩;refine Ju (fun w O=>(Gr S O/\w 3= .g (up 1 U) 0/\¬(k=9/\hasN s.a n=false))) (fun J4 ao=> ?_) ?_
 ·by_cases X:k=9
  ·rw[Ja];simp[XY,l,o,X];rw[Ja];simp[XY,z,l,r0,o];refine Je (JsJ (P:=P) (s:=s) n g0.D (ak.A g0.H) hl) ?_;rintro _ S1 ⟨g1,E,rfl,hE⟩;have w1:=g1.D;obtain⟨n1,ap⟩:=nxE S1;have e4:=hE.G;have bf:=hE.J;have bg:Jw [.d .i64 0,ofL [], .e, .e] 0 E=E:=YO (by grind);have bo:E.take 4=E:=by grind
   have gn:Gr S1 ((S1.B fun t=> .a t [.d .i64 0,ofL [], .e, .e]).D (up 0 n1) S1.t fun u=> .a u E):=(Gr.F w1).M ap (Jc _) (Jc _);simp[XN,ap,e4,bf,bg]
   cases hh:hasN s.a n with
   | true=>
     rw[Ja];simp[XZ];exact ao _ _ ⟨g1.A gn,l,fun h=>by grind⟩
   | false=>
     rw[Ja];simp[XZ];exact a8 _ (by grind) _ (g1.A gn)
  ·rw[Ja];simp[XZ,l,o,X];exact ao _ _ ⟨rS,l,fun h=>X h.1⟩
 clear z l;rintro w S1 ⟨g1,l,c4⟩;rw[Xa c4,hk]at N;have o:=g1.B o;by_cases b8:8<m.length
 ·have ai:(8:Int)<m.length:=by omega
  rw[Jd,Ja];simp[XZ,l,o,Y,ai]
  grind
 have ai:¬(8:Int)<m.length:=by omega
 rw[Xa b8]at N;rw[Jd,Ja];simp[XY,l,o,Y,ai];refine Ju (fun w O=>(S1=O/\w 3= .g (up 1 U) 0/\Kk none m=0)) (fun J5 bh=> ?_) ?_
 ·rw[Ja];simp[XY];obtain⟨L,hL⟩:=loE fun j w O=>∃(i:Nat) (p:Option Str),j+i=m.length/\w 3= .g (up 1 U) 0/\w 9= .d .i64 i/\S1=O/\Kk none m=Kk p (m.drop i)/\(p=if i=0 then none else m[i-1]?);refine JD L m.length (by omega) ((hL _ _ _).2 ⟨0,none,by omega,l,by rfl,rfl,rfl,rfl⟩) ?_;clear l;intro j w O bi;obtain⟨i,p,hj,l,f9,rfl,aa,hp⟩:=(hL _ _ _).1 bi;have yS:=(y1.I (g0.A g1))
  by_cases hi:i<m.length
  ·obtain⟨q,qo,a1,a2,a3,a4⟩:=yS.M (xs:=m.map ofL) (i:=i) (by grind);simp at a4;have hd:=Xc hi;have ab:=wiN (i:=i) (by omega);simp[XZ,l,f9,o,Y,hi,a1,a4];refine Je (Jnb _ _) ?_;rintro _ _ ⟨rfl,rfl⟩
   cases hid:Ko m[i]with
   | false=>
     have hv:Kk none m=15:=by rw[aa,hd,Kk,Xe hid]
     simp[XZ]
     grind
   | true=>
     have next:∀{T:Fr},Kx p m[i]=false->T 3= .g (up 1 U) 0->T 9= .d .i64 ((i+1:Nat):Int)->∃j',j'<j/\L j' T S1:=fun{T} hl e3 e9=>
      ⟨m.length-(i+1),by omega,(hL _ _ _).2 ⟨i+1,some m[i],by omega,e3,e9,rfl,by rw[aa,hd,Jea hid hl],by simp⟩⟩
     by_cases h0:i=0
     ·have ad:¬(0:Int)<(i:Int):=by omega
      simp only[XZ,simprocAttr,f9,ad,ab];exact next (by rw[hp,Xe h0];rfl) l rfl
     ·have ad:(0:Int)<(i:Int):=by omega
      have ae:IntKind.i64.wrap ((i:Int)-1)=((i-1:Nat):Int):=by rw[JX (by omega) (by omega)];omega
      obtain⟨q',bp,d1,d2,d3,d4⟩:=yS.M (xs:=m.map ofL) (i:=i-1) (by grind);simp at d4;have aq:p=some m[i-1]:=by grind
      cases hl:Op.bytesLess m[i-1] m[i]with
      | false=>
        have hv:Kk none m=6:=by rw[aa,hd,Kk,Xa (by grind),Xe (by rw[aq,Kx,hl];rfl)]
        simp only[XZ,simprocAttr,l,f9,o,ad,ae,a1,a4,d1,d4,Ja6,hl]
        grind
      | true=>
        simp only[XZ,simprocAttr,l,f9,o,ad,ae,a1,a4,d1,d4,Ja6,hl,ab];exact next (by rw[aq,Kx,hl];rfl) l rfl
  ·have hv:Kk none m=0:=by rw[aa,Xm (by omega),Kk]
   simp[XZ,l,f9,o,Y,hi];exact bh _ _ ⟨rfl,l,hv⟩
 clear l;rintro w O ⟨rfl,l,ar⟩;rw[Xa (fun h=>h ar)]at N;by_cases c8:k=8
 ·by_cases cn:m.length=0
  ·have aj:(m.length:Int)=0:=by omega
   simp[XZ,l,o,Y,c8,aj]
   grind
  ·have aj:¬(m.length:Int)=0:=by omega
   simp only[XZ,simprocAttr,l,o,Y,c8,aj]
   grind
 ·simp[XZ,l,o,c8]
  grind
theorem Jqi :∀(m:Nat) (ty:Ty),tsz ty<m->∀(P Q:Pt->Prop) (O:St) (T:V) (f:List Str) (e:List V),WF O->SlAt Q O T 1 (strs f)->f.length<=1000->TyC P O e ty->cntT ty<1000000->
  Dz 106 [T, .j e] O fun v af=>Gr O af/\v= .h (KH f.contains ty)
 |0,_,h=>absurd h (by omega)
 | m+1, .mk k Z ns l,hm=>by
   intro P Q O T f e hw aa ab hx ag;refine Jn tabM (aT Tryz.func106 rfl) rfl hw fun K ah=> ?_;obtain⟨n0,ad⟩:=nxE O;obtain⟨nv,kv,es,rfl,y1,y2,y3,y4⟩:=hx.D;have l2:=y2.G;rw[y3]at l2;have ap:=y1.A;have ai:=y1.B;have aq:=y2.A;have aj:=y2.B;have U:=JfB f.contains k Z ns l;have ao:l.length<1000000:=by have h1:=Jcs l;rw[Yy]at ag;omega
   obtain⟨I,hI⟩:=opE fun y S=>(Gr O S/\y 0=T/\y 3= .g (up 0 n0) 0/\(∃u,S.A (up 0 n0)= .a u [.d .i64 k,ofL Z,nv,kv]))
   simp only[CT,Tryz.f106,XY,simprocAttr];refine YU I ?_ ?_
   ·simp[XZ,ad,ai,aj];exact(hI _ _).2 ⟨Gr.G hw (Jc _),rfl,rfl,⟨_,by simp[XZ,ad];rfl⟩⟩
   intro y S ak;obtain⟨W,z,w,⟨t0,J⟩⟩:=(hI _ _).1 ak;have M:∀b,KH f.contains (.mk k Z ns l)=b->∀p,Gr S p->K (.h b) p:=fun b X p g=>ah _ _ (fun r e=>(W.A g).d r e) fun _=>by rw[X]
   have ae:∀{p:St} {i:Nat} (x:i<l.length),Gr S p->∃q o E,Js 4 kv (.d .i64 i)=some (.g q o, .a)/\ldn (p.A q) o 4=some (.j E, .a)/\Dz 106 [T, .j E] p fun v al=>Gr p al/\v= .h (KH f.contains l[i]):=fun{p i} x g=>by
    have G:=W.A g;have am:LstAt (TyC P p) P p kv 4 l:=⟨es,y2.I G,y3,fun i a b=>(y4 i a b).H G⟩
    obtain⟨q,qo,E',a1,a2,a3,a4,hE,e4,a5⟩:=am.A x;have h1:=jF x;have h2:=Yy k Z ns l;exact⟨q,qo,E',a1,a4,Jqi m l[i] (by have:=Yv (k:=k) (n:=Z) (ns:=ns) x;omega) P Q p T f E' G.D (aa.I G) ab hE (by omega)⟩
   rw[Jd,Ja];simp[XY,w,J];by_cases k7:k=7
   ·rw[Xe k7,JcB]at U;rw[Ja];simp[XY,k7];rw[Jd,Ja];simp[XY];obtain⟨L,hL⟩:=loE fun j y p=>∃(i:Nat),j+i=l.length/\y 0=T/\y 3= .g (up 0 n0) 0/\y 5= .d .i64 i/\Gr S p/\(l.all fun t=>KH f.contains t)=((l.drop i).all fun t=>KH f.contains t);refine JD L l.length (by omega) ((hL _ _ _).2 ⟨0,by omega,z,w,by rfl,Gr.F W.D,rfl⟩) ?_;clear z w;intro j y p Y;obtain⟨i,hj,z,w,f5,N,c⟩:=(hL _ _ _).1 Y;have J:=N.B J;by_cases x:i<l.length
    ·have s:=wiN (i:=i) (by omega);obtain⟨q,o,E,a1,a2,a3⟩:=ae x N;rw[Xc x,ZG]at c;simp[XZ,z,w,f5,J,l2,x,a1,a2];refine Je a3 ?_;rintro _ S2 ⟨g2,rfl⟩
     cases X:KH f.contains l[i]with
     | true=>
       rw[X,HA]at c;simp[XZ,f5,s];exact⟨l.length-(i+1),by omega,(hL _ _ _).2 ⟨i+1,by omega,z,w,rfl,N.A g2,c⟩⟩
     | false=>
       rw[X,GN]at c;simp[XZ];exact M _ (by grind) _ (N.A g2)
    ·rw[Xm (by omega)]at c;simp[XZ,w,f5,J,l2,x]
     grind
   rw[Xa k7]at U;by_cases k8:k=8
   ·rw[Xe k8,JcA]at U;rw[Ja];simp[XY,k7];rw[Ja];simp[XY,k8];rw[Jd,Ja];simp[XY];obtain⟨L,hL⟩:=loE fun j y p=>∃(i:Nat),j+i=l.length/\y 0=T/\y 3= .g (up 0 n0) 0/\y 6= .d .i64 i/\Gr S p/\(l.any fun t=>KH f.contains t)=((l.drop i).any fun t=>KH f.contains t);refine JD L l.length (by omega) ((hL _ _ _).2 ⟨0,by omega,z,w,by rfl,Gr.F W.D,rfl⟩) ?_;clear z w;intro j y p Y;obtain⟨i,hj,z,w,f6,N,c⟩:=(hL _ _ _).1 Y;have J:=N.B J;by_cases x:i<l.length
    ·have s:=wiN (i:=i) (by omega);obtain⟨q,o,E,a1,a2,a3⟩:=ae x N;rw[Xc x,Gj]at c;simp[XZ,z,w,f6,J,l2,x,a1,a2];refine Je a3 ?_;rintro _ S2 ⟨g2,rfl⟩
     cases X:KH f.contains l[i]with
     | false=>
       rw[X,ZQ]at c;simp[XZ,f6,s];exact⟨l.length-(i+1),by omega,(hL _ _ _).2 ⟨i+1,by omega,z,w,rfl,N.A g2,c⟩⟩
     | true=>
       rw[X,GJ]at c;simp[XZ];exact M _ (by grind) _ (N.A g2)
    ·rw[Xm (by omega)]at c;simp[XZ,w,f6,J,l2,x]
     grind
   rw[Xa k8]at U;by_cases k9:k=9
   ·rw[Xe k9]at U;simp[XZ,k9,z,w,J];refine Je (rinC (P:=Q) Z W.D (aa.I W) ab) ?_;rintro _ _ ⟨rfl,rfl⟩;simp only[XZ,simprocAttr];exact M _ U _ (Gr.F W.D)
   ·rw[Xa k9]at U;simp[XZ,k7,k8,k9];exact M _ U _ (Gr.F W.D)
def rndR (l:List (Str×Ty))(has:List Str):List Str:=(l.filter fun p=>KH has.contains p.2).map Prod.fst
theorem Jkw (l:List (Str×Ty))(a:List Str):(rndR l a).length<=l.length:=by
 unfold rndR
 grind
theorem Jqj {E:List V}{s:Sch}(hw:WF v)(h:SchC P v E s)(hl:s.a.length<=100)(ab:qg (s.a.map Prod.snd)<1000000):
  Dz 63 [.j E] v fun f S=>Gr v S/\SlAt (fun r=>v.A r= .none) S f 1 (strs (finR s.a (s.a.length+1) [])):=by
 refine Jn tabM (aT Tryz.func63 rfl) rfl hw fun K ad=> ?_;obtain⟨n0,ae⟩:=nxE v;obtain⟨c,tv,sv,rfl,h1,h2,h3⟩:=h;obtain⟨l,ak⟩:∃l,l=s.a:=⟨_,rfl⟩
 rw[<-ak]at h2 hl ab ad;obtain⟨af,ag,a2,rfl,x1,x2,x3,x4⟩:=h1.B;have l1:=h2.H;have a5:=x1.A;have al:=x1.B;have a7:=x2.A;have am:=x2.B;have ao:=h2.B;have ap:=h3.B;simp only[CT,Tryz.f63,XY,simprocAttr];rw[Ja];simp[XY,ae,al,am,ao.1,ap.1];obtain⟨y,W⟩:=exE (v.B fun t=> .a t [.d .i64 s.b.A,ofL s.b.B,af,ag,tv,sv]);have g0:Gr v y:=by rw[W];exact Gr.G hw (Jc _)
 obtain⟨t0,r0⟩:∃t,y.A (up 0 n0)= .a t [.d .i64 s.b.A,ofL s.b.B,af,ag,tv,sv]:=⟨_,by rw[W];simp[XZ,ae];rfl⟩
 rw[<-W];clear W;rw[Ja];simp[XY];have X:∀{S:St},Gr y S->∀r,v.A r≠ .none->S.A r=v.A r:=fun g r e=>by rw[g.d r (by rw[g0.d r e];exact e),g0.d r e]
 have aq:∀{S:St} {e t},Gr y S->TyC P v e t->TyC P S e t:=fun g h=>h.A fun r p e=>⟨p,X g r e⟩
 rw[Jd,Ja];simp[XY];refine Jo (fun j u S=>∃(k:Nat) (Z:V) (n:List Str),j+k=l.length+1/\u 1= .g (up 0 n0) 0/\u 3=Z/\u 4= .d .i64 k/\Gr y S/\SlF y S Z 1 (strs n)/\n.length<=l.length/\finR l (l.length+1) []=finR l (l.length+1-k) n) (l.length+1) (by omega) ⟨0, .e,[],by omega,rfl,rfl,by rfl,Gr.F g0.D,SlF.I _ _ _,XC _,rfl⟩ ?_;rintro I hI j u S ⟨k,Z,n,hj,x,f3,N,O,w,a8,o⟩;have rS:=O.B r0;by_cases hk:k<=l.length
 ·have aa:=wiN (i:=k) (by omega);rw[show l.length+1-k=(l.length+1-(k+1))+1 by omega,Jdg]at o;rw[Jd,Ja];simp[XY,x,N,rS,l1,hk];rw[Jd];simp[XY];rw[Ja];simp[XY];refine Ju (fun u U=>(∃nv,u 1= .g (up 0 n0) 0/\u 4= .d .i64 k/\u 5=nv/\Gr y U/\SlF y U nv 1 (strs (rndR l n)))) (fun J hJ=> ?_) ?_
  ·rw[Ja];simp[XY];obtain⟨L,hL⟩:=loE fun j u U=>∃(i:Nat) (nv:V),j+i=l.length/\u 1= .g (up 0 n0) 0/\u 3=Z/\u 4= .d .i64 k/\u 5=nv/\u 6= .d .i64 i/\Gr y U/\SlF y U Z 1 (strs n)/\SlF y U nv 1 (strs (rndR (l.take i) n))/\(∀r,rowOf nv=some r->rowOf Z≠some r);refine JD L l.length (by omega) ((hL _ _ _).2 ⟨0, .e,by omega,x,f3,N,rfl,by rfl,O,w,SlF.I _ _ _,fun r h=>by cases h⟩) ?_;clear x f3 N rS O w;intro j2 u U ar;obtain⟨i,nw,a9,x,f3,N,f5,f6,O,w,M,ah⟩:=(hL _ _ _).1 ar;have rS:=O.B r0;by_cases hi:i<l.length
   ·have Q:=wiN (i:=i) (by omega);obtain⟨r,q,au,av,a1,a3,a4,aw,d1,d2,d3,d4⟩:=JdV h2 (X O) hi;have a6:=JcC (a:=1) (b:=4) a4;have a6:ldn (U.A r) (q+1) 4=some (.j [.d .i64 l[i].2.A,ofL l[i].2.B,au,av], .a):=a6;have ax:=jF (ks:=l.map Prod.snd) (i:=i) (by grind);rw[X6]at ax;have Y:rndR (l.take (i+1)) n=if KH n.contains l[i].2=true then rndR (l.take i) n++[l[i].1]else rndR (l.take i) n:=by
     unfold rndR;rw[Xn hi,List.filter_append,ZA]
     grind
    simp[XZ,x,f3,f6,rS,l1,hi,a1,a6];refine Je (Jqi _ l[i].2 (XO _) P _ U Z n _ O.D w.D (by omega) (aq O aw) (by omega)) ?_;rintro _ S2 ⟨g2,rfl⟩;have G2:=O.A g2;have r2:=G2.B r0
    cases hb:KH n.contains l[i].2 with
    | false=>
      rw[Xa (by grind)]at Y;simp[XZ,f6,Q];exact⟨l.length-(i+1),by omega,(hL _ _ _).2 ⟨i+1,nw,by omega,x,f3,N,f5,rfl,G2,w.G g2,by rw[Y];exact M.G g2,ah⟩⟩
    | true=>
      rw[Xe hb]at Y;obtain⟨r',q',ba,bb,b1,b3,b4,_⟩:=JdV h2 (X G2) hi;have b5:=Jep b4 (j:=0) (by decide) rfl;have b5:ld1 (S2.A r') q'=some (ofL l[i].1, .a):=b5;have w2:=g2.D;obtain⟨n2,ay⟩:=nxE S2;simp[XZ,x,f5,f6,r2,b1,b5,ay];have gn:Gr S2 (S2.B fun t=> .a t [ofL l[i].1]):=Gr.G w2 (Jc _);have ai:SlAt (fun r=>r=up 0 n2) (S2.B fun t=> .a t [ofL l[i].1]) (.m (up 0 n2) 0 1 1 1) 1 [[ofL l[i].1]]:=by
       have:=QE (st:=S2) (z:=1) (e:=[ofL l[i].1]) rfl
       grind
      have az:=Jkw (l.take i) n;rw[XS]at az;refine Qj (S0:=y) (G2.A gn) ((M.G g2).G gn) ai (fun e he=>by rw[Xj.1 he];rfl) (by simp) (by rw[Jv];grind) ?_;intro S3 v3 g3 h3 rv kp;have T:=(w.G g2).G gn;have aj:SlF y S3 Z 1 (strs n):=T.B fun r hr=>kp r (by obtain⟨_,t,e⟩:=T.H hr;grind) (fun e=>ah r e hr);simp[XZ,f6,Q];refine⟨l.length-(i+1),by omega,(hL _ _ _).2 ⟨i+1,v3,by omega,x,f3,N,rfl,rfl,g3,aj, ?_, ?_⟩⟩
      ·rw[Y];have:strs (rndR (l.take i) n++[l[i].1])=strs (rndR (l.take i) n)++[[ofL l[i].1]]:=by unfold strs;simp
       grind
      ·intro r hr e;rcases rv with rv|rv
       ·grind
       ·rw[rv]at hr;injection hr with hr;obtain⟨_,t,e2⟩:=T.H e;rw[<-hr]at e2;have:=J6 gn.D
        grind
   ·rw[Xt (by omega)]at M;simp[XZ,x,f6,rS,l1,hi];exact hJ _ _ ⟨nw,x,N,f5,O,M⟩
  clear x f3 N;rintro u U ⟨nw,x,N,f5,a0,M⟩;simp[XZ,N,f5,aa];exact⟨l.length+1-(k+1),by omega,hI _ _ _ ⟨k+1,nw,rndR l n,by omega,x,rfl,rfl,a0,M,Jkw l n,o⟩⟩
 ·rw[show l.length+1-k=0 by omega]at o;have o:finR l (l.length+1) []=n:=o;simp[XZ,x,f3,N,rS,l1,hk];refine ad _ _ (X O) fun _=> ?_;rw[o];exact w.D.D fun r p _=>⟨g0.I p,rfl⟩
theorem _root_.Eva.SchC.B (h:SchC P v s n)(k:Nat):SchC P {v with a:=k} s n:=h.A kR
theorem JsK :∀(m:Nat) (ty:Ty),tsz ty<m->∀(P:Pt->Prop) (T:St) (M:Pt) (s:Sch) (l:Nat) (E e:List V) (f:Nat),WF T->SchC P T E s->TyC P T e ty->(∀r,P r->r≠M)->(∃t,T.A M= .a t (E++[.d .i64 l]))->f<=13->l<=400->s.a.length<=1000->cntT ty<1000000\/True->
  Dz 61 [.g M 0, .j e, .d .i64 f] T fun v ar=>Ch (fun r=>r=M) T ar/\(∃t,ar.A M= .a t (E++[.d .i64 (mayS (hasN s.a) ty f l).2]))/\v= .d .i64 (mayS (hasN s.a) ty f l).1
 |0,_,h=>absurd h (by omega)
 | m+1, .mk k N Q o,hm=>by
   intro P T M s l E e f hw af hx ag ax ay be hl _;refine Jfj tabM (aT Tryz.func61 rfl) rfl hw fun K az=> ?_;obtain⟨n0,ai⟩:=nxE T;have aa:=af;obtain⟨c,tv,sv,rfl,h1,h2,h3⟩:=af;obtain⟨Y,Z,bf,rfl,x1,x2,x3,x4⟩:=h1.B;have a0:=hx;obtain⟨nv,kv,es,rfl,y1,y2,y3,y4⟩:=hx.D;have l2:=y2.G;rw[y3]at l2;have bg:=x1.A;have bh:=x1.B;have bi:=x2.A;have bj:=x2.B;have bk:=h2.B;have bl:=h3.B;have bm:=y1.A;have a6:=y1.B;have bn:=y2.A;have a7:=y2.B;obtain⟨tk,rk⟩:=ax;have rk:T.A M= .a tk [.d .i64 s.b.A,ofL s.b.B,Y,Z,tv,sv, .d .i64 l]:=rk;have U:=qy (hasN s.a) k N Q o f l;have au:=Jt hw ai (Jb rk) 0;have a8:=nes au;obtain⟨I,hI⟩:=opE fun W S=>(Ch (fun r=>r=M) T S/\W 0= .g M 0/\W 2= .d .i64 f/\W 4= .g (up 0 n0) 0/\(∃u,S.A (up 0 n0)= .a u [.d .i64 k,ofL N,nv,kv])/\(∃u,S.A M= .a u [.d .i64 s.b.A,ofL s.b.B,Y,Z,tv,sv, .d .i64 ((l+1:Nat):Int)]))
   have av:=wiN (i:=l) (by omega);simp only[CT,Tryz.f61,XY,simprocAttr];rw[Ja];simp only[XY,simprocAttr,ai,a6,a7];refine YU I ?_ ?_
   ·have gn:Gr T (T.B fun t=> .a t [.d .i64 k,ofL N,nv,kv]):=Gr.G hw (Jc _);have y:=gn.B rk;simp only[XZ,simprocAttr,y,av];refine(hI _ _).2 ⟨(Ch.H _ gn).J (Jb y) (by rw[y];rfl) (.inl rfl) (Jc _),rfl,rfl,rfl,⟨_,by simp only[XZ,simprocAttr,ai,a8];rfl⟩,⟨_,Jh _ _ _ _⟩⟩
   intro W S a9;obtain⟨hC,f0,f2,f4,⟨t0,r0⟩,⟨u1,y⟩⟩:=(hI _ _).1 a9;have z:∀{X:St},Ch (fun r=>r=M) T X->∀r,P r->T.A r≠ .none->P r/\X.A r=T.A r:=fun c r p e=>⟨p,c.d r e (ag r p)⟩
   have bo:∀(x:Int) (mm:Nat),mayS (hasN s.a) (.mk k N Q o) f l=(x,mm)->∀X,Ch (fun r=>r=M) T X->(∃u,X.A M= .a u [.d .i64 s.b.A,ofL s.b.B,Y,Z,tv,sv, .d .i64 (mm:Int)])->K (.d .i64 x) X:=fun x mm hx X c hr=>az _ _ (fun r a b=>c.d r a b) fun _=>by grind
   by_cases b1:400<l+1
   ·have aj:(400:Int)<((l+1:Nat):Int):=by omega
    rw[Jd,Ja];simp only[XZ,simprocAttr,f0,y,aj]
    grind
   have aj:¬(400:Int)<((l+1:Nat):Int):=by omega
   rw[Xa b1]at U;rw[Jd,Ja];simp only[XY,simprocAttr,f0,y,aj];by_cases b2:12<f
   ·have ak:(12:Int)<(f:Int):=by omega
    rw[Jd,Ja];simp only[XZ,simprocAttr,f2,ak]
    grind
   have ak:¬(12:Int)<(f:Int):=by omega
   rw[Xa b2]at U;rw[Jd,Ja];simp only[XY,simprocAttr,f2,ak];have wS:=hC.D;rw[Ja];simp only[XY,simprocAttr,f0,f4,y,r0];refine Ji (Juo (P:=P) (s:=s) (Jq wS S.t) ((aa.A (z hC)).B S.t) ((a0.A (z hC)).I S.t) hl) ?_;rintro _ S1 g1 rfl;obtain⟨O,hO⟩:∃O,O=ownS (hasN s.a) (.mk k N Q o):=⟨_,rfl⟩
   rw[<-hO]at U⊢;have C1:Ch (fun r=>r=M) T S1:=hC.I g1;have al:=g1.B r0;have y:=g1.B y;simp only[XY,simprocAttr];refine Ju (fun W X=>(∃x mm,W 7= .d .i64 x/\mayS (hasN s.a) (.mk k N Q o) f l=(x,mm)/\Ch (fun r=>r=M) T X/\∃u,X.A M= .a u [.d .i64 s.b.A,ofL s.b.B,Y,Z,tv,sv, .d .i64 (mm:Int)])) (fun J hJ=> ?_) ?_
   ·rw[Ja];simp only[XY,simprocAttr];obtain⟨L,hL⟩:=loE fun j W X=>∃(i mi:Nat) (x:Int),j+i=o.length/\W 0= .g M 0/\W 2= .d .i64 f/\W 4= .g (up 0 n0) 0/\W 7= .d .i64 x/\W 8= .d .i64 i/\Ch (fun r=>r=M) T X/\(∃u,X.A (up 0 n0)= .a u [.d .i64 k,ofL N,nv,kv])/\(∃u,X.A M= .a u [.d .i64 s.b.A,ofL s.b.B,Y,Z,tv,sv, .d .i64 (mi:Int)])/\mayS (hasN s.a) (.mk k N Q o) f l=(if x≠0 then(x,mi)else JE (hasN s.a) (o.drop i) (f+1) mi)/\(x=0->mi<=400);have ah:o.length<1000000\/O≠0:=by
     by_cases ho:O=0
     ·left;have hf:ownS (hasN s.a) (.mk k N Q o)=if k<1\/9<k then 1 else if o.length≠KS (.mk k N Q o)\/(N≠[]/\k≠9)\/(0<Q.length/\¬(k=7\/k=8))then 12 else if k=9/\hasN s.a N=false then 15 else KG (.mk k N Q o):=rfl;rw[hO,hf]at ho;by_cases d1:k<1\/9<k
      ·omega
      rw[Xa d1]at ho;by_cases d2:o.length≠KS (.mk k N Q o)\/(N≠[]/\k≠9)\/(0<Q.length/\¬(k=7\/k=8))
      ·grind
      rw[Xa d2]at ho;have d3:o.length=KS (.mk k N Q o):=Xd fun h=>d2 (.inl h);by_cases d4:k=9/\hasN s.a N=false
      ·grind
      rw[Xa d4]at ho;have bp:Q.length<=8:=by
       have hk:KG (.mk k N Q o)=if 8<Q.length then 3 else if Kk none Q≠0 then Kk none Q else if k=8/\Q=[]then 12 else 0:=rfl;omega
      have bq:KS (.mk k N Q o)=if k=4\/k=5\/k=6 then 1 else if k=7\/k=8 then Q.length else 0:=rfl
      grind
     omega
    by_cases ho:O=0;rotate_left
    ·
     refine Jct (by decide) ?_;by_cases hz:(0:Int)<o.length
     ·simp only[XZ,simprocAttr,f4,al,l2,ho,hz];exact hJ _ _ ⟨O,l+1,rfl,by grind,C1,_,y⟩
     ·simp only[XZ,simprocAttr,f4,al,l2,hz];exact hJ _ _ ⟨O,l+1,rfl,by grind,C1,_,y⟩
    have ah:o.length<1000000:=ah.resolve_right fun h=>h ho;rw[Xa (fun h=>h ho)]at U;refine JD L o.length (by omega) ((hL _ _ _).2 ⟨0,l+1,O,by omega,f0,f2,f4,rfl,by rfl,C1,⟨_,al⟩,⟨_,y⟩,by grind,fun _=>by omega⟩) ?_;clear f0 f2 f4;intro j W S2 ba;obtain⟨i,mi,x,hj,f0,f2,f4,f7,f8,C2,⟨ua,ab⟩,⟨ub,am⟩,ad,aw⟩:=(hL _ _ _).1 ba;by_cases hi:i<o.length
    ·have ae:(i:Int)<o.length:=by omega
     by_cases hx:x=0
     ·rw[Xa (fun h=>h hx),Xc hi,Kg]at ad;have bb:LstAt (TyC P S2) P S2 kv 4 o:=⟨es,y2.D (z C2),y3,fun i a b=>(y4 i a b).A (z C2)⟩
      obtain⟨q,qo,E',a1,a2,a3,a4,hE,e4,a5⟩:=bb.A hi;have ao:=wiN (i:=i) (by omega);have ap:=wiN (i:=f) (by omega);simp only[XZ,simprocAttr,f0,f2,f4,f7,f8,ab,l2,ae,hx,a1,a4,ap];refine Je (JsK m o[i] (by have:=Yv (k:=k) (n:=N) (ns:=Q) hi;omega) P S2 M s mi _ E' (f+1) C2.D (aa.A (z C2)) hE ag ⟨ub,am⟩ (by omega) (aw hx) hl (.inr trivial)) ?_;rintro _ S3 ⟨c3,⟨u3,aq⟩,rfl⟩;have aq:S3.A M= .a u3 [.d .i64 s.b.A,ofL s.b.B,Y,Z,tv,sv, .d .i64 ((mayS (hasN s.a) o[i] (f+1) mi).2:Nat)]:=aq;have C3:=C2.A c3 fun r w=> .inl w;have bc:S3.A (up 0 n0)= .a ua [.d .i64 k,ofL N,nv,kv]:=by rw[c3.d _ (Jb ab) (fun h=>au h.symm),ab]
      have bd:=QN (hasN s.a) o[i] (f+1) mi (aw hx);simp only[XZ,simprocAttr,f8,ao];exact⟨o.length-(i+1),by omega,(hL _ _ _).2 ⟨i+1,_,_,by omega,f0,f2,f4,rfl,rfl,C3,⟨ua,bc⟩,⟨u3,aq⟩,ad,bd.2⟩⟩
     ·rw[Xe hx]at ad;simp only[XZ,simprocAttr,f4,f7,f8,ab,l2,ae,hx];exact hJ _ _ ⟨x,mi,f7,ad,C2,ub,am⟩
    ·have ae:¬(i:Int)<o.length:=by omega
     simp only[XZ,simprocAttr,f4,f8,ab,l2,ae];refine hJ _ _ ⟨x,mi,f7, ?_,C2,ub,am⟩;rw[ad,Xm (by omega),QT]
     grind
   rintro W S2 ⟨x,mm,f7,br,C2,hr⟩;simp only[XZ,simprocAttr,f7]
   grind
end Go.Proofs.YtdajkeoobbonjaaGreat
