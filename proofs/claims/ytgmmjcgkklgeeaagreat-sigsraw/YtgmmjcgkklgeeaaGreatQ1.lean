/- Types told apart. The document's Add. The document's Add, where the table is full. The  -/
import Derived.Test.YtgmmjcgkklgeeaaGreatText
set_option maxHeartbeats 8000000
set_option linter.unusedVariables false
set_option linter.unusedSimpArgs false
set_option linter.unusedSectionVars false
set_option maxRecDepth 100000
namespace Go.Proofs.YtgmmjcgkklgeeaaGreat
open Eva Go.RowKit
theorem Jac {P:Pt->Prop}{st:St}{v:V}{ns:List Str}(h:SlAt P st v 1 (strs ns)){i:Nat}(hi:i<ns.length):∃r o,JJ 1 v (.int .i64 i)=some (.ptr r o, .no)/\ld1 (st.row r) o=some (ofL ns[i], .no):=by
 obtain⟨r,q,a,b,c,d⟩:=SlAt.one (xs:=ns.map ofL) h (i:=i) (by simpa using hi);exact⟨r,q,a,by rw[d];simp⟩
theorem JpK {α:Type}{a b:List α}{i:Nat}(ha:i<a.length)(hb:i<b.length)(h:a[i]≠b[i]):a≠b:=fun e=>h (by subst e;rfl)
theorem JqF (m:Nat):∀(X Y:Ty),tsz X<m->fitT X=true->fitT Y=true->∀{P Q:Pt->Prop} {st:St} {e1 e2:List V},WF st->TyC P st e1 X->TyC Q st e2 Y->
  Does (tabT tabD) 65 [.agg e1, .agg e2] st fun v S=>Gr st S/\∃b,v= .bool b/\(b=true<->X=Y):=by
 induction m with
 |zero=>intro X Y h;exact absurd h (Nat.not_lt_zero _)
 |succ m ih=>
 intro X Y hX hf hf' P Q st e1 e2 hw h1 h2;obtain⟨k,n,ns,ks⟩:=X;obtain⟨k',n',ns',ks'⟩:=Y;obtain⟨f1,f2,f3⟩:=qf hf;obtain⟨v4,v5,v6⟩:=qf hf';refine Jy (aT Tryz.func65 rfl) rfl ?_;obtain⟨n0,hn0⟩:=nxE st;obtain⟨nv,kv,es,rfl,x1,x2,x3,x4⟩:=h1.inv';obtain⟨mv,lv,fs,rfl,y1,y2,y3,y4⟩:=h2.inv';have c1:=x1.cells;have c2:=x1.sc;have c3:=x2.cells;have c4:=x2.sc;have d1:=y1.cells;have d2:=y1.sc;have d3:=y2.cells;have d4:=y2.sc;have xl1:=x1.len;have xl2:=x2.len;have yl1:=y1.len;have yl2:=y2.len;rw[JW]at xl1 yl1;rw[x3]at xl2;rw[y3]at yl2;obtain⟨p2,hp2⟩:=exE (up 0 n0);obtain⟨p3,hp3⟩:=exE (up 1 n0);simp only[CT,Tryz.f65,XY,simprocAttr];rw[Jb];simp only[XY,simprocAttr,hn0,c1,c2,c3,c4,d1,d2,d3,d4];rw[<-hp2,<-hp3];obtain⟨S0,hS0⟩:=exE ((st.new fun t=> .cells t [.int .i64 k,ofL n,nv,kv]).new fun t=> .cells t [.int .i64 k',ofL n',mv,lv]);have G0:Gr st S0:=by rw[hS0];exact(Gr.new hw (Ja _)).nn (Ja _)
 obtain⟨t2,r2⟩:∃t,S0.row p2= .cells t [.int .i64 k,ofL n,nv,kv]:=⟨_,by rw[hS0,hp2];simp only[XZ,simprocAttr,hn0];rfl⟩
 obtain⟨t3,r3⟩:∃t,S0.row p3= .cells t [.int .i64 k',ofL n',mv,lv]:=⟨_,by rw[hS0,hp3];simp only[XZ,simprocAttr,hn0];rfl⟩
 rw[<-hS0];clear hS0;have nope:∀{S:St},Gr st S->¬(Ty.mk k n ns ks=Ty.mk k' n' ns' ks')->Gr st S/\∃b,V.bool false= .bool b/\(b=true<->Ty.mk k n ns ks=Ty.mk k' n' ns' ks'):=fun g h=>⟨g,false,rfl,fun e=>(by cases e),fun e=>absurd e h⟩
 by_cases hk:k=k';rotate_left
 ·simp only[XZ,simprocAttr,r2,r3,hk];exact nope G0 fun e=>hk (by injection e)
 subst hk;by_cases hn:n=n';rotate_left
 ·simp only[XZ,simprocAttr,r2,r3,hn];exact nope G0 fun e=>hn (by injection e)
 subst hn;by_cases hl:ns.length=ns'.length;rotate_left
 ·have hl':((ns.length:Int)=(ns'.length:Int))=False:=eq_false (by omega);simp only[XZ,simprocAttr,r2,r3,xl1,yl1,hl'];exact nope G0 fun e=>hl (by injection e with _ _ e;rw[e])
 have hl':((ns.length:Int)=(ns'.length:Int))=True:=eq_true (by omega);by_cases hm:ks.length=ks'.length;rotate_left
 ·have hm':((ks.length:Int)=(ks'.length:Int))=False:=eq_false (by omega);simp only[XZ,simprocAttr,r2,r3,xl1,yl1,xl2,yl2,hl',hm'];exact nope G0 fun e=>hm (by injection e with _ _ _ e;rw[e])
 have hm':((ks.length:Int)=(ks'.length:Int))=True:=eq_true (by omega);rw[Je,Jb];simp only[XY,simprocAttr,r2,r3,xl1,xl2,yl1,yl2,hl',hm'];have x10:=x1.gr G0;have y10:=y1.gr G0;refine JM (fun fr S=>S=S0/\fr 2= .ptr p2 0/\fr 3= .ptr p3 0/\ns=ns') ?_ ?_
 ·rw[Jb];simp only[XY,simprocAttr];obtain⟨L,hL⟩:=loE fun j fr S=>∃(i:Nat),j+i=ns.length/\fr 2= .ptr p2 0/\fr 3= .ptr p3 0/\fr 5= .int .i64 i/\S=S0/\∀q (h:q<ns.length) (h':q<ns'.length),q<i->ns[q]=ns'[q];refine Jn L ns.length (by omega) ((hL _ _ _).2 ⟨0,by omega,rfl,rfl,by simp only[XZ,simprocAttr]<;>rfl,rfl,fun q _ _ h=>absurd h (by omega)⟩) ?_;intro j fr S hLj;obtain⟨i,hj,f2,f3,f5,rfl,heq⟩:=(hL _ _ _).1 hLj;by_cases hi:i<ns.length
  ·have hi':(i:Int)<ns.length:=by omega
   have hadd1:IntKind.i64.wrap ((i:Int)+1)=((i+1:Nat):Int):=by rw[Jo (by omega) (by omega)];rfl
   obtain⟨r,q,a1,a4⟩:=Jac x10 hi;obtain⟨r',q',b1,b4⟩:=Jac y10 (i:=i) (by omega);by_cases he:ns[i]=ns'[i]'(by omega)
   ·simp only[XZ,simprocAttr,f2,f3,f5,r2,r3,xl1,hi',a1,a4,b1,b4,hadd1,Jj,he];exact⟨j-1,by omega,(hL _ _ _).2 ⟨i+1,by omega,f2,f3,rfl,rfl,fun q h h' hq=>by
     by_cases e:q=i
     ·subst e;exact he
     ·exact heq q h h' (by omega)⟩⟩
   ·simp only[XZ,simprocAttr,f2,f3,f5,r2,r3,xl1,hi',a1,a4,b1,b4,Jj,he];exact nope G0 fun e=>by injection e with _ _ e;exact JpK hi (by omega) he e
  ·have hi':¬(i:Int)<ns.length:=by omega
   simp only[XZ,simprocAttr,f2,f3,f5,r2,r3,xl1,hi'];exact List.ext_getElem hl fun q h h'=>heq q h h' (by omega)
 rintro fr S ⟨rfl,f2,f3,hns⟩;refine JM (fun fr S'=>Gr S S'/\ks=ks') ?_ fun fr S' h=>by
  simp only[XZ,simprocAttr];exact⟨G0.trans h.1,true,rfl,fun _=>by rw[hns,h.2],fun _=>rfl⟩
 rw[Jb];simp only[XY,simprocAttr];obtain⟨L,hL⟩:=loE fun j fr S'=>∃(i:Nat),j+i=ks.length/\fr 2= .ptr p2 0/\fr 3= .ptr p3 0/\fr 6= .int .i64 i/\Gr S S'/\∀q (h:q<ks.length) (h':q<ks'.length),q<i->ks[q]=ks'[q];refine Jn L ks.length (by omega) ((hL _ _ _).2 ⟨0,by omega,f2,f3,by simp only[XZ,simprocAttr]<;>rfl,Gr.refl G0.wf,fun q _ _ h=>absurd h (by omega)⟩) ?_;intro j fr S' hLj;obtain⟨i,hj,f2,f3,f6,g,heq⟩:=(hL _ _ _).1 hLj;have r2:=g.cells r2;have r3:=g.cells r3;by_cases hi:i<ks.length
 ·have hi':(i:Int)<ks.length:=by omega
  have hadd1:IntKind.i64.wrap ((i:Int)+1)=((i+1:Nat):Int):=by rw[Jo (by omega) (by omega)];rfl
  have hie:i<es.length:=by omega
  have hif:i<fs.length:=by omega
  obtain⟨r,q,a1,a2,a3,a4,a5⟩:=((x2.gr G0).gr g).elem hie;obtain⟨r',q',b1,b2,b3,b4,b5⟩:=((y2.gr G0).gr g).elem hif;rw[Je,Jb];simp only[XY,simprocAttr,f2,f6,r2,xl2,hi'];rw[Je];simp only[XY,simprocAttr];rw[Jb];simp only[XY,simprocAttr,f2,f3,f6,r2,r3,a1,a4,b1,b4];refine Ji (ih ks[i] (ks'[i]'(by omega)) (by have:=Ym (k:=k) (n:=n) (ns:=ns) hi;omega) (jL (by assumption) i hi) (jL v6 i (by omega)) (JD g.wf _) (((x4 i hie hi).gr (G0.trans g)).low _) (((y4 i hif (by omega)).gr (G0.trans g)).low _)) ?_;rintro _ Se ge ⟨b,rfl,hb⟩
  cases b with
  | true=>
    simp only[XZ,simprocAttr,f6,hadd1,Jj];exact⟨j-1,by omega,(hL _ _ _).2 ⟨i+1,by omega,f2,f3,rfl,g.trans ge,fun q h h' hq=>by
     by_cases e:q=i
     ·subst e;exact hb.1 rfl
     ·exact heq q h h' (by omega)⟩⟩
  | false=>
    simp only[XZ,simprocAttr,Jj];exact nope (G0.trans (g.trans ge)) fun e=>by
     injection e with _ _ _ e;have:=hb.2 (by subst e;rfl)
     cases this
 ·have hi':¬(i:Int)<ks.length:=by omega
  simp only[XZ,simprocAttr,f2,f6,r2,xl2,hi'];exact⟨g,List.ext_getElem hm fun q h h'=>heq q h h' (by omega)⟩
theorem Jox (mm:Nat):∀(X:Ty),tsz X<mm->∀{Sb st:St} {ru:Pt} {lv tv:V} {rest:List V} {O:Pt->Prop} {tb:Tb} {trees:List Ty} {e:List V} {left:Int},RT Sb st ru lv tv rest O tb.nodes trees->Qa tb.nodes trees->TyC (fun r=>Sb.row r≠ .none) st e X->(addT X left tb).2.2.1=0->(∃r0 r1 r2 r3 r4 r5 r6 r7 r8,rest=[r0,r1,r2,r3,r4,r5,r6,r7,r8])->
  Does (tabT tabD) 31 [.ptr ru 0, .agg e] st fun v S=>∃lv' tv' O' trees',RT Sb S ru lv' tv' rest O' (addT X left tb).1.nodes trees'/\Qa (addT X left tb).1.nodes trees'/\Kp (Bt ru lv tv O) (Bt ru lv' tv' O') st S/\v= .tup [.int .i64 ((addT X left tb).2.1:Nat), .int .i64 0]:=by
 induction mm with
 |zero=>intro X h;exact absurd h (Nat.not_lt_zero _)
 |succ mm ih=>
 intro X hX Sb st ru lv tv rest O tb trees e left hR hI hx he hrest;obtain⟨k,n,ns,ks⟩:=X;obtain⟨hk8,hn8,hes,hel,ha1,ha2⟩:=JpA he;have hfit:=Jes _ he;obtain⟨_,_,hfk⟩:=qf hfit;refine Jy (aT Tryz.func31 rfl) rfl ?_;have hw:=hR.g.wf;obtain⟨n0,hn0⟩:=nxE st;obtain⟨nv,kv,es,rfl,x1,x2,x3,x4⟩:=hx.inv';have c1:=x1.cells;have c2:=x1.sc;have c3:=x2.cells;have c4:=x2.sc;have len2:=x2.len;rw[x3]at len2;obtain⟨p3,hp3⟩:=exE (up 0 n0);simp only[CT,Tryz.f31,XY,simprocAttr];rw[Jb];simp only[XY,simprocAttr,hn0,c1,c2,c3,c4];rw[<-hp3];obtain⟨S0,hS0⟩:=exE (st.new fun t=> .cells t [.int .i64 k,ofL n,nv,kv]);have G0:Gr st S0:=by rw[hS0];exact Gr.new hw (Ja _)
 obtain⟨t3,r3⟩:∃t,S0.row p3= .cells t [.int .i64 k,ofL n,nv,kv]:=⟨_,by rw[hS0,hp3];simp only[XZ,simprocAttr,hn0];rfl⟩
 have p3n:st.row p3= .none:=by rw[hp3];exact nx0 hw hn0 0
 rw[<-hS0];clear hS0;have w0:=G0.wf;obtain⟨n1,hn1⟩:=nxE S0;have o3:=fun k=>nes (Jz w0 hn1 (Jc r3) k);rw[Jb];simp only[XY,simprocAttr,r3,hn1,o3];obtain⟨x0,hx0⟩:=exE (up 0 n1);obtain⟨S1,hS1⟩:=exE (S0.new fun t=>Row.cells t []);have G1:Gr S0 S1:=by rw[hS1];exact Gr.new w0 (Ja _)
 obtain⟨t1,r1⟩:∃t,S1.row x0= .cells t []:=⟨_,by rw[hS1,hx0];simp only[XZ,simprocAttr,hn1];rfl⟩
 have x0n:S0.row x0= .none:=by rw[hx0];exact nx0 w0 hn1 0
 rw[<-hS1,<-hx0];clear hS1;have hn3:p3≠x0:=fun e=>by rw[<-e,r3]at x0n;cases x0n
 have stD:∀r,S0.row r= .none->st.row r= .none:=fun r e=>Ch.fresh (Ch.of (fun _=>False) G0) e;have SbD:∀r,st.row r= .none->Sb.row r= .none:=fun r e=>Ch.fresh (Ch.of (fun _=>False) hR.g) e;have sl0:SlF st S1 (.slx x0 0 0 1 0) 1 []:=⟨by simp, .inr ⟨x0,t1,stD _ x0n,by rw[r1];rfl, .inr rfl⟩⟩
 have G01:=G0.trans G1;refine jh (S0:=st) G01 sl0 (x1.gr G01) (kf _) (by rw[JW];omega) (by rw[JW];simp;omega) fun Sa v1 ga hSl hrow hkeep=> ?_;simp only[List.nil_append]at hSl;have r3a:Sa.row p3= .cells t3 [.int .i64 k,ofL n,nv,kv]:=(hkeep p3 (Jc (G1.cells r3)) fun e=>hn3 (by injection e with e;exact e.symm)).trans (G1.cells r3);have v1a:=hSl.at.sc;have v1b:=hSl.at.cells;obtain⟨nA,hnA⟩:=nxE Sa;simp only[XY,simprocAttr,hnA,v1a,v1b];obtain⟨p6,hp6⟩:=exE (up 0 nA);obtain⟨S2,hS2⟩:=exE ((Sa.new fun t=> .cells t [.int .i64 0,ofL [], .snil, .snil]).wr (up 0 nA) Sa.t fun u=> .cells u [.int .i64 k,ofL n,v1, .snil]);have G2:Gr Sa S2:=by rw[hS2];exact(Gr.refl ga.wf).nw hnA (Ja _) (Ja _)
 obtain⟨t6,r6⟩:∃t,S2.row p6= .cells t [.int .i64 k,ofL n,v1, .snil]:=⟨_,by rw[hS2,hp6];simp only[XZ,simprocAttr,hnA];rfl⟩
 have p6n:Sa.row p6= .none:=by rw[hp6];exact nx0 ga.wf hnA 0
 rw[<-hS2,<-hp6];clear hS2;refine⟨Jce (Kq (v:= .slx x0 0 0 1 0) (w:= .ptr p3 0) (q:=p3) ?_ ?_ rfl fun e=>hn3 (by injection e with e;exact e.symm)) (Kq (v:= .slx x0 0 0 1 0) (w:= .ptr p3 1) (q:=p3) ?_ ?_ rfl fun e=>hn3 (by injection e with e;exact e.symm)), ?_⟩
 ·simp only[XZ,simprocAttr]
 ·simp only[XZ,simprocAttr]
 ·simp only[XZ,simprocAttr]
 ·simp only[XZ,simprocAttr]
 have G02:Gr st S2:=ga.trans G2;have p6s:st.row p6= .none:=Ch.fresh (Ch.of (fun _=>False) ga) p6n;have v1al:∀r,rowOf v1=some r->Sa.row r≠ .none:=fun r e=>hSl.some e;have v13:∀r,rowOf v1=some r->r≠p3/\r≠p6:=fun r e=>⟨fun x=>(by
  subst x;rcases hrow with h|h
  ·rw[h]at e;injection e with e;exact hn3 e.symm
  ·rw[h]at e;injection e with e;have:=Kj G1.wf;rw[e,G1.cells r3]at this;cases this),fun x=>v1al r e (by rw[x];exact p6n)⟩
 have n36:p3≠p6:=fun x=>by rw[<-x,r3a]at p6n;cases p6n
 have ow:∀r,st.row r= .none->S2.row r≠ .none->S2.row r≠ .none/\¬Bt ru lv tv O r:=fun r e a=>⟨a,fun x=>hR.alive r x e⟩
 have r32:=G2.cells r3a;have M0:Mid5 Sb st S2 ru p3 p6 lv tv lv tv rest O O tb.nodes trees [.int .i64 k,ofL n,nv,kv] [.int .i64 k,ofL n] v1 .snil ns []:=
  {rt:=hR.gr G02,kp:=Kp.gr G02,r3:=⟨_,r32⟩,r6:=⟨_,r6⟩,nm:=(hSl.gr G2).early SbD,kd:=SlF.nil _ _ _,fs:=fun r e=>e.elim (fun e=> .inr (hSl.row e).1) (fun e=>nomatch e),apk:=fun r e=>(nomatch e),ap1:=v13,ap6:=n36,f3:=p3n,f6:=p6s,
   own:=fun r e=>by
    rcases e with rfl|rfl|e|e
    ·exact ow _ p3n (Jc r32)
    ·exact ow _ p6s (Jc r6)
    ·exact ow _ (hSl.row e).1 ((hSl.gr G2).some e)
    ·cases e}
 obtain⟨q0,q1,q2,q3,q4,q5,q6,q7,q8,rfl⟩:=hrest;clear hrow hkeep sl0 G01 r1 x0n hn3 o3 hn1 hn0 hnA v1a v1b ow r32 v1al r6 r3a t6 t1;have kx:∀{S:St} {lv' tv' rest' O' nd tr},RT Sb S ru lv' tv' rest' O' nd tr->∀{E:List V} {T:Ty},TyC (fun r=>Sb.row r≠ .none) st E T->TyC (fun r=>Sb.row r≠ .none) S E T:=fun{_ _ _ _ _ _ _} R {_ _} h=>TyC.imp h fun q p _=>⟨p,by rw[R.g.same q p,hR.g.same q p]⟩
 obtain⟨F,hF⟩:∃F:Fr->St->Prop,∀fr S,F fr S<->∃(lv' tv' kv':V) (O':Pt->Prop) (tr:List Ty),fr 0= .ptr ru 0/\fr 3= .ptr p3 0/\fr 6= .ptr p6 0/\
   Mid5 Sb st S ru p3 p6 lv tv lv' tv' [q0,q1,q2,q3,q4,q5,q6,q7,q8] O O' (Jw ks (left-1) tb).1.nodes tr [.int .i64 k,ofL n,nv,kv] [.int .i64 k,ofL n] v1 kv' ns (Jw ks (left-1) tb).2.1/\Qa (Jw ks (left-1) tb).1.nodes tr:=⟨_,fun _ _=>Iff.rfl⟩
 refine JM F ?_ ?_
 ·rw[Jb];simp only[XY,simprocAttr];obtain⟨L,hL⟩:∃L:Nat->Fr->St->Prop,∀j fr S,L j fr S<->∃(i:Nat) (lv' tv' kv':V) (O':Pt->Prop) (tr:List Ty) (tbi:Tb) (li:Int) (ids:List Nat),j+i=ks.length/\fr 0= .ptr ru 0/\fr 3= .ptr p3 0/\fr 6= .ptr p6 0/\fr 7= .int .i64 i/\
   Mid5 Sb st S ru p3 p6 lv tv lv' tv' [q0,q1,q2,q3,q4,q5,q6,q7,q8] O O' tbi.nodes tr [.int .i64 k,ofL n,nv,kv] [.int .i64 k,ofL n] v1 kv' ns ids/\Qa tbi.nodes tr/\
   (Jw (ks.drop i) li tbi).2.2.1=0/\(Jw ks (left-1) tb).1=(Jw (ks.drop i) li tbi).1/\(Jw ks (left-1) tb).2.1=ids++(Jw (ks.drop i) li tbi).2.1/\ids.length=i:=⟨_,fun _ _ _=>Iff.rfl⟩
  refine Jn L ks.length (by omega) ((hL _ _ _).2 ⟨0,lv,tv, .snil,O,trees,tb,left-1,[],by omega,rfl,rfl,rfl,by simp only[XZ,simprocAttr]<;>rfl,M0,hI,hes,rfl,rfl,rfl⟩) ?_;intro j fr S hLj;obtain⟨i,lv',tv',kw,O',tr,tbi,li,ids,hj,f0,f3,f6,f7,M,T,e0,e1,e2,e3⟩:=(hL _ _ _).1 hLj;obtain⟨t3,m3⟩:=M.r3;obtain⟨t6,m6⟩:=M.r6;simp only[List.cons_append,List.nil_append]at m6;by_cases hi:i<ks.length
  ·have hi':(i:Int)<ks.length:=by omega
   have hadd1:IntKind.i64.wrap ((i:Int)+1)=((i+1:Nat):Int):=by rw[Jo (by omega) (by omega)];rfl
   have hx2:LstAt (TyC (fun r=>Sb.row r≠ .none) S) (fun r=>Sb.row r≠ .none) S kv 4 ks:=⟨es,x2.imp fun r p _=>⟨p,by rw[M.rt.g.same r p,hR.g.same r p]⟩,x3,fun i a b=>kx M.rt (x4 i a b)⟩
   obtain⟨q,qo,E,a1,a2,a3,a4,hE,e4,a5⟩:=hx2.elem hi;rw[List.drop_eq_getElem_cons hi]at e0 e1 e2;obtain⟨s1,s2,s3,s4⟩:=Jn5 e0;rw[s3]at e1;rw[s4]at e2;simp only[XZ,simprocAttr,f0,f3,f7,m3,len2,hi',a1,a4];refine Jd (ih ks[i] (by have:=Ym (k:=k) (n:=n) (ns:=ns) hi;omega) M.rt T hE s1 ⟨_,_,_,_,_,_,_,_,_,rfl⟩) ?_;rintro _ S3 ⟨lv2,tv2,O2,tr2,R2,T2,K2,rfl⟩;have M2:=M.call R2 K2;obtain⟨u6,m62⟩:=M2.r6;simp only[List.cons_append,List.nil_append]at m62;obtain⟨id,hid⟩:∃id,id=(addT ks[i] li tbi).2.1:=⟨_,rfl⟩
   rw[<-hid]at e2⊢;have w3:=R2.g.wf;obtain⟨n3,hn3⟩:=nxE S3;simp only[XZ,simprocAttr,f6,m62,hn3];have gn:Gr S3 (S3.new fun t=> .cells t [.int .i64 id]):=Gr.new w3 (Ja _);have hone:SlAt (fun r=>r=up 0 n3) (S3.new fun t=> .cells t [.int .i64 id]) (.slx (up 0 n3) 0 1 1 1) 1 [[.int .i64 id]]:=by
    have:=Qd (st:=S3) (z:=1) (e:=[.int .i64 id]) rfl
    rwa [hn3]at this
   have M3:=M2.gr gn;refine Qw (S0:=Sb) M3.rt.g M3.kd hone (fun e he=>by rw[List.mem_singleton.1 he];rfl) (by simp) (by simp) (by rw[Yo];simp;omega) ?_;intro S4 v4 g4 h4 rv4 kp4;have r64:S4.row p6= .cells u6 [.int .i64 k,ofL n,v1,kw]:=(kp4 p6 (Jc (gn.cells m62)) fun e=>(M3.apk _ e).2.1 rfl).trans (gn.cells m62);have hsc:=h4.at.sc;have hcl:=h4.at.cells;simp only[XZ,simprocAttr,f6,f7,r64,hsc,hcl,hadd1];refine⟨ks.length-(i+1),by omega,(hL _ _ _).2 ⟨i+1,lv2,tv2,v4,O2,tr2,(addT ks[i] li tbi).1,(addT ks[i] li tbi).2.2.2,ids++[id],by omega,f0,f3,f6,rfl, ?_,T2,s2,e1,by rw[e2];simp,by simp[e3]⟩⟩;refine M3.push (S1:=S4) (by unfold ints at h4⊢;simpa using h4) rv4 kp4 (fun r e=>by simp only[Jk,e,if_false]) ⟨_,by simp only[XZ,simprocAttr];rfl⟩ (g4.wr ?_ (Jc r64) (by rw[r64];rfl) (Ja _));exact SbD _ p6s
  ·have hi':¬(i:Int)<ks.length:=by omega
   rw[List.drop_eq_nil_of_le (by omega),KJ]at e1 e2;simp only[XZ,simprocAttr,f3,f7,m3,len2,hi'];refine(hF _ _).2 ⟨lv',tv',kw,O',tr,f0,f3,f6, ?_⟩;rw[e1,e2,List.append_nil];exact⟨M,T⟩
 clear M0 hI;intro fr S hFf;obtain⟨lv',tv',kw,O',tr,f0,f3,f6,M,T⟩:=(hF _ _).1 hFf;obtain⟨_,_,hlk,_⟩:=qP ks hes;generalize hA:Jw ks (left-1) tb=A at hes hel ha1 ha2 M T hlk;obtain⟨tbE,ids,eA,lA⟩:=A;simp only at hes hel ha1 ha2 M T hlk;clear hF hFf F hes hA;rw[ha1,ha2];clear ha1 ha2 he;have hlay:layS tbE ⟨k,n,ns,ids⟩=match idx ⟨k,n,ns,ids⟩ tbE.nodes 0 with
  |some i=>(tbE,i,0)
  |none=>if 120<=tbE.nodes.length then(tbE,0,20)else({tbE with nodes:=tbE.nodes++[⟨k,n,ns,ids⟩]},tbE.nodes.length,0):=rfl
 have hidx:Ki tbE.nodes (.mk k n ns ks)=idx ⟨k,n,ns,ids⟩ tbE.nodes 0:=by rw[Ki,hlk]
 obtain⟨t3,m3⟩:=M.r3;obtain⟨t6,m6⟩:=M.r6;simp only[List.cons_append,List.nil_append]at m6;obtain⟨tc,rc⟩:=M.rt.cell;obtain⟨es1,l1,l2,l3⟩:=M.rt.l;obtain⟨ts1,u1,u2,u3⟩:=M.rt.t;have ll:=l1.at.len;have lt:=u1.at.len;have hXS:=kx M.rt hx;obtain⟨F,hF⟩:=opE fun fr S'=>fr 0= .ptr ru 0/\fr 3= .ptr p3 0/\fr 6= .ptr p6 0/\Gr S S'/\idx ⟨k,n,ns,ids⟩ tbE.nodes 0=none;refine JM F ?_ ?_
 ·rw[Jb];simp only[XY,simprocAttr];obtain⟨L,hL⟩:=loE fun j fr S'=>∃(i:Nat),j+i=tr.length/\fr 0= .ptr ru 0/\fr 3= .ptr p3 0/\fr 6= .ptr p6 0/\fr 10= .int .i64 i/\Gr S S'/\∀q (a:q<tr.length),q<i->tr[q]≠ .mk k n ns ks;have trl:tr.length<1000000:=by
   have:=T.len;have:=T.few;omega
  refine Jn L tr.length (by omega) ((hL _ _ _).2 ⟨0,by omega,f0,f3,f6,by simp only[XZ,simprocAttr]<;>rfl,Gr.refl M.rt.g.wf,fun q _ h=>absurd h (Nat.not_lt_zero _)⟩) ?_;clear f0 f3 f6;intro j fr S' hLj;obtain⟨i,hj,f0,f3,f6,f10,g,hne⟩:=(hL _ _ _).1 hLj;have rc':=g.cells rc;have m3':=g.cells m3;by_cases hi:i<tr.length
  ·have hi':(i:Int)<ts1.length:=by omega
   have hadd1:IntKind.i64.wrap ((i:Int)+1)=((i+1:Nat):Int):=by rw[Jo (by omega) (by omega)];rfl
   have hl2:LstAt (TyC (fun r=>Sb.row r≠ .none) S') (fun r=>Sb.row r= .none) S' tv' 4 tr:=⟨ts1,(u1.gr g).at,u2,fun i a b=>(u3 i a b).gr g⟩
   obtain⟨q,qo,E,a1,a2,a3,a4,hE,e4,a5⟩:=hl2.elem hi;simp only[XZ,simprocAttr,f0,f3,f10,rc',m3',lt,hi',a1,a4];have ft:=T.fit _ (List.getElem_mem hi);refine Ji (JqF _ tr[i] (.mk k n ns ks) (Nat.lt_succ_self _) ft hfit (JD g.wf _) (hE.low _) ((hXS.gr g).low _)) ?_;rintro _ S2 g2 ⟨b,rfl,hb⟩
   cases b with
   | true=>
     have e:=hb.1 rfl;rw[T.at hi,hidx]at e;have e2:layS tbE ⟨k,n,ns,ids⟩=(tbE,i,0):=by rw[hlay,e]
     simp only[XZ,simprocAttr,f10];rw[e2];exact⟨lv',tv',O',tr,M.rt.gr (g.trans g2),T,M.kp.trans (Kp.gr (g.trans g2)),rfl⟩
   | false=>
     simp only[XZ,simprocAttr,f10,hadd1];exact⟨tr.length-(i+1),by omega,(hL _ _ _).2 ⟨i+1,by omega,f0,f3,f6,rfl,g.trans g2,fun q a h=>by
      by_cases x:q=i
      ·subst x;exact fun e=>(by cases hb.2 e)
      ·exact hne q a (by omega)⟩⟩
  ·have hi':¬(i:Int)<ts1.length:=by omega
   simp only[XZ,simprocAttr,f0,f10,rc',lt,hi'];refine(hF _ _).2 ⟨f0,f3,f6,g, ?_⟩
   cases e:idx ⟨k,n,ns,ids⟩ tbE.nodes 0 with
   |none=>rfl
   | some q=>
     obtain⟨_,b⟩:=Jar e;have hq:q<tr.length:=by
      rw[T.len];exact(List.getElem?_eq_some_iff.1 b).1
     exact absurd ((T.at hq).2 (hidx.trans e)) (hne q hq (by omega))
 clear f0 f3 f6;intro fr S' hFf;obtain⟨f0,f3,f6,g,hno⟩:=(hF _ _).1 hFf;obtain⟨h120,hl2⟩:tbE.nodes.length<120/\layS tbE ⟨k,n,ns,ids⟩=({tbE with nodes:=tbE.nodes++[⟨k,n,ns,ids⟩]},tbE.nodes.length,0):=by
  rw[hno]at hlay;by_cases c:120<=tbE.nodes.length
  ·rw[if_pos c]at hlay;rw[hlay]at hel;cases hel
  ·rw[if_neg c]at hlay;exact⟨by omega,hlay⟩
 rw[hl2];have M:=M.gr g;have rc:=g.cells rc;have m3:=g.cells m3;have m6:=g.cells m6;have l1:=l1.gr g;have u1:=u1.gr g;have hXS:=hXS.gr g;have l3:∀i (a:i<es1.length) (b:i<tbE.nodes.length),NdC O' S' es1[i] tbE.nodes[i]:=fun i a b=>(l3 i a b).gr g;have u3:∀i (a:i<ts1.length) (b:i<tr.length),TyC (fun r=>Sb.row r≠ .none) S' ts1[i] tr[i]:=fun i a b=>(u3 i a b).gr g;have n120:¬(120:Int)<=es1.length:=by omega
 have s1:=M.nm.at.sc;have s2:=M.kd.at.sc;have s3:=M.nm.at.cells;have s4:=M.kd.at.cells;rw[Je,Jb];simp only[XY,simprocAttr,f0,rc,ll,n120];obtain⟨nS,hnS⟩:=nxE S';rw[Jb];simp only[XY,simprocAttr,f0,f6,rc,m6,hnS,s1,s2,s3,s4];obtain⟨A5,hA5⟩:=exE (S'.new fun t=> .cells t [.int .i64 k,ofL n,v1,kw]);have ga5:Gr S' A5:=by rw[hA5];exact Gr.new M.rt.g.wf (Ja _)
 have hone:SlAt (fun r=>r=up 0 nS) A5 (.slx (up 0 nS) 0 1 4 1) 4 [[.int .i64 k,ofL n,v1,kw]]:=by
  have:=Qd (st:=S') (z:=4) (e:=[.int .i64 k,ofL n,v1,kw]) rfl
  rwa [hnS,<-hA5]at this
 rw[<-hA5];clear hA5 hnS;have hal:=M.rt.alive;have al5:=fun r (e:S'.row r≠ .none)=>(ga5.same r e▸e:A5.row r≠ .none)
 have sc4:okC [[V.int .i64 k,ofL n,v1,kw]]:=fun e he=>by rw[List.mem_singleton.1 he];simp only[Km,List.all_cons,List.all_nil,s1,s2];rfl
 refine Jrn (JpB (R:=fun v' S=>Gr Sb S/\SlF Sb S v' 4 (es1++[[.int .i64 k,ofL n,v1,kw]])/\rowOf v'=some A5.nx/\∀p,A5.row p≠ .none->rowOf lv'≠some p->S.row p=A5.row p) ga5.wf (Qw (S0:=Sb) (M.rt.g.trans ga5) (l1.gr ga5) hone sc4 (by simp) (by simp) (by simp;omega) fun S' v' a b c d=>⟨a,b,c,d⟩)) ?_;rintro v5 A6 ⟨⟨g6,h5,rv5,kp5⟩,lv6⟩;have rc6:A6.row ru= .cells tc [lv',tv',q0,q1,q2,q3,q4,q5,q6,q7,q8]:=(kp5 ru (al5 _ (Jc rc)) fun e=>(M.rt.apl ru e).2 rfl).trans (ga5.cells rc);have s5:=h5.at.sc;have s6:=h5.at.cells;have ll5:=h5.at.len;simp only[XY,simprocAttr,f0,rc6,s5,s6];obtain⟨A7,hA7⟩:=exE (A6.wr ru tc fun u=> .cells u [v5,tv',q0,q1,q2,q3,q4,q5,q6,q7,q8]);have g7:Gr Sb A7:=by rw[hA7];exact g6.wr M.rt.ru0 (Jc rc6) (by rw[rc6];rfl) (Ja _)
 have rc7:∃t,A7.row ru= .cells t [v5,tv',q0,q1,q2,q3,q4,q5,q6,q7,q8]:=⟨_,by rw[hA7];simp only[XZ,simprocAttr];rfl⟩
 have kp7:∀r,r≠ru->A7.row r=A6.row r:=fun r e=>by rw[hA7];simp only[Jk,e,if_false]
 rw[<-hA7];clear hA7;obtain⟨t7,rc7⟩:=rc7;have k57:∀r,S'.row r≠ .none->r≠ru->rowOf lv'≠some r->A7.row r=S'.row r:=fun r e a b=>by rw[kp7 r a,kp5 r (al5 r e) b,ga5.same r e]
 have o3:=M.own p3 (.inl rfl);have m37:=(k57 p3 (Jc m3) (fun x=>o3.2 (.inl x)) fun x=>o3.2 (.inr (.inl x))).trans m3;have u17:SlF Sb A7 tv' 4 ts1:=u1.keep fun r e=>k57 r (u1.some e) (M.rt.apt r e) fun x=>(M.rt.apl r x).1 e;have d5:∀r,rowOf v5=some r->S'.row r= .none:=fun r e=>by
  rw[rv5]at e;injection e with e;exact Ch.fresh (Ch.of (fun _=>False) ga5) (e▸Kj ga5.wf)
 have h57:SlF Sb A7 v5 4 (es1++[[.int .i64 k,ofL n,v1,kw]]):=h5.keep fun r e=>kp7 r fun x=>Jc rc (x▸d5 r e);obtain⟨nB,hnB⟩:=nxE A7;have lt7:=u17.at.len;rw[Jb];simp only[XY,simprocAttr,f0,f3,rc7,m37,lt7,hnB,c1,c2,c3,c4];obtain⟨A8,hA8⟩:=exE (A7.new fun t=> .cells t [.int .i64 0,ofL [], .snil, .snil]);have ga8:Gr A7 A8:=by rw[hA8];exact Gr.new g7.wf (Ja _)
 have hzer:SlAt (fun r=>r=up 0 nB) A8 (.slx (up 0 nB) 0 1 4 1) 4 [[.int .i64 0,ofL [], .snil, .snil]]:=by
  have:=Qd (st:=A7) (z:=4) (e:=[.int .i64 0,ofL [], .snil, .snil]) rfl
  rwa [hnB,<-hA8]at this
 rw[<-hA8];clear hA8 hnB;have sc8:okC [[V.int .i64 0,ofL [], .snil, .snil]]:=fun e he=>by rw[List.mem_singleton.1 he];rfl
 refine Qw (S0:=Sb) (g7.trans ga8) (u17.gr ga8) hzer sc8 (by simp) (by simp) (by have:=T.few;have:=T.len;simp;omega) ?_;intro A9 v9 g9 h9 rv9 kp9;have tru:∀x,rowOf tv'=some x->x≠ru:=M.rt.apt;have rc9:A9.row ru= .cells t7 [v5,tv',q0,q1,q2,q3,q4,q5,q6,q7,q8]:=(kp9 ru (Jc (ga8.cells rc7)) fun e=>tru _ e rfl).trans (ga8.cells rc7);have s7:=h9.at.sc;have s8:=h9.at.cells;obtain⟨r9,t9,b1,b2,b3,b4,b5,b6⟩:=Jpt h9 (k:=ts1.length) (by simp);have d9':A8.row r9= .none:=by
  rw[rv9]at b1;injection b1 with b1;exact b1▸Kj ga8.wf
 have d9:A7.row r9= .none:=Ch.fresh (Ch.of (fun _=>False) ga8) d9';have hr9u:r9≠ru:=fun e=>by rw[e,rc7]at d9;cases d9
 have e9:∀r,rowOf v9=some r->S'.row r= .none:=fun r e=>by
  rw[b1]at e;injection e with e;refine Classical.byContradiction fun x=> ?_;have a:=lv6 r (al5 r x);by_cases y:r=ru
  ·exact hr9u (e.trans y)
  ·rw[<-kp7 r y,<-e]at a;exact a d9
 have hnes:=nes hr9u;simp only[XM,simprocAttr,f0,rc9,s7,s8,b4,b3,hnes];refine⟨⟨by rw[JF h9.1];simp;omega,by rw[c2,c4];rfl⟩,Jce (Kq (v:= .ptr r9 (ts1.length*4)) (w:= .ptr ru 1) (q:=ru) ?_ ?_ rfl fun e=>hr9u (by injection e)) (Kq (v:= .ptr ru 1) (w:= .ptr r9 (ts1.length*4)) (q:=r9) ?_ ?_ rfl fun e=>hr9u (by injection e with e;exact e.symm)), ?_⟩
 ·simp only[XZ,simprocAttr]
 ·simp only[XZ,simprocAttr]
 ·simp only[XZ,simprocAttr]
 ·simp only[XZ,simprocAttr]
 have hsp:JI [v5,tv',q0,q1,q2,q3,q4,q5,q6,q7,q8] 1 [v9]=[v5,v9,q0,q1,q2,q3,q4,q5,q6,q7,q8]:=rfl;rw[hsp];obtain⟨Aa,hAa⟩:=exE (A9.wr r9 t9 fun u=> .cells u (JI (ts1++[[V.int .i64 0,ofL [],V.snil,V.snil]]).flatten (ts1.length*4) [V.int .i64 k,ofL n,nv,kv]));rw[<-hAa];have ga:Gr Sb Aa:=by rw[hAa];exact g9.wr b2 (Jc b3) (by rw[b3];rfl) (Ja _)
 have ra:∃t,Aa.row r9= .cells t (JI (ts1++[[V.int .i64 0,ofL [],V.snil,V.snil]]).flatten (ts1.length*4) [V.int .i64 k,ofL n,nv,kv]):=⟨_,by rw[hAa];simp only[XM,simprocAttr];rfl⟩
 have ka:∀r,r≠r9->Aa.row r=A9.row r:=fun r e=>by rw[hAa];simp only[Jk,e,if_false]
 clear hAa;have rca:Aa.row ru= .cells t7 [v5,tv',q0,q1,q2,q3,q4,q5,q6,q7,q8]:=(ka ru fun e=>hr9u e.symm).trans rc9;obtain⟨Ab,hAb⟩:=exE (Aa.wr ru t7 fun u=> .cells u [v5,v9,q0,q1,q2,q3,q4,q5,q6,q7,q8]);have hgb:Gr Sb Ab:=by rw[hAb];exact ga.wr M.rt.ru0 (Jc rca) (by rw[rca];rfl) (Ja _)
 have rb:∃t,Ab.row ru= .cells t [v5,v9,q0,q1,q2,q3,q4,q5,q6,q7,q8]:=⟨_,by rw[hAb];simp only[XZ,simprocAttr];rfl⟩
 have kb:∀r,r≠ru->Ab.row r=Aa.row r:=fun r e=>by rw[hAb];simp only[Jk,e,if_false]
 rw[<-hAb];clear hAb;have hlen:Kf v5=some (.int .i64 ((tbE.nodes.length+1:Nat):Int), .no):=by rw[ll5,List.length_append,l2];rfl
 have hsub:IntKind.i64.wrap (((tbE.nodes.length+1:Nat):Int)-1)=(tbE.nodes.length:Int):=by rw[Jo (by omega) (by omega)];omega
 have kb':∀r,r≠ru->r≠r9->A7.row r≠ .none->rowOf tv'≠some r->Ab.row r=A7.row r:=fun r a b c d=>by
  have c8:=(ga8.same r c)
  rw[kb r a,ka r b,kp9 r (by rw[c8];exact c) d,c8]
 obtain⟨tb2,rb⟩:=rb;obtain⟨ta2,ra⟩:=ra;have fin:=M.done (n:=n) (k:=k) (S':=Ab) (X:= .mk k n ns ks) (E:=[.int .i64 k,ofL n,nv,kv]) hgb ⟨tb2,rb⟩ l2 l3
  (h57.keep fun r e=>kb' r (fun x=>Jc rc (x▸d5 r e)) (fun x=>h57.some e (x▸d9)) (h57.some e) fun x=>u1.some x (d5 r e)) u2 u3
  (by
   have:=b6 Ab ta2 0 [.int .i64 k,ofL n,nv,kv] (by simp) (by rw[kb r9 hr9u];exact ra);rw[List.set_append_right _ _ (Nat.le_refl _)]at this;simpa[KL]using this) hXS d5 e9
  (fun r e x=>by
   rw[b1]at x;injection x with x;exact h57.some e (x▸d9))
  (fun p e a b c=>by rw[kb' p a (fun x=>by
   have:=e9 p (by rw[b1,x]);exact e this) (by rw[k57 p e a b];exact e) c,k57 p e a b])
 simp only[XZ,simprocAttr,hlen,hsub];exact⟨v5,v9,_,tr++[.mk k n ns ks],fin.1,T.snoc hlk hno hfit h120,fin.2⟩
theorem JqG (mm:Nat):∀(X:Ty),tsz X<mm->∀{Sb st:St} {ru:Pt} {lv tv:V} {rest:List V} {O:Pt->Prop} {tb:Tb} {trees:List Ty} {e:List V} {left:Int},RT Sb st ru lv tv rest O tb.nodes trees->Qa tb.nodes trees->TyC (fun r=>Sb.row r≠ .none) st e X->(addT X left tb).2.2.1≠0->fitT X=true->(YZ X:Int)<=left->(∃r0 r1 r2 r3 r4 r5 r6 r7 r8,rest=[r0,r1,r2,r3,r4,r5,r6,r7,r8])->
  Does (tabT tabD) 31 [.ptr ru 0, .agg e] st fun v S=>Gr Sb S/\v= .tup [.int .i64 0, .int .i64 20]:=by
 induction mm with
 |zero=>intro X h;exact absurd h (Nat.not_lt_zero _)
 |succ mm ih=>
 intro X hX Sb st ru lv tv rest O tb trees e left hR hI hx he hfit hsz hrest;obtain⟨k,n,ns,ks⟩:=X;rw[JlY hfit hsz]at he;obtain⟨hn8,hk8,hfk⟩:=qf hfit;rw[YZ]at hsz;refine Jy (aT Tryz.func31 rfl) rfl ?_;have hw:=hR.g.wf;obtain⟨n0,hn0⟩:=nxE st;obtain⟨nv,kv,es,rfl,x1,x2,x3,x4⟩:=hx.inv';have c1:=x1.cells;have c2:=x1.sc;have c3:=x2.cells;have c4:=x2.sc;have len2:=x2.len;rw[x3]at len2;obtain⟨p3,hp3⟩:=exE (up 0 n0);simp only[CT,Tryz.f31,XY,simprocAttr];rw[Jb];simp only[XY,simprocAttr,hn0,c1,c2,c3,c4];rw[<-hp3];obtain⟨S0,hS0⟩:=exE (st.new fun t=> .cells t [.int .i64 k,ofL n,nv,kv]);have G0:Gr st S0:=by rw[hS0];exact Gr.new hw (Ja _)
 obtain⟨t3,r3⟩:∃t,S0.row p3= .cells t [.int .i64 k,ofL n,nv,kv]:=⟨_,by rw[hS0,hp3];simp only[XZ,simprocAttr,hn0];rfl⟩
 have p3n:st.row p3= .none:=by rw[hp3];exact nx0 hw hn0 0
 rw[<-hS0];clear hS0;have w0:=G0.wf;obtain⟨n1,hn1⟩:=nxE S0;have o3:=fun k=>nes (Jz w0 hn1 (Jc r3) k);rw[Jb];simp only[XY,simprocAttr,r3,hn1,o3];obtain⟨x0,hx0⟩:=exE (up 0 n1);obtain⟨S1,hS1⟩:=exE (S0.new fun t=>Row.cells t []);have G1:Gr S0 S1:=by rw[hS1];exact Gr.new w0 (Ja _)
 obtain⟨t1,r1⟩:∃t,S1.row x0= .cells t []:=⟨_,by rw[hS1,hx0];simp only[XZ,simprocAttr,hn1];rfl⟩
 have x0n:S0.row x0= .none:=by rw[hx0];exact nx0 w0 hn1 0
 rw[<-hS1,<-hx0];clear hS1;have hn3:p3≠x0:=fun e=>by rw[<-e,r3]at x0n;cases x0n
 have stD:∀r,S0.row r= .none->st.row r= .none:=fun r e=>Ch.fresh (Ch.of (fun _=>False) G0) e;have SbD:∀r,st.row r= .none->Sb.row r= .none:=fun r e=>Ch.fresh (Ch.of (fun _=>False) hR.g) e;have sl0:SlF st S1 (.slx x0 0 0 1 0) 1 []:=⟨by simp, .inr ⟨x0,t1,stD _ x0n,by rw[r1];rfl, .inr rfl⟩⟩
 have G01:=G0.trans G1;refine jh (S0:=st) G01 sl0 (x1.gr G01) (kf _) (by rw[JW];omega) (by rw[JW];simp;omega) fun Sa v1 ga hSl hrow hkeep=> ?_;simp only[List.nil_append]at hSl;have r3a:Sa.row p3= .cells t3 [.int .i64 k,ofL n,nv,kv]:=(hkeep p3 (Jc (G1.cells r3)) fun e=>hn3 (by injection e with e;exact e.symm)).trans (G1.cells r3);have v1a:=hSl.at.sc;have v1b:=hSl.at.cells;obtain⟨nA,hnA⟩:=nxE Sa;simp only[XY,simprocAttr,hnA,v1a,v1b];obtain⟨p6,hp6⟩:=exE (up 0 nA);obtain⟨S2,hS2⟩:=exE ((Sa.new fun t=> .cells t [.int .i64 0,ofL [], .snil, .snil]).wr (up 0 nA) Sa.t fun u=> .cells u [.int .i64 k,ofL n,v1, .snil]);have G2:Gr Sa S2:=by rw[hS2];exact(Gr.refl ga.wf).nw hnA (Ja _) (Ja _)
 obtain⟨t6,r6⟩:∃t,S2.row p6= .cells t [.int .i64 k,ofL n,v1, .snil]:=⟨_,by rw[hS2,hp6];simp only[XZ,simprocAttr,hnA];rfl⟩
 have p6n:Sa.row p6= .none:=by rw[hp6];exact nx0 ga.wf hnA 0
 rw[<-hS2,<-hp6];clear hS2;refine⟨Jce (Kq (v:= .slx x0 0 0 1 0) (w:= .ptr p3 0) (q:=p3) ?_ ?_ rfl fun e=>hn3 (by injection e with e;exact e.symm)) (Kq (v:= .slx x0 0 0 1 0) (w:= .ptr p3 1) (q:=p3) ?_ ?_ rfl fun e=>hn3 (by injection e with e;exact e.symm)), ?_⟩
 ·simp only[XZ,simprocAttr]
 ·simp only[XZ,simprocAttr]
 ·simp only[XZ,simprocAttr]
 ·simp only[XZ,simprocAttr]
 have G02:Gr st S2:=ga.trans G2;have p6s:st.row p6= .none:=Ch.fresh (Ch.of (fun _=>False) ga) p6n;have v1al:∀r,rowOf v1=some r->Sa.row r≠ .none:=fun r e=>hSl.some e;have v13:∀r,rowOf v1=some r->r≠p3/\r≠p6:=fun r e=>⟨fun x=>(by
  subst x;rcases hrow with h|h
  ·rw[h]at e;injection e with e;exact hn3 e.symm
  ·rw[h]at e;injection e with e;have:=Kj G1.wf;rw[e,G1.cells r3]at this;cases this),fun x=>v1al r e (by rw[x];exact p6n)⟩
 have n36:p3≠p6:=fun x=>by rw[<-x,r3a]at p6n;cases p6n
 have ow:∀r,st.row r= .none->S2.row r≠ .none->S2.row r≠ .none/\¬Bt ru lv tv O r:=fun r e a=>⟨a,fun x=>hR.alive r x e⟩
 have r32:=G2.cells r3a;have M0:Mid5 Sb st S2 ru p3 p6 lv tv lv tv rest O O tb.nodes trees [.int .i64 k,ofL n,nv,kv] [.int .i64 k,ofL n] v1 .snil ns []:=
  {rt:=hR.gr G02,kp:=Kp.gr G02,r3:=⟨_,r32⟩,r6:=⟨_,r6⟩,nm:=(hSl.gr G2).early SbD,kd:=SlF.nil _ _ _,fs:=fun r e=>e.elim (fun e=> .inr (hSl.row e).1) (fun e=>nomatch e),apk:=fun r e=>(nomatch e),ap1:=v13,ap6:=n36,f3:=p3n,f6:=p6s,
   own:=fun r e=>by
    rcases e with rfl|rfl|e|e
    ·exact ow _ p3n (Jc r32)
    ·exact ow _ p6s (Jc r6)
    ·exact ow _ (hSl.row e).1 ((hSl.gr G2).some e)
    ·cases e}
 obtain⟨q0,q1,q2,q3,q4,q5,q6,q7,q8,rfl⟩:=hrest;clear hrow hkeep sl0 G01 r1 x0n hn3 o3 hn1 hn0 hnA v1a v1b ow r32 v1al r6 r3a t6 t1;have kx:∀{S:St} {lv' tv' rest' O' nd tr},RT Sb S ru lv' tv' rest' O' nd tr->∀{E:List V} {T:Ty},TyC (fun r=>Sb.row r≠ .none) st E T->TyC (fun r=>Sb.row r≠ .none) S E T:=fun{_ _ _ _ _ _ _} R {_ _} h=>TyC.imp h fun q p _=>⟨p,by rw[R.g.same q p,hR.g.same q p]⟩
 obtain⟨F,hF⟩:=opE fun fr S=>∃(lv' tv' kv':V) (O':Pt->Prop) (tr:List Ty) (tbi:Tb) (ids:List Nat),fr 0= .ptr ru 0/\fr 3= .ptr p3 0/\fr 6= .ptr p6 0/\
   Mid5 Sb st S ru p3 p6 lv tv lv' tv' [q0,q1,q2,q3,q4,q5,q6,q7,q8] O O' tbi.nodes tr [.int .i64 k,ofL n,nv,kv] [.int .i64 k,ofL n] v1 kv' ns ids/\Qa tbi.nodes tr/\JS tbi.nodes ks=some ids/\idx ⟨k,n,ns,ids⟩ tbi.nodes 0=none/\120<=tbi.nodes.length
 refine JM F ?_ ?_
 ·rw[Jb];simp only[XY,simprocAttr];obtain⟨L,hL⟩:=loE fun j fr S=>∃(i:Nat) (lv' tv' kv':V) (O':Pt->Prop) (tr:List Ty) (tbi:Tb) (li:Int) (ids:List Nat),j+i=ks.length/\fr 0= .ptr ru 0/\fr 3= .ptr p3 0/\fr 6= .ptr p6 0/\fr 7= .int .i64 i/\
   Mid5 Sb st S ru p3 p6 lv tv lv' tv' [q0,q1,q2,q3,q4,q5,q6,q7,q8] O O' tbi.nodes tr [.int .i64 k,ofL n,nv,kv] [.int .i64 k,ofL n] v1 kv' ns ids/\Qa tbi.nodes tr/\
   Jc4 k n ns (ks.drop i) li tbi ids≠0/\(Ys (ks.drop i):Int)<=li/\JS tbi.nodes (ks.take i)=some ids/\ids.length=i
  refine Jn L ks.length (by omega) ((hL _ _ _).2 ⟨0,lv,tv, .snil,O,trees,tb,left-1,[],by omega,rfl,rfl,rfl,by simp only[XZ,simprocAttr]<;>rfl,M0,hI,he,(by rw[List.drop_zero];push_cast at hsz;omega),rfl,rfl⟩) ?_;intro j fr S hLj;obtain⟨i,lv',tv',kw,O',tr,tbi,li,ids,hj,f0,f3,f6,f7,M,T,e0,e1,e2,e3⟩:=(hL _ _ _).1 hLj;obtain⟨t3,m3⟩:=M.r3;obtain⟨t6,m6⟩:=M.r6;simp only[List.cons_append,List.nil_append]at m6;by_cases hi:i<ks.length
  ·have hi':(i:Int)<ks.length:=by omega
   have hadd1:IntKind.i64.wrap ((i:Int)+1)=((i+1:Nat):Int):=by rw[Jo (by omega) (by omega)];rfl
   have hx2:LstAt (TyC (fun r=>Sb.row r≠ .none) S) (fun r=>Sb.row r≠ .none) S kv 4 ks:=⟨es,x2.imp fun r p _=>⟨p,by rw[M.rt.g.same r p,hR.g.same r p]⟩,x3,fun i a b=>kx M.rt (x4 i a b)⟩
   obtain⟨q,qo,E,a1,a2,a3,a4,hE,e4,a5⟩:=hx2.elem hi;rw[List.drop_eq_getElem_cons hi]at e0 e1;rw[Ys]at e1
   push_cast at e1
   by_cases hok:(addT ks[i] li tbi).2.2.1=0;rotate_left
   ·have hlt:tsz ks[i]<mm:=by have:=Ym (k:=k) (n:=n) (ns:=ns) hi;omega
    simp only[XZ,simprocAttr,f0,f3,f7,m3,len2,hi',a1,a4];refine Jd (ih ks[i] hlt M.rt T hE hok (jL hfk i hi) (by omega) ⟨_,_,_,_,_,_,_,_,_,rfl⟩) ?_;rintro _ S3 ⟨g3,rfl⟩;simp only[XZ,simprocAttr];exact g3
   rw[JjL hok]at e0;obtain⟨_,_,hlook,hleft⟩:=QL ks[i] hok;simp only[XZ,simprocAttr,f0,f3,f7,m3,len2,hi',a1,a4];refine Jd (Jox _ ks[i] (Nat.lt_succ_self _) M.rt T hE hok ⟨_,_,_,_,_,_,_,_,_,rfl⟩) ?_;rintro _ S3 ⟨lv2,tv2,O2,tr2,R2,T2,K2,rfl⟩;have M2:=M.call R2 K2;obtain⟨u6,m62⟩:=M2.r6;simp only[List.cons_append,List.nil_append]at m62;obtain⟨id,hid⟩:∃id,id=(addT ks[i] li tbi).2.1:=⟨_,rfl⟩
   rw[<-hid]at e0 hlook⊢;have w3:=R2.g.wf;obtain⟨n3,hn3⟩:=nxE S3;simp only[XZ,simprocAttr,f6,m62,hn3];have gn:Gr S3 (S3.new fun t=> .cells t [.int .i64 id]):=Gr.new w3 (Ja _);have hone:SlAt (fun r=>r=up 0 n3) (S3.new fun t=> .cells t [.int .i64 id]) (.slx (up 0 n3) 0 1 1 1) 1 [[.int .i64 id]]:=by
    have:=Qd (st:=S3) (z:=1) (e:=[.int .i64 id]) rfl
    rwa [hn3]at this
   have M3:=M2.gr gn;refine Qw (S0:=Sb) M3.rt.g M3.kd hone (fun e he=>by rw[List.mem_singleton.1 he];rfl) (by simp) (by simp) (by rw[Yo];simp;omega) ?_;intro S4 v4 g4 h4 rv4 kp4;have r64:S4.row p6= .cells u6 [.int .i64 k,ofL n,v1,kw]:=(kp4 p6 (Jc (gn.cells m62)) fun e=>(M3.apk _ e).2.1 rfl).trans (gn.cells m62);have hsc:=h4.at.sc;have hcl:=h4.at.cells;simp only[XZ,simprocAttr,f6,f7,r64,hsc,hcl,hadd1];refine⟨ks.length-(i+1),by omega,(hL _ _ _).2 ⟨i+1,lv2,tv2,v4,O2,tr2,(addT ks[i] li tbi).1,(addT ks[i] li tbi).2.2.2,ids++[id],by omega,f0,f3,f6,rfl, ?_,T2,e0,by omega, ?_,by simp[e3]⟩⟩
   ·refine M3.push (S1:=S4) (by unfold ints at h4⊢;simpa using h4) rv4 kp4 (fun r e=>by simp only[Jk,e,if_false]) ⟨_,by simp only[XZ,simprocAttr];rfl⟩ (g4.wr ?_ (Jc r64) (by rw[r64];rfl) (Ja _));exact SbD _ p6s
   ·rw[List.take_add_one,List.getElem?_eq_getElem hi];obtain⟨r,hr,_⟩:=QL ks[i] hok;exact JeB hlook (by rw[hr];exact kz _ e2)
  ·have hi':¬(i:Int)<ks.length:=by omega
   rw[List.drop_eq_nil_of_le (by omega)]at e0;rw[List.take_of_length_le (by omega)]at e2;obtain⟨h1,h2⟩:=JjM e0;simp only[XZ,simprocAttr,f3,f7,m3,len2,hi'];exact(hF _ _).2 ⟨lv',tv',kw,O',tr,tbi,ids,f0,f3,f6,M,T,e2,h1,h2⟩
 clear M0 hI;intro fr S hFf;obtain⟨lv',tv',kw,O',tr,tbE,ids,f0,f3,f6,M,T,hlk,hno,h120⟩:=(hF _ _).1 hFf;clear hF hFf F he;have hidx:Ki tbE.nodes (.mk k n ns ks)=idx ⟨k,n,ns,ids⟩ tbE.nodes 0:=by rw[Ki,hlk]
 obtain⟨t3,m3⟩:=M.r3;obtain⟨tc,rc⟩:=M.rt.cell;obtain⟨es1,l1,l2,l3⟩:=M.rt.l;obtain⟨ts1,u1,u2,u3⟩:=M.rt.t;have ll:=l1.at.len;have lt:=u1.at.len;have hXS:=kx M.rt hx;obtain⟨F,hF⟩:=opE fun fr S'=>fr 0= .ptr ru 0/\Gr S S';refine JM F ?_ ?_
 ·rw[Jb];simp only[XY,simprocAttr];obtain⟨L,hL⟩:=loE fun j fr S'=>∃(i:Nat),j+i=tr.length/\fr 0= .ptr ru 0/\fr 3= .ptr p3 0/\fr 10= .int .i64 i/\Gr S S';have trl:tr.length<1000000:=by
   have:=T.len;have:=T.few;omega
  refine Jn L tr.length (by omega) ((hL _ _ _).2 ⟨0,by omega,f0,f3,by simp only[XZ,simprocAttr]<;>rfl,Gr.refl M.rt.g.wf⟩) ?_;clear f0 f3 f6;intro j fr S' hLj;obtain⟨i,hj,f0,f3,f10,g⟩:=(hL _ _ _).1 hLj;have rc':=g.cells rc;have m3':=g.cells m3;by_cases hi:i<tr.length
  ·have hi':(i:Int)<ts1.length:=by omega
   have hadd1:IntKind.i64.wrap ((i:Int)+1)=((i+1:Nat):Int):=by rw[Jo (by omega) (by omega)];rfl
   have hl2:LstAt (TyC (fun r=>Sb.row r≠ .none) S') (fun r=>Sb.row r= .none) S' tv' 4 tr:=⟨ts1,(u1.gr g).at,u2,fun i a b=>(u3 i a b).gr g⟩
   obtain⟨q,qo,E,a1,a2,a3,a4,hE,e4,a5⟩:=hl2.elem hi;simp only[XZ,simprocAttr,f0,f3,f10,rc',m3',lt,hi',a1,a4];have ft:=T.fit _ (List.getElem_mem hi);refine Ji (JqF _ tr[i] (.mk k n ns ks) (Nat.lt_succ_self _) ft hfit (JD g.wf _) (hE.low _) ((hXS.gr g).low _)) ?_;rintro _ S2 g2 ⟨b,rfl,hb⟩
   cases b with
   | true=>
     have e:=hb.1 rfl;rw[T.at hi,hidx,hno]at e
     cases e
   | false=>
     simp only[XZ,simprocAttr,f10,hadd1];exact⟨tr.length-(i+1),by omega,(hL _ _ _).2 ⟨i+1,by omega,f0,f3,rfl,g.trans g2⟩⟩
  ·have hi':¬(i:Int)<ts1.length:=by omega
   simp only[XZ,simprocAttr,f0,f10,rc',lt,hi'];exact(hF _ _).2 ⟨f0,g⟩
 clear f0 f3 f6;intro fr S' hFf;obtain⟨f0,g⟩:=(hF _ _).1 hFf;have rc:=g.cells rc;have n120:(120:Int)<=es1.length:=by omega
 rw[Je,Jb];simp only[XZ,simprocAttr,f0,rc,ll,n120];exact M.rt.g.trans g
theorem JpL (x:Nat)(hx:x<256)(st:St):Does (tabT tabD) 92 [.int .u8 x] st fun v st'=>v= .bool (digB x)/\st=st':=by
 refine Jy (aT Tryz.func92 rfl) rfl ?_;by_cases h1:(48:Int)<=(x:Int)
 ·by_cases h2:(x:Int)<=57
  ·simp only[CT,Tryz.f92,XZ,simprocAttr,h1,h2];rw[digB,decide_eq_true (by omega),decide_eq_true (by omega)];rfl
  ·simp only[CT,Tryz.f92,XZ,simprocAttr,h1,h2];rw[digB,decide_eq_true (by omega),decide_eq_false (by omega)];rfl
 ·simp only[CT,Tryz.f92,XZ,simprocAttr,h1];rw[digB,decide_eq_false (by omega)];rfl
theorem JiY (x:Nat)(hx:x<256)(st:St):Does (tabT tabD) 91 [.int .u8 x] st fun v st'=>v= .bool (letB x)/\st=st':=by
 refine Jy (aT Tryz.func91 rfl) rfl ?_;rw[<-Jpw hx];unfold letR;by_cases h1:(97:Int)<=(x:Int)
 ·rw[decide_eq_true (show 97<=x by omega)];by_cases h2:(x:Int)<=122
  ·rw[decide_eq_true (show x<=122 by omega)];simp only[CT,Tryz.f91,XZ,simprocAttr,h1,h2];rfl
  ·rw[decide_eq_false (show¬x<=122 by omega),decide_eq_true (show 65<=x by omega),decide_eq_false (show¬x<=90 by omega),decide_eq_false (show¬x=95 by omega)];have h3:(65:Int)<=(x:Int):=by omega
   have h4:¬(x:Int)<=90:=by omega
   have h5:¬(x:Int)=95:=by omega
   simp only[CT,Tryz.f91,XZ,simprocAttr,h1,h2,h3,h4,h5];rfl
 ·rw[decide_eq_false (show¬97<=x by omega)];by_cases h3:(65:Int)<=(x:Int)
  ·rw[decide_eq_true (show 65<=x by omega)];by_cases h4:(x:Int)<=90
   ·rw[decide_eq_true (show x<=90 by omega)];simp only[CT,Tryz.f91,XZ,simprocAttr,h1,h3,h4];rfl
   ·rw[decide_eq_false (show¬x<=90 by omega)];by_cases h5:(x:Int)=95
    ·rw[decide_eq_true (show x=95 by omega)];simp only[CT,Tryz.f91,XZ,simprocAttr,h1,h3,h4,h5];rfl
    ·rw[decide_eq_false (show¬x=95 by omega)];simp only[CT,Tryz.f91,XZ,simprocAttr,h1,h3,h4,h5];rfl
  ·rw[decide_eq_false (show¬65<=x by omega),decide_eq_false (show¬x=95 by omega)];have h5:¬(x:Int)=95:=by omega
   simp only[CT,Tryz.f91,XZ,simprocAttr,h1,h3,h5];rfl
theorem JgT (l:List UInt8)(st:St):Does (tabT tabD) 58 [ofL l] st fun v st'=>v= .bool (Kb l)/\st=st':=by
 refine Jy (aT Tryz.func58 rfl) rfl ?_
 cases l with
 | nil=>
   simp only[CT,Tryz.f58,XZ,simprocAttr,Int.natCast_zero];rfl
 | cons c r=>
   obtain⟨l,hle⟩:∃l,l=c::r:=⟨_,rfl⟩
   have hid:=Jpx c r;rw[<-hle]at hid⊢;have hne:¬(l.length:Int)=0:=by rw[hle];simp only[List.length_cons];omega
   have hb:JdT l 0=c.toNat:=by rw[hle];exact kH (l:=c::r) (i:=0) (by simp)
   have h0:(0:Int)<(l.length:Int):=by omega
   by_cases h16:16<l.length
   ·have h16':(16:Int)<(l.length:Int):=by omega
    simp only[CT,Tryz.f58,XZ,simprocAttr,hne,h16'];rw[hid,decide_eq_false (by omega)];rfl
   have h16':¬(16:Int)<(l.length:Int):=by omega
   rw[decide_eq_true (by omega)]at hid;have hid:Kb l=(letB c.toNat&&Yp l):=hid;simp only[CT,Tryz.f58,XY,simprocAttr];rw[Jb];simp only[XY,simprocAttr];rw[Je,Jb];simp only[XY,simprocAttr,hne,h16',h0,hb];refine Jd (JiY c.toNat (UInt8.toNat_lt _) _) ?_;rintro _ _ ⟨rfl,rfl⟩
   cases hl:letB c.toNat with
   | false=>
     rw[hl]at hid;simp only[XZ,simprocAttr];rw[hid];rfl
   | true=>
     rw[hl]at hid;have hid:Kb l=Yp l:=hid;simp only[XY,simprocAttr];rw[Je,Jb];simp only[XY,simprocAttr];obtain⟨I,hI⟩:=loE fun j fr S=>∃(i:Nat),j+i=l.length/\fr 0=ofL l/\fr 3= .int .i64 i/\st=S/\Yp l=Yp (l.drop i);refine Jn I l.length (by omega) ((hI _ _ _).2 ⟨0,by omega,rfl,by simp only[XZ,simprocAttr]<;>rfl,rfl,rfl⟩) ?_;intro j fr S hIj;obtain⟨i,hj,f0,f3,rfl,hrec⟩:=(hI _ _ _).1 hIj;by_cases hi:i<l.length
     ·have hi':(i:Int)<l.length:=by omega
      have hi0:(0:Int)<=(i:Int):=by omega
      have hb:=kH (l:=l) (i:=i) hi;have hadd1:IntKind.i64.wrap ((i:Int)+1)=((i+1:Nat):Int):=by rw[Jo (by omega) (by omega)];rfl
      have hd:Yp l=(okB l[i].toNat&&Yp (l.drop (i+1))):=by rw[hrec,List.drop_eq_getElem_cons hi];rfl
      simp only[XZ,simprocAttr,f0,f3,hi',hi0,hb];refine Jd (JiY l[i].toNat (UInt8.toNat_lt _) _) ?_;rintro _ _ ⟨rfl,rfl⟩
      cases hlt:letB l[i].toNat with
      | true=>
        have hok:okB l[i].toNat=true:=by unfold okB;rw[hlt];rfl
        simp only[XZ,simprocAttr,f3,hadd1];exact⟨l.length-(i+1),by omega,(hI _ _ _).2 ⟨i+1,by omega,f0,rfl,rfl,by rw[hd,hok];rfl⟩⟩
      | false=>
        simp only[XZ,simprocAttr,f0,f3,hi',hi0,hb];refine Jd (JpL l[i].toNat (UInt8.toNat_lt _) _) ?_;rintro _ _ ⟨rfl,rfl⟩;have hok:okB l[i].toNat=digB l[i].toNat:=by unfold okB;rw[hlt];rfl
        cases hdg:digB l[i].toNat with
        | true=>
          simp only[XZ,simprocAttr,f3,hadd1];exact⟨l.length-(i+1),by omega,(hI _ _ _).2 ⟨i+1,by omega,f0,rfl,rfl,by rw[hd,hok,hdg];rfl⟩⟩
        | false=>
          simp only[XZ,simprocAttr];rw[hid,hd,hok,hdg];rfl
     ·have hi':¬(i:Int)<l.length:=by omega
      simp only[XZ,simprocAttr,f0,f3,hi'];rw[hid,hrec,List.drop_eq_nil_of_le (by omega)];rfl
theorem Jrw (l:List UInt8)(st:St):Does (tabT tabD) 59 [ofL l] st fun v st'=>v= .bool (Jev.contains l)/\st=st':=by
 refine Jy (aT Tryz.func59 rfl) rfl ?_;by_cases n0:l=[66,111,111,108]
 ·have h0:(l=[66,111,111,108])=True:=eq_true n0;simp only[CT,Tryz.f59,XZ,simprocAttr,h0];rw[n0];rfl
 have h0:(l=[66,111,111,108])=False:=eq_false n0;by_cases n1:l=[73,110,116]
 ·have h1:(l=[73,110,116])=True:=eq_true n1;simp only[CT,Tryz.f59,XZ,simprocAttr,h0,h1];rw[n1];rfl
 have h1:(l=[73,110,116])=False:=eq_false n1;by_cases n2:l=[84,101,120,116]
 ·have h2:(l=[84,101,120,116])=True:=eq_true n2;simp only[CT,Tryz.f59,XZ,simprocAttr,h0,h1,h2];rw[n2];rfl
 have h2:(l=[84,101,120,116])=False:=eq_false n2;by_cases n3:l=[76,105,115,116]
 ·have h3:(l=[76,105,115,116])=True:=eq_true n3;simp only[CT,Tryz.f59,XZ,simprocAttr,h0,h1,h2,h3];rw[n3];rfl
 have h3:(l=[76,105,115,116])=False:=eq_false n3;by_cases n4:l=[77,97,112]
 ·have h4:(l=[77,97,112])=True:=eq_true n4;simp only[CT,Tryz.f59,XZ,simprocAttr,h0,h1,h2,h3,h4];rw[n4];rfl
 have h4:(l=[77,97,112])=False:=eq_false n4;by_cases n5:l=[79,112,116]
 ·have h5:(l=[79,112,116])=True:=eq_true n5;simp only[CT,Tryz.f59,XZ,simprocAttr,h0,h1,h2,h3,h4,h5];rw[n5];rfl
 have h5:(l=[79,112,116])=False:=eq_false n5;by_cases n6:l=[85,110,105,111,110]
 ·have h6:(l=[85,110,105,111,110])=True:=eq_true n6;simp only[CT,Tryz.f59,XZ,simprocAttr,h0,h1,h2,h3,h4,h5,h6];rw[n6];rfl
 have h6:(l=[85,110,105,111,110])=False:=eq_false n6;simp only[CT,Tryz.f59,XZ,simprocAttr,h0,h1,h2,h3,h4,h5,h6];have:Jev.contains l=false:=by
  cases hc:Jev.contains l with
  |false=>rfl
  | true=>
    have:=List.contains_iff_mem.1 hc;simp only[Jev,List.mem_cons,List.not_mem_nil,or_false,h0,h1,h2,h3,h4,h5,h6]at this
 rw[this]
theorem Jl8 (l:List UInt8)(st:St):Does (tabT tabD) 61 [ofL l] st fun v st'=>v= .bool (Jew.contains l)/\st=st':=by
 refine Jy (aT Tryz.func61 rfl) rfl ?_;by_cases n0:l=[108,101,110]
 ·have h0:(l=[108,101,110])=True:=eq_true n0;simp only[CT,Tryz.f61,XZ,simprocAttr,h0];rw[n0];rfl
 have h0:(l=[108,101,110])=False:=eq_false n0;by_cases n1:l=[110,111,116]
 ·have h1:(l=[110,111,116])=True:=eq_true n1;simp only[CT,Tryz.f61,XZ,simprocAttr,h0,h1];rw[n1];rfl
 have h1:(l=[110,111,116])=False:=eq_false n1;by_cases n2:l=[97,110,100]
 ·have h2:(l=[97,110,100])=True:=eq_true n2;simp only[CT,Tryz.f61,XZ,simprocAttr,h0,h1,h2];rw[n2];rfl
 have h2:(l=[97,110,100])=False:=eq_false n2;by_cases n3:l=[111,114]
 ·have h3:(l=[111,114])=True:=eq_true n3;simp only[CT,Tryz.f61,XZ,simprocAttr,h0,h1,h2,h3];rw[n3];rfl
 have h3:(l=[111,114])=False:=eq_false n3;by_cases n4:l=[101,113]
 ·have h4:(l=[101,113])=True:=eq_true n4;simp only[CT,Tryz.f61,XZ,simprocAttr,h0,h1,h2,h3,h4];rw[n4];rfl
 have h4:(l=[101,113])=False:=eq_false n4;by_cases n5:l=[108,116]
 ·have h5:(l=[108,116])=True:=eq_true n5;simp only[CT,Tryz.f61,XZ,simprocAttr,h0,h1,h2,h3,h4,h5];rw[n5];rfl
 have h5:(l=[108,116])=False:=eq_false n5;by_cases n6:l=[97,100,100]
 ·have h6:(l=[97,100,100])=True:=eq_true n6;simp only[CT,Tryz.f61,XZ,simprocAttr,h0,h1,h2,h3,h4,h5,h6];rw[n6];rfl
 have h6:(l=[97,100,100])=False:=eq_false n6;by_cases n7:l=[115,117,98]
 ·have h7:(l=[115,117,98])=True:=eq_true n7;simp only[CT,Tryz.f61,XZ,simprocAttr,h0,h1,h2,h3,h4,h5,h6,h7];rw[n7];rfl
 have h7:(l=[115,117,98])=False:=eq_false n7;by_cases n8:l=[109,117,108]
 ·have h8:(l=[109,117,108])=True:=eq_true n8;simp only[CT,Tryz.f61,XZ,simprocAttr,h0,h1,h2,h3,h4,h5,h6,h7,h8];rw[n8];rfl
 have h8:(l=[109,117,108])=False:=eq_false n8;by_cases n9:l=[115,104,108]
 ·have h9:(l=[115,104,108])=True:=eq_true n9;simp only[CT,Tryz.f61,XZ,simprocAttr,h0,h1,h2,h3,h4,h5,h6,h7,h8,h9];rw[n9];rfl
 have h9:(l=[115,104,108])=False:=eq_false n9;by_cases n10:l=[115,104,114]
 ·have h10:(l=[115,104,114])=True:=eq_true n10;simp only[CT,Tryz.f61,XZ,simprocAttr,h0,h1,h2,h3,h4,h5,h6,h7,h8,h9,h10];rw[n10];rfl
 have h10:(l=[115,104,114])=False:=eq_false n10;by_cases n11:l=[105,56]
 ·have h11:(l=[105,56])=True:=eq_true n11;simp only[CT,Tryz.f61,XZ,simprocAttr,h0,h1,h2,h3,h4,h5,h6,h7,h8,h9,h10,h11];rw[n11];rfl
 have h11:(l=[105,56])=False:=eq_false n11;by_cases n12:l=[105,49,54]
 ·have h12:(l=[105,49,54])=True:=eq_true n12;simp only[CT,Tryz.f61,XZ,simprocAttr,h0,h1,h2,h3,h4,h5,h6,h7,h8,h9,h10,h11,h12];rw[n12];rfl
 have h12:(l=[105,49,54])=False:=eq_false n12;by_cases n13:l=[105,51,50]
 ·have h13:(l=[105,51,50])=True:=eq_true n13;simp only[CT,Tryz.f61,XZ,simprocAttr,h0,h1,h2,h3,h4,h5,h6,h7,h8,h9,h10,h11,h12,h13];rw[n13];rfl
 have h13:(l=[105,51,50])=False:=eq_false n13;by_cases n14:l=[117,56]
 ·have h14:(l=[117,56])=True:=eq_true n14;simp only[CT,Tryz.f61,XZ,simprocAttr,h0,h1,h2,h3,h4,h5,h6,h7,h8,h9,h10,h11,h12,h13,h14];rw[n14];rfl
 have h14:(l=[117,56])=False:=eq_false n14;by_cases n15:l=[117,49,54]
 ·have h15:(l=[117,49,54])=True:=eq_true n15;simp only[CT,Tryz.f61,XZ,simprocAttr,h0,h1,h2,h3,h4,h5,h6,h7,h8,h9,h10,h11,h12,h13,h14,h15];rw[n15];rfl
 have h15:(l=[117,49,54])=False:=eq_false n15;by_cases n16:l=[117,51,50]
 ·have h16:(l=[117,51,50])=True:=eq_true n16;simp only[CT,Tryz.f61,XZ,simprocAttr,h0,h1,h2,h3,h4,h5,h6,h7,h8,h9,h10,h11,h12,h13,h14,h15,h16];rw[n16];rfl
 have h16:(l=[117,51,50])=False:=eq_false n16;by_cases n17:l=[99,97,116]
 ·have h17:(l=[99,97,116])=True:=eq_true n17;simp only[CT,Tryz.f61,XZ,simprocAttr,h0,h1,h2,h3,h4,h5,h6,h7,h8,h9,h10,h11,h12,h13,h14,h15,h16,h17];rw[n17];rfl
 have h17:(l=[99,97,116])=False:=eq_false n17;by_cases n18:l=[116,101,120,116]
 ·have h18:(l=[116,101,120,116])=True:=eq_true n18;simp only[CT,Tryz.f61,XZ,simprocAttr,h0,h1,h2,h3,h4,h5,h6,h7,h8,h9,h10,h11,h12,h13,h14,h15,h16,h17,h18];rw[n18];rfl
 have h18:(l=[116,101,120,116])=False:=eq_false n18;by_cases n19:l=[97,116]
 ·have h19:(l=[97,116])=True:=eq_true n19;simp only[CT,Tryz.f61,XZ,simprocAttr,h0,h1,h2,h3,h4,h5,h6,h7,h8,h9,h10,h11,h12,h13,h14,h15,h16,h17,h18,h19];rw[n19];rfl
 have h19:(l=[97,116])=False:=eq_false n19;by_cases n20:l=[103,101,116]
 ·have h20:(l=[103,101,116])=True:=eq_true n20;simp only[CT,Tryz.f61,XZ,simprocAttr,h0,h1,h2,h3,h4,h5,h6,h7,h8,h9,h10,h11,h12,h13,h14,h15,h16,h17,h18,h19,h20];rw[n20];rfl
 have h20:(l=[103,101,116])=False:=eq_false n20;by_cases n21:l=[104,97,115]
 ·have h21:(l=[104,97,115])=True:=eq_true n21;simp only[CT,Tryz.f61,XZ,simprocAttr,h0,h1,h2,h3,h4,h5,h6,h7,h8,h9,h10,h11,h12,h13,h14,h15,h16,h17,h18,h19,h20,h21];rw[n21];rfl
 have h21:(l=[104,97,115])=False:=eq_false n21;by_cases n22:l=[111,114,101,108,115,101]
 ·have h22:(l=[111,114,101,108,115,101])=True:=eq_true n22;simp only[CT,Tryz.f61,XZ,simprocAttr,h0,h1,h2,h3,h4,h5,h6,h7,h8,h9,h10,h11,h12,h13,h14,h15,h16,h17,h18,h19,h20,h21,h22];rw[n22];rfl
 have h22:(l=[111,114,101,108,115,101])=False:=eq_false n22;simp only[CT,Tryz.f61,XZ,simprocAttr,h0,h1,h2,h3,h4,h5,h6,h7,h8,h9,h10,h11,h12,h13,h14,h15,h16,h17,h18,h19,h20,h21,h22];have:Jew.contains l=false:=by
  cases hc:Jew.contains l with
  |false=>rfl
  | true=>
    have:=List.contains_iff_mem.1 hc;simp only[Jew,List.mem_cons,List.not_mem_nil,or_false,h0,h1,h2,h3,h4,h5,h6,h7,h8,h9,h10,h11,h12,h13,h14,h15,h16,h17,h18,h19,h20,h21,h22]at this
 rw[this]
theorem Joy (x:Nat)(hx:x<256)(st:St):Does (tabT tabD) 130 [.int .u8 x] st fun v st'=>v= .bool (digB x)/\st=st':=by
 refine Jy (aT Tryz.func130 rfl) rfl ?_;by_cases h1:(48:Int)<=(x:Int)
 ·by_cases h2:(x:Int)<=57
  ·simp only[CT,Tryz.f130,XZ,simprocAttr,h1,h2];rw[digB,decide_eq_true (by omega),decide_eq_true (by omega)];rfl
  ·simp only[CT,Tryz.f130,XZ,simprocAttr,h1,h2];rw[digB,decide_eq_true (by omega),decide_eq_false (by omega)];rfl
 ·simp only[CT,Tryz.f130,XZ,simprocAttr,h1];rw[digB,decide_eq_false (by omega)];rfl
theorem JpM (x:Nat)(hx:x<256)(st:St):Does (tabT tabD) 163 [.int .u8 x] st fun v st'=>v= .bool (letB x)/\st=st':=by
 refine Jy (aT Tryz.func163 rfl) rfl ?_;by_cases h0:x=95
 ·have h0':((x:Int)=95)=True:=eq_true (by omega);simp only[CT,Tryz.f163,XZ,simprocAttr,h0'];rw[letB,decide_eq_true h0];rfl
 ·have h0':¬(x:Int)=95:=by omega
  have ho:=Jsf x hx;by_cases h1:(97:Int)<=((x|||32:Nat):Int)
  ·by_cases h2:((x|||32:Nat):Int)<=122
   ·simp only[CT,Tryz.f163,XZ,simprocAttr,h0',ho,h1,h2];rw[letB,decide_eq_false h0,decide_eq_true (by omega),decide_eq_true (by omega)];rfl
   ·simp only[CT,Tryz.f163,XZ,simprocAttr,h0',ho,h1,h2];rw[letB,decide_eq_false h0,decide_eq_true (by omega),decide_eq_false (by omega)];rfl
  ·simp only[CT,Tryz.f163,XZ,simprocAttr,h0',ho,h1];rw[letB,decide_eq_false h0,decide_eq_false (by omega)];rfl
theorem JsI (x:Nat)(hx:x<256)(st:St):Does (tabT tabD) 162 [.int .u8 x] st fun v st'=>v= .bool (okB x)/\st=st':=by
 refine Jy (aT Tryz.func162 rfl) rfl ?_;simp only[CT,Tryz.f162,XZ,simprocAttr];refine Jd (JpM x hx _) ?_;rintro _ _ ⟨rfl,rfl⟩
 cases h:letB x with
 | true=>
   simp only[XZ,simprocAttr];rw[okB,h];rfl
 | false=>
   simp only[XZ,simprocAttr];refine Jd (Joy x hx _) ?_;rintro _ _ ⟨rfl,rfl⟩;simp only[XZ,simprocAttr];rw[okB,h];rfl
theorem Jrx (l:List UInt8)(st:St)(hw:WF st)(hl:l.length<=100000):
  Does (tabT tabD) 161 [ofL l, .fn 162 [] []] st fun v st'=>Gr st st'/\v= .int .i64 (fore l):=by
 refine Jy (aT Tryz.func161 rfl) rfl ?_;simp only[CT,Tryz.f161,XM,simprocAttr,Jrc,JmY];refine Jn (fun k fr st'=>∃(p t:Nat),k+p=l.length/\(∀j (hj:j<l.length),j<p->okB l[j].toNat=true)/\fr 0=ofL l/\fr 1= .fn 162 [] []/\fr 7= .ptr st.nx 0/\st'.row st.nx= .sit t l.length (snum l) p/\Gr st st') l.length (by omega) ?_ ?_
 ·refine⟨0,st.t,by omega,fun j _ h=>absurd h (by omega), ?_, ?_, ?_, ?_,Gr.new hw fun u=>⟨rfl,fun e=>by cases e⟩⟩
  all_goals simp only[XM,simprocAttr,JG]
  all_goals rfl
 ·rintro k fr st1 ⟨p,t,hk,hok,h0,h1,h7,hr,hg⟩;by_cases hp:p<l.length
  ·have hrs:=Jjr hp;have gw:∀p':Nat,Gr st (st1.wr st.nx t fun u=>Row.sit u l.length (snum l) p'):=fun p'=>
    hg.wr (Kj hw) (by rw[hr];exact fun e=>by cases e) (by rw[hr];rfl) fun u=>⟨rfl,fun e=>by cases e⟩
   have hb:=kH hp;have hin:(0:Int)<=(p:Int)/\(p:Int)<(l.length:Int):=by omega
   simp only[XM,simprocAttr,h0,h1,h7,Jku,Jjs hr hp,hin,hb];refine Jd (JsI _ (UInt8.toNat_lt _) _) ?_;rintro _ _ ⟨rfl,rfl⟩
   cases ho:okB l[p].toNat with
   | true=>
     have hwd:=Jjz hp (JlO (UInt8.toNat_lt _) ho);simp only[XM,simprocAttr,h0,h1,h7];refine⟨k-1,by omega,p+1,st1.t,by omega, ?_, ?_,gw _⟩
     ·intro j hj hjp;by_cases e:j=p
      ·subst e;exact ho
      ·exact hok j hj (by omega)
     ·rw[hwd]
   | false=>
     simp only[XM,simprocAttr,h0,h1,h7];refine⟨gw _, ?_⟩;rw[Jh9 l p (by omega) hok hp ho]
  ·have hpe:p=l.length:=by omega
   simp only[XM,simprocAttr,h0,h1,h7,Jku,Jjt hr hp];refine⟨hg, ?_⟩;rw[(Jcc l).2 (by rw[Yp,List.all_eq_true];intro c hc;obtain⟨j,hj,rfl⟩:=List.getElem_of_mem hc;exact hok j hj (by omega))]
theorem rowC (l:List UInt8)(st:St)(hw:WF st)(hl:l.length<=100000):Does (tabT tabD) 131 [ofL l] st fun v st'=>Gr st st'/\v= .int .i64 (fore l):=by
 refine Jy (aT Tryz.func131 rfl) rfl ?_;simp only[CT,Tryz.f131,XZ,simprocAttr];refine Jd (Jrx l _ hw hl) ?_;rintro _ st1 ⟨hg,rfl⟩;simp only[XZ,simprocAttr];exact hg
theorem JgU (l:List UInt8)(st:St)(hw:WF st):Does (tabT tabD) 100 [ofL l] st fun v st'=>Gr st st'/\v= .bool (Kb l):=by
 refine Jy (aT Tryz.func100 rfl) rfl ?_
 cases l with
 | nil=>
   simp only[CT,Tryz.f100,XZ,simprocAttr];exact⟨Gr.refl hw,rfl⟩
 | cons c r=>
   obtain⟨l,hle⟩:∃l,l=c::r:=⟨_,rfl⟩
   rw[<-hle];have hne:¬l=[]:=by rw[hle];simp
   have hb:JdT l 0=c.toNat:=by rw[hle];exact kH (l:=c::r) (i:=0) (by simp)
   have h0:(0:Int)<=0/\(0:Int)<(l.length:Int):=by rw[hle];simp only[List.length_cons];omega
   have hid:Kb l=(decide (l.length<=16)&&(!digB c.toNat&&Yp l)):=by rw[hle];rfl
   by_cases h16:(l.length:Int)<=16
   ·simp only[CT,Tryz.f100,XZ,simprocAttr,hne,h16,h0,hb];refine Jd (Joy c.toNat (UInt8.toNat_lt _) _) ?_;rintro _ _ ⟨rfl,rfl⟩
    cases hd:digB c.toNat with
    | true=>
      simp only[XZ,simprocAttr];refine⟨Gr.refl hw, ?_⟩;rw[hid,hd];simp
    | false=>
      simp only[XZ,simprocAttr];refine Jd (rowC l _ hw (by omega)) ?_;rintro _ st1 ⟨hg,rfl⟩;simp only[XZ,simprocAttr];refine⟨hg, ?_⟩;rw[hid,hd,decide_eq_true (show l.length<=16 by omega)];by_cases ha:fore l=l.length
      ·rw[(Jcc l).1 ha];simp[ha]
      ·have:Yp l=false:=by
        cases ho:Yp l with
        |false=>rfl
        |true=>exact absurd ((Jcc l).2 ho) ha
       have ha':¬(fore l:Int)=(l.length:Int):=by omega
       rw[this];simp[ha']
   ·simp only[CT,Tryz.f100,XZ,simprocAttr,hne,h16];refine⟨Gr.refl hw, ?_⟩;rw[hid,decide_eq_false (show¬l.length<=16 by omega)];rfl
theorem Joz (l:List UInt8)(st:St)(hw:WF st):
  Does (tabT tabD) 104 [ofL l] st fun v st'=>Gr st st'/\v= .bool (Kb l&&Lib.contains jF (32::(l++[32]))):=by
 refine Jy (aT Tryz.func104 rfl) rfl ?_;simp only[CT,Tryz.f104,XZ,simprocAttr];refine Jd (JgU l _ hw) ?_;rintro _ st1 ⟨hg,rfl⟩
 cases hi:Kb l with
 | false=>
   simp only[XZ,simprocAttr];exact hg
 | true=>
   have hl:=Jej hi;simp only[XZ,simprocAttr,List.length_append];refine⟨by omega,by omega, ?_⟩;refine Jd (Jca (Q:=fun v st'=>v= .bool (Lib.contains jF (32::(l++[32])))/\st1=st') (aH (k:=101) rfl) (JcS jF (32::(l++[32])) (by decide)) ⟨rfl,rfl⟩) ?_;rintro _ _ ⟨rfl,rfl⟩;simp only[XZ,simprocAttr];exact hg
theorem Jsp {P:Pt->Prop}{st:St}{e:List V}{t:Ty}(hw:WF st)(h:TyC P st e t):Does (tabT tabD) 102 [.agg e] st fun v st'=>Gr st st'/\v= .int .i64 (KX t:Nat):=by
 refine Ju tabM (aT Tryz.func102 rfl) rfl hw fun K fin=> ?_;obtain⟨n,hn0⟩:=nxE st;have hold:=fun r (h:st.row r≠ .none)=>YJ hw hn0 h;obtain⟨k,nm,ns,ks⟩:=t;obtain⟨nv,kv,es,rfl,x1,x2,x3,x4⟩:=h.inv';have l1:=x1.len;rw[JW]at l1;have hk:KX (.mk k nm ns ks)=if k=4\/k=5\/k=6 then 1 else if k=7\/k=8 then ns.length else 0:=rfl;have fin':=fun v=>fin v (st.new fun t=> .cells t [.int .i64 k,ofL nm,nv,kv]) (fun r e=>by simp only[Kg,hn0,hold r e,if_false]);by_cases c4:k=4
 ·simp only[CT,Tryz.f102,XZ,simprocAttr,hn0,x1.cells,x2.cells,x1.sc,x2.sc,l1,c4];subst c4;exact fin' _ fun _=>rfl
 by_cases c5:k=5
 ·simp only[CT,Tryz.f102,XZ,simprocAttr,hn0,x1.cells,x2.cells,x1.sc,x2.sc,l1,c4,c5];subst c5;exact fin' _ fun _=>rfl
 by_cases c6:k=6
 ·simp only[CT,Tryz.f102,XZ,simprocAttr,hn0,x1.cells,x2.cells,x1.sc,x2.sc,l1,c4,c5,c6];subst c6;exact fin' _ fun _=>rfl
 by_cases c7:k=7
 ·simp only[CT,Tryz.f102,XZ,simprocAttr,hn0,x1.cells,x2.cells,x1.sc,x2.sc,l1,c4,c5,c6,c7];subst c7;exact fin' _ fun _=>rfl
 by_cases c8:k=8
 ·simp only[CT,Tryz.f102,XZ,simprocAttr,hn0,x1.cells,x2.cells,x1.sc,x2.sc,l1,c4,c5,c6,c7,c8];subst c8;exact fin' _ fun _=>rfl
 simp only[CT,Tryz.f102,XZ,simprocAttr,hn0,x1.cells,x2.cells,x1.sc,x2.sc,l1,c4,c5,c6,c7,c8];refine fin' _ fun _=> ?_;rw[hk,if_neg (by omega),if_neg (by omega)];rfl
theorem Jc9 {p:Option Str}{n:Str}{r:List Str}(h1:Kb n=true)(h2:Ka p n=false):Kx p (n::r)=Kx (some n) r:=by
 rw[Kx,if_neg (by rw[h1];simp),if_neg (by rw[h2];simp)]
theorem JpN {P:Pt->Prop}{st:St}{e:List V}{t:Ty}(hw:WF st)(h:TyC P st e t):Does (tabT tabD) 103 [.agg e] st fun v st'=>Gr st st'/\v= .int .i64 (KW t):=by
 refine Ju tabM (aT Tryz.func103 rfl) rfl hw fun K fin=> ?_;obtain⟨n,hn0⟩:=nxE st;have hold:=fun r (h:st.row r≠ .none)=>YJ hw hn0 h;obtain⟨k,nm,ns,ks⟩:=t;obtain⟨nv,kv,es,rfl,x1,x2,x3,x4⟩:=h.inv';have l1:=x1.len;rw[JW]at l1;have g0:Gr st (st.new fun t=> .cells t [.int .i64 k,ofL nm,nv,kv]):=Gr.new hw (Ja _);have hk:KW (.mk k nm ns ks)=if 8<ns.length then 3 else if Kx none ns≠0 then Kx none ns else if k=8/\ns=[]then 12 else 0:=rfl;have fin':=fun v=>fin v (st.new fun t=> .cells t [.int .i64 k,ofL nm,nv,kv]) (fun r e=>by simp only[Kg,hn0,hold r e,if_false]);by_cases c1:8<ns.length
 ·have c1':(8:Int)<ns.length:=by omega
  simp only[CT,Tryz.f103,XZ,simprocAttr,hn0,x1.cells,x2.cells,x1.sc,x2.sc,l1,c1'];exact fin' _ fun _=>by rw[hk,if_pos c1]
 have c1':¬(8:Int)<ns.length:=by omega
 simp only[CT,Tryz.f103,XZ,simprocAttr,hn0,x1.cells,x2.cells,x1.sc,x2.sc,l1,c1'];obtain⟨I,hI⟩:=loE fun j fr S=>∃i p,j+i=ns.length/\fr 1= .ptr (up 0 n) 0/\fr 10=nv/\fr 11= .int .i64 ns.length/\fr 12= .int .i64 i/\Gr (st.new fun t=> .cells t [.int .i64 k,ofL nm,nv,kv]) S/\Kx none ns=Kx p (ns.drop i)/\(p=if i=0 then none else ns[i-1]?);refine Jn I ns.length (by omega) ?_ ?_
 ·refine(hI _ _ _).2 ⟨0,none,by omega, ?_, ?_, ?_, ?_,Gr.refl g0.wf,rfl,rfl⟩
  all_goals simp only[XZ,simprocAttr]
  all_goals rfl
 ·rintro j fr S hIj;obtain⟨i,p,hj,f1,f10,f11,f12,hg,hrec,hp⟩:=(hI _ _ _).1 hIj;have b0:S.row (up 0 n)= .cells st.t [.int .i64 k,ofL nm,nv,kv]:=hg.cells (by simp only[XZ,simprocAttr,hn0]);have x1S:=x1.gr (g0.trans hg);by_cases hi:i<ns.length
  ·have hi':(i:Int)<ns.length:=by omega
   obtain⟨q,qo,a1,a2,a3,a4⟩:=x1S.one (xs:=ns.map ofL) (i:=i) (by simpa using hi);simp only[List.getElem_map]at a4;simp only[XZ,simprocAttr,f1,f10,f11,f12,hi',a1,a4];have G:=g0.trans hg;have hd:=List.drop_eq_getElem_cons hi;refine Jd (JgU _ _ hg.wf) ?_;rintro _ S2 ⟨g2,rfl⟩;have G2:=G.trans g2;have b2:=g2.cells b0
   cases hid:Kb ns[i]with
   | false=>
     simp only[XZ,simprocAttr];refine fin _ _ (fun r e=>G2.same r e) fun _=> ?_;rw[hk,if_neg c1,hrec,hd,Kx,if_pos hid];rfl
   | true=>
     have hadd1:IntKind.i64.wrap ((i:Int)+1)=((i+1:Nat):Int):=by rw[Jo (by omega) (by omega)];rfl
     have next:∀{fr':Fr},Ka p ns[i]=false->fr' 1= .ptr (up 0 n) 0->fr' 10=nv->fr' 11= .int .i64 ns.length->fr' 12= .int .i64 ((i+1:Nat):Int)->∃j',j'<j/\I j' fr' S2:=fun{fr'} hl e1 e10 e11 e12=>
      ⟨ns.length-(i+1),by omega,(hI _ _ _).2 ⟨i+1,some ns[i],by omega,e1,e10,e11,e12,hg.trans g2,by rw[hrec,hd,Jc9 hid hl],by rw[if_neg (by omega)];simp[hi]⟩⟩
     by_cases h0:i=0
     ·have h0':¬(0:Int)<(i:Int):=by omega
      simp only[XZ,simprocAttr,f1,f10,f11,f12,h0',hadd1];refine next (by rw[hp,if_pos h0];rfl) ?_ ?_ ?_ ?_<;>simp only[XZ,simprocAttr,f1,f10,f11,f12]
     ·have h0':(0:Int)<(i:Int):=by omega
      have hsub:IntKind.i64.wrap ((i:Int)-1)=((i-1:Nat):Int):=by rw[Jo (by omega) (by omega)];omega
      obtain⟨q',qo',d1,d2,d3,d4⟩:=(x1.gr G2).one (xs:=ns.map ofL) (i:=i-1) (by simp;omega);simp only[List.getElem_map]at d4;have hp':p=some ns[i-1]:=by rw[hp,if_neg h0,List.getElem?_eq_getElem (by omega)]
      cases hl:Op.bytesLess ns[i-1] ns[i]with
      | false=>
        simp only[XZ,simprocAttr,f1,f10,f11,f12,h0',b2,hsub,d1,d4,QH,hl];refine fin _ _ (fun r e=>G2.same r e) fun _=> ?_;have hv:Kx none ns=6:=by rw[hrec,hd,Kx,if_neg (by rw[hid];simp),if_pos (by rw[hp',Ka,hl];rfl)]
        rw[hk,if_neg c1,hv];rfl
      | true=>
        simp only[XZ,simprocAttr,f1,f10,f11,f12,h0',b2,hsub,d1,d4,QH,hl,hadd1];refine next (by rw[hp',Ka,hl];rfl) ?_ ?_ ?_ ?_<;>simp only[XZ,simprocAttr,f1,f10,f11,f12]
  ·have hi':¬(i:Int)<ns.length:=by omega
   have hie:i=ns.length:=by omega
   have hn:Kx none ns=0:=by rw[hrec,hie,List.drop_length,Kx]
   have G:=g0.trans hg;by_cases c8:k=8
   ·by_cases cn:ns.length=0
    ·have cn':((ns.length:Int)=0)=True:=eq_true (by omega);have c8':(k=8)=True:=eq_true c8;simp only[XZ,simprocAttr,f1,f10,f11,f12,hi',b0,l1,c8',cn'];refine fin _ _ (fun r e=>G.same r e) fun _=> ?_;rw[hk,if_neg c1,hn,if_neg (by simp),if_pos ⟨c8,List.length_eq_zero_iff.1 cn⟩]
    ·have cn':((ns.length:Int)=0)=False:=eq_false (by omega);have c8':(k=8)=True:=eq_true c8;simp only[XZ,simprocAttr,f1,f10,f11,f12,hi',b0,l1,c8',cn'];refine fin _ _ (fun r e=>G.same r e) fun _=> ?_;rw[hk,if_neg c1,hn,if_neg (by simp),if_neg fun h=>cn (by rw[h.2];rfl)]
   ·simp only[XZ,simprocAttr,f1,f10,f11,f12,hi',b0,l1,c8];refine fin _ _ (fun r e=>G.same r e) fun _=> ?_;rw[hk,if_neg c1,hn,if_neg (by simp),if_neg fun h=>c8 h.1]
theorem JqH {P:Pt->Prop}{st:St}{e:List V}{s:Sch}(n:Str)(hw:WF st)(h:SchC P st e s)(hl:s.types.length<=1000):
  Does (tabT tabD) 126 [.agg e,ofL n] st fun v S=>Gr st S/\∃E,v= .tup [.agg E, .bool (hasN s.types n)]/\TyC P st E ((defN s.types n).getD Qu):=by
 refine Ju tabM (aT Tryz.func126 rfl) rfl hw fun K fin=> ?_;obtain⟨n0,hn0⟩:=nxE st;obtain⟨c,tv,sv,rfl,h1,h2,h3⟩:=h;obtain⟨l,hll⟩:∃l,l=s.types:=⟨_,rfl⟩
 rw[<-hll]at h2 hl fin;obtain⟨nv,kv,es,rfl,x1,x2,x3,x4⟩:=h1.inv;have l1:=h2.len;have cs1:=x1.cells;have cs2:=x1.sc;have cs3:=x2.cells;have cs4:=x2.sc;have cv1:=h2.sc;have cv2:=h3.sc;obtain⟨I,hI⟩:=opE fun fr S=>(Gr st S/\fr 1=ofL n/\fr 2= .ptr (up 0 n0) 0/\fr 4= .ptr (up 1 n0) 0/\(∃u,S.row (up 0 n0)= .cells u [.int .i64 s.main.kind,ofL s.main.name,nv,kv,tv,sv])/\(∃u,S.row (up 1 n0)= .cells u [.int .i64 0,ofL [], .snil, .snil]))
 simp only[CT,Tryz.f126,XY,simprocAttr];refine QY I ?_ ?_
 ·simp only[XZ,simprocAttr,hn0,cs1,cs2,cs3,cs4,cv1.1,cv1.2,cv2.1,cv2.2];exact(hI _ _).2 ⟨(Gr.new hw (Ja _)).nn (Ja _),rfl,rfl,rfl,⟨_,by simp only[XZ,simprocAttr,hn0];rfl⟩,⟨_,by simp only[XZ,simprocAttr,hn0];rfl⟩⟩
 intro fr S hIf;obtain⟨g0,f1,f2,f4,⟨t0,r0⟩,⟨t1,r1⟩⟩:=(hI _ _).1 hIf;rw[Je,Jb];simp only[XY,simprocAttr];have kst:∀r,st.row r≠ .none->S.row r=st.row r:=fun r e=>g0.same r e;obtain⟨L,hL⟩:=loE fun j fr S'=>∃(i:Nat),j+i=l.length/\fr 1=ofL n/\fr 2= .ptr (up 0 n0) 0/\fr 4= .ptr (up 1 n0) 0/\fr 6= .int .i64 i/\S=S'/\defN l n=defN (l.drop i) n;refine Jn L l.length (by omega) ((hL _ _ _).2 ⟨0,by omega,f1,f2,f4,by simp only[XZ,simprocAttr]<;>rfl,rfl,rfl⟩) ?_;clear f1 f2 f4;intro j fr S' hLj;obtain⟨i,hj,f1,f2,f4,f6,rfl,hrec⟩:=(hL _ _ _).1 hLj;have wr1:∀E:List V,Gr st (S.wr (up 1 n0) t1 fun u=> .cells u E):=fun E=>g0.wr (nx0 hw hn0 1) (Jc r1) (by rw[r1];rfl) (Ja _);by_cases hi:i<l.length
 ·have hi':(i:Int)<l.length:=by omega
  obtain⟨r,q,nv1,kv1,a1,a3,a4,hty,d1,d2,d3,d4⟩:=JcW h2 kst hi;have a5:=Jaw a4 (j:=0) (by decide) rfl;have a5:ld1 (S.row r) q=some (ofL l[i].1, .no):=a5;have a6:=qT (a:=1) (b:=4) a4;have a6:ldn (S.row r) (q+1) 4=some (.agg [.int .i64 l[i].2.kind,ofL l[i].2.name,nv1,kv1], .no):=a6;have hadd1:IntKind.i64.wrap ((i:Int)+1)=((i+1:Nat):Int):=by rw[Jo (by omega) (by omega)];rfl
  have hd:defN (l.drop i) n=if l[i].1=n then some l[i].2 else defN (l.drop (i+1)) n:=by
   rw[List.drop_eq_getElem_cons hi];unfold defN;rw[List.find?_cons];by_cases e:l[i].1=n
   ·simp[e]
   ·simp[e]
  by_cases hn:l[i].1=n
  ·rw[if_pos hn]at hd;simp only[XZ,simprocAttr,f1,f2,f4,f6,r0,l1,hi',a1,a5,a6,hn,d1,d2,d3,d4,r1];refine fin _ _ (fun r e=>(wr1 _).same r e) fun _=>⟨[.int .i64 l[i].2.kind,ofL l[i].2.name,nv1,kv1], ?_, ?_⟩
   ·rw[Jek,hrec,hd];rfl
   ·rw[hrec,hd];exact hty
  ·rw[if_neg hn]at hd;simp only[XZ,simprocAttr,f1,f2,f4,f6,r0,l1,hi',a1,a5,hn,hadd1];exact⟨l.length-(i+1),by omega,(hL _ _ _).2 ⟨i+1,by omega,f1,f2,f4,rfl,rfl,by rw[hrec,hd]⟩⟩
 ·have hi':¬(i:Int)<l.length:=by omega
  have hdef:defN l n=none:=by rw[hrec,List.drop_eq_nil_of_le (by omega)];rfl
  simp only[XZ,simprocAttr,f2,f4,f6,r0,r1,l1,hi'];refine fin _ _ (fun r e=>(wr1 _).same r e) fun _=>⟨[.int .i64 0,ofL [], .snil, .snil], ?_, ?_⟩
  ·rw[Jek,hdef];rfl
  ·rw[hdef];exact JnF P _
theorem rinC {P:Pt->Prop}{st:St}{v:V}{ns:List Str}(n:Str)(hw:WF st)(h:SlAt P st v 1 (strs ns))(hl:ns.length<=1000):
  Does (tabT tabD) 127 [v,ofL n] st fun v' S=>v'= .bool (ns.contains n)/\st=S:=by
 refine Jy (aT Tryz.func127 rfl) rfl ?_;have l1:=h.len;rw[JW]at l1;simp only[CT,Tryz.f127,XY,simprocAttr];rw[Jb];simp only[XY,simprocAttr];rw[Je,Jb];simp only[XY,simprocAttr];obtain⟨L,hL⟩:=loE fun j fr S'=>∃(i:Nat),j+i=ns.length/\fr 0=v/\fr 1=ofL n/\fr 5= .int .i64 i/\st=S'/\ns.contains n=(ns.drop i).contains n;refine Jn L ns.length (by omega) ((hL _ _ _).2 ⟨0,by omega,rfl,rfl,by simp only[XZ,simprocAttr]<;>rfl,rfl,rfl⟩) ?_;intro j fr S' hLj;obtain⟨i,hj,f0,f1,f5,rfl,hrec⟩:=(hL _ _ _).1 hLj;by_cases hi:i<ns.length
 ·have hi':(i:Int)<ns.length:=by omega
  obtain⟨q,qo,a1,a2,a3,a4⟩:=h.one (xs:=ns.map ofL) (i:=i) (by simpa using hi);simp only[List.getElem_map]at a4;have hadd1:IntKind.i64.wrap ((i:Int)+1)=((i+1:Nat):Int):=by rw[Jo (by omega) (by omega)];rfl
  rw[List.drop_eq_getElem_cons hi,List.contains_cons]at hrec;by_cases hn:ns[i]=n
  ·simp only[XZ,simprocAttr,f0,f1,f5,l1,hi',a1,a4,hn];rw[hrec,hn];simp
  ·have hn2:(n==ns[i])=false:=by simpa using fun e=>hn e.symm
   rw[hn2,Bool.false_or]at hrec;simp only[XZ,simprocAttr,f0,f1,f5,l1,hi',a1,a4,hn,hadd1];exact⟨ns.length-(i+1),by omega,(hL _ _ _).2 ⟨i+1,by omega,f0,f1,rfl,rfl,hrec⟩⟩
 ·have hi':¬(i:Int)<ns.length:=by omega
  simp only[XZ,simprocAttr,f0,f5,l1,hi'];rw[hrec,List.drop_eq_nil_of_le (by omega)];rfl
theorem Jsq {P:Pt->Prop}{st:St}{e1 e2:List V}{s:Sch}{t:Ty}(hw:WF st)(h:SchC P st e1 s)(ht:TyC P st e2 t)(hl:s.types.length<=1000):
  Does (tabT tabD) 93 [.agg e1, .agg e2] st fun v S=>Gr st S/\v= .int .i64 (ownS (hasN s.types) t):=by
 refine Ju tabM (aT Tryz.func93 rfl) rfl hw fun K fin=> ?_;obtain⟨n0,hn0⟩:=nxE st;have hsch:=h;obtain⟨c,tv,sv,rfl,h1,h2,h3⟩:=h;obtain⟨nv0,kv0,es0,rfl,x1,x2,x3,x4⟩:=h1.inv;obtain⟨k,n,ns,ks⟩:=t;obtain⟨nv,kv,es,rfl,y1,y2,y3,y4⟩:=ht.inv';have l1:=y1.len;rw[JW]at l1;have l2:=y2.len;rw[y3]at l2;have cs1:=x1.cells;have cs2:=x1.sc;have cs3:=x2.cells;have cs4:=x2.sc;have cv1:=h2.sc;have cv2:=h3.sc;have ct1:=y1.cells;have ct2:=y1.sc;have ct3:=y2.cells;have ct4:=y2.sc;have hown:ownS (hasN s.types) (.mk k n ns ks)=if k<1\/9<k then 1 else if ks.length≠KX (.mk k n ns ks)\/(n≠[]/\k≠9)\/(0<ns.length/\¬(k=7\/k=8))then 12 else if k=9/\hasN s.types n=false then 15 else KW (.mk k n ns ks):=rfl;have hk:KW (.mk k n ns ks)=if 8<ns.length then 3 else if Kx none ns≠0 then Kx none ns else if k=8/\ns=[]then 12 else 0:=rfl;obtain⟨I,hI⟩:=opE fun fr S=>(Gr st S/\fr 2= .ptr (up 0 n0) 0/\fr 3= .ptr (up 1 n0) 0/\(∃u,S.row (up 0 n0)= .cells u [.int .i64 s.main.kind,ofL s.main.name,nv0,kv0,tv,sv])/\(∃u,S.row (up 1 n0)= .cells u [.int .i64 k,ofL n,nv,kv]))
 simp only[CT,Tryz.f93,XY,simprocAttr];refine QY I ?_ ?_
 ·simp only[XZ,simprocAttr,hn0,cs1,cs2,cs3,cs4,cv1.1,cv1.2,cv2.1,cv2.2,ct1,ct2,ct3,ct4];exact(hI _ _).2 ⟨(Gr.new hw (Ja _)).nn (Ja _),rfl,rfl,⟨_,by simp only[XZ,simprocAttr,hn0];rfl⟩,⟨_,by simp only[XZ,simprocAttr,hn0];rfl⟩⟩
 intro fr S hIf;obtain⟨g0,f2,f3,⟨t0,r0⟩,⟨t1,r1⟩⟩:=(hI _ _).1 hIf;have out:∀x,ownS (hasN s.types) (.mk k n ns ks)=x->∀S',Gr S S'->K (.int .i64 x) S':=fun x hx S' g=>fin _ _ (fun r e=>(g0.trans g).same r e) fun _=>by rw[hx]
 have rS:=Gr.refl g0.wf;by_cases b1:k<1
 ·rw[Je,Jb];simp only[XZ,simprocAttr,f3,r1,b1];exact out _ (by rw[hown,if_pos (.inl b1)]) _ rS
 by_cases b2:9<k
 ·rw[Je,Jb];simp only[XZ,simprocAttr,f3,r1,b1,b2];exact out _ (by rw[hown,if_pos (.inr b2)]) _ rS
 rw[if_neg (fun h=>by rcases h with h|h;exact b1 h;exact b2 h)]at hown;rw[Je,Jb];simp only[XY,simprocAttr,f3,r1,b1,b2];rw[Jb];simp only[XY,simprocAttr];obtain⟨J,hJ⟩:=opE fun fr S'=>(S=S'/\fr 2= .ptr (up 0 n0) 0/\fr 3= .ptr (up 1 n0) 0/\fr 5= .int .i64 (KX (.mk k n ns ks):Nat))
 refine JM J ?_ ?_
 ·have hks:KX (.mk k n ns ks)=if k=4\/k=5\/k=6 then 1 else if k=7\/k=8 then ns.length else 0:=rfl;by_cases k4:k=4
  ·simp only[XZ,simprocAttr,f3,r1,k4];exact(hJ _ _).2 ⟨rfl,f2,f3,by simp only[XZ,simprocAttr];rw[hks,if_pos (.inl k4)];rfl⟩
  by_cases k5:k=5
  ·simp only[XZ,simprocAttr,f3,r1,k4,k5];exact(hJ _ _).2 ⟨rfl,f2,f3,by simp only[XZ,simprocAttr];rw[hks,if_pos (.inr (.inl k5))];rfl⟩
  by_cases k6:k=6
  ·simp only[XZ,simprocAttr,f3,r1,k4,k5,k6];exact(hJ _ _).2 ⟨rfl,f2,f3,by simp only[XZ,simprocAttr];rw[hks,if_pos (.inr (.inr k6))];rfl⟩
  rw[if_neg (by omega)]at hks;by_cases k7:k=7
  ·simp only[XZ,simprocAttr,f3,r1,k4,k5,k6,k7,l1];exact(hJ _ _).2 ⟨rfl,f2,f3,by simp only[XZ,simprocAttr];rw[hks,if_pos (.inl k7)]⟩
  by_cases k8:k=8
  ·simp only[XZ,simprocAttr,f3,r1,k4,k5,k6,k7,k8,l1];exact(hJ _ _).2 ⟨rfl,f2,f3,by simp only[XZ,simprocAttr];rw[hks,if_pos (.inr k8)]⟩
  rw[if_neg (by omega)]at hks;simp only[XZ,simprocAttr,f3,r1,k4,k5,k6,k7,k8];exact(hJ _ _).2 ⟨rfl,f2,f3,by simp only[XZ,simprocAttr];rw[hks];rfl⟩
 clear f2 f3;intro fr S' hJf;obtain⟨rfl,f2,f3,f5⟩:=(hJ _ _).1 hJf;obtain⟨kk,hkk⟩:∃kk,kk=KX (.mk k n ns ks):=⟨_,rfl⟩
 rw[<-hkk]at f5 hown;obtain⟨R,hR⟩:∃b,b=decide (k=7\/k=8):=⟨_,rfl⟩
 obtain⟨J2,hJ2⟩:=opE fun fr S'=>(S=S'/\fr 2= .ptr (up 0 n0) 0/\fr 3= .ptr (up 1 n0) 0/\fr 5= .int .i64 kk/\fr 6= .bool R)
 refine QY J2 ?_ ?_
 ·by_cases k7:k=7
  ·simp only[XZ,simprocAttr,f3,r1,k7];exact(hJ2 _ _).2 ⟨rfl,f2,f3,f5,by simp only[XZ,simprocAttr];rw[hR,decide_eq_true (.inl k7)]⟩
  by_cases k8:k=8
  ·simp only[XZ,simprocAttr,f3,r1,k7,k8];exact(hJ2 _ _).2 ⟨rfl,f2,f3,f5,by simp only[XZ,simprocAttr];rw[hR,decide_eq_true (.inr k8)]⟩
  simp only[XZ,simprocAttr,f3,r1,k7,k8];exact(hJ2 _ _).2 ⟨rfl,f2,f3,f5,by simp only[XZ,simprocAttr];rw[hR,decide_eq_false (by omega)]⟩
 clear f2 f3 f5;intro fr S' hJf;obtain⟨rfl,f2,f3,f5,f6⟩:=(hJ2 _ _).1 hJf;by_cases c1:ks.length=kk;rotate_left
 ·have c1':¬(ks.length:Int)=(kk:Int):=by omega
  rw[Je,Jb];simp only[XZ,simprocAttr,f3,f5,r1,l2,c1'];exact out _ (by rw[hown,if_pos (.inl c1)]) _ rS
 have c1':(ks.length:Int)=(kk:Int):=by omega
 by_cases c2:n≠[]/\k≠9
 ·have c2a:¬n=[]:=c2.1;have c2b:¬k=9:=c2.2;rw[Je,Jb];simp only[XZ,simprocAttr,f3,f5,r1,l2,c1',c2a,c2b];exact out _ (by rw[hown,if_pos (.inr (.inl c2))]) _ rS
 by_cases c3:0<ns.length/\¬(k=7\/k=8)
 ·have c3a:¬(ns.length:Int)=0:=by omega
  have hR0:R=false:=by rw[hR];exact decide_eq_false c3.2
  rw[hR0]at f6;by_cases k9:k=9
  ·rw[Je,Jb];simp only[XZ,simprocAttr,f3,f5,f6,r1,l1,l2,c1',c3a,k9];exact out _ (by rw[hown,if_pos (.inr (.inr c3))]) _ rS
  ·have hn:n=[]:=Classical.byContradiction fun h=>c2 ⟨h,k9⟩;rw[Je,Jb];simp only[XZ,simprocAttr,f3,f5,f6,r1,l1,l2,c1',c3a,k9,hn];exact out _ (by rw[hown,if_pos (.inr (.inr c3))]) _ rS
 rw[if_neg (fun h=>by rcases h with h|h|h;exact h c1;exact c2 h;exact c3 h)]at hown;have hn9:k=9\/n=[]:=by
  by_cases k9:k=9
  ·exact .inl k9
  ·exact .inr (Classical.byContradiction fun h=>c2 ⟨h,k9⟩)
 have hr0:R=true\/R=false/\(ns.length:Int)=0:=by
  by_cases k78:k=7\/k=8
  ·exact .inl (by rw[hR];exact decide_eq_true k78)
  ·exact .inr ⟨by rw[hR];exact decide_eq_false k78,by have:=fun h=>c3 ⟨h,k78⟩;omega⟩
 obtain⟨J3,hJ3⟩:=opE fun fr S'=>(S=S'/\fr 2= .ptr (up 0 n0) 0/\fr 3= .ptr (up 1 n0) 0)
 refine JM J3 ?_ ?_
 ·have fin3:∀fr':Fr,fr' 2= .ptr (up 0 n0) 0->fr' 3= .ptr (up 1 n0) 0->J3 fr' S:=fun _ a b=>(hJ3 _ _).2 ⟨rfl,a,b⟩;rcases hn9 with k9|hn
  ·rcases hr0 with hr|⟨hr,hz⟩
   ·rw[hr]at f6;rw[Jb];simp only[XZ,simprocAttr,f3,f5,f6,r1,l1,l2,c1',k9];exact fin3 _ f2 f3
   ·rw[hr]at f6;rw[Jb];simp only[XZ,simprocAttr,f3,f5,f6,r1,l1,l2,c1',k9,hz];exact fin3 _ f2 f3
  ·by_cases k9:k=9
   ·rcases hr0 with hr|⟨hr,hz⟩
    ·rw[hr]at f6;rw[Jb];simp only[XZ,simprocAttr,f3,f5,f6,r1,l1,l2,c1',k9];exact fin3 _ f2 f3
    ·rw[hr]at f6;rw[Jb];simp only[XZ,simprocAttr,f3,f5,f6,r1,l1,l2,c1',k9,hz];exact fin3 _ f2 f3
   ·rcases hr0 with hr|⟨hr,hz⟩
    ·rw[hr]at f6;rw[Jb];simp only[XZ,simprocAttr,f3,f5,f6,r1,l1,l2,c1',k9,hn];exact fin3 _ f2 f3
    ·rw[hr]at f6;rw[Jb];simp only[XZ,simprocAttr,f3,f5,f6,r1,l1,l2,c1',k9,hn,hz];exact fin3 _ f2 f3
 clear f2 f3 f5 f6;intro fr S' hJf;obtain⟨rfl,f2,f3⟩:=(hJ3 _ _).1 hJf;obtain⟨J4,hJ4⟩:=opE fun fr S'=>(Gr S S'/\fr 3= .ptr (up 1 n0) 0/\¬(k=9/\hasN s.types n=false))
 refine JM J4 ?_ ?_
 ·by_cases k9:k=9
  ·rw[Jb];simp only[XY,simprocAttr,f3,r1,k9];rw[Jb];simp only[XY,simprocAttr,f2,f3,r0,r1,cs1,cs2,cs3,cs4,cv1.1,cv1.2,cv2.1,cv2.2];refine Jd (JqH (P:=P) (s:=s) n g0.wf (hsch.imp fun r p e=>⟨p,g0.same r e⟩) hl) ?_;rintro _ S1 ⟨g1,E,rfl,hE⟩;have w1:=g1.wf;obtain⟨n1,hn1⟩:=nxE S1;have e4:=hE.four;have eok:=hE.ok;have esp:JI [.int .i64 0,ofL [], .snil, .snil] 0 E=E:=Q1 (by rw[e4];rfl);have etk:E.take 4=E:=by rw[<-e4,List.take_length]
   have gn:Gr S1 ((S1.new fun t=> .cells t [.int .i64 0,ofL [], .snil, .snil]).wr (up 0 n1) S1.t fun u=> .cells u E):=(Gr.refl w1).nw hn1 (Ja _) (Ja _);simp only[XN,simprocAttr,hn1,e4,eok,etk,esp]
   cases hh:hasN s.types n with
   | true=>
     rw[Jb];simp only[XZ,simprocAttr];exact(hJ4 _ _).2 ⟨g1.trans gn,f3,fun h=>by rw[hh]at h;cases h.2⟩
   | false=>
     rw[Jb];simp only[XZ,simprocAttr];exact out _ (by rw[hown,if_pos ⟨k9,hh⟩]) _ (g1.trans gn)
  ·rw[Jb];simp only[XZ,simprocAttr,f3,r1,k9];exact(hJ4 _ _).2 ⟨rS,f3,fun h=>k9 h.1⟩
 clear f2 f3;intro fr S1 hJf;obtain⟨g1,f3,c4⟩:=(hJ4 _ _).1 hJf;rw[if_neg c4,hk]at hown;have r1:=g1.cells r1;by_cases b8:8<ns.length
 ·have b8':(8:Int)<ns.length:=by omega
  rw[Je,Jb];simp only[XZ,simprocAttr,f3,r1,l1,b8'];exact out _ (by rw[hown,if_pos b8]) _ g1
 have b8':¬(8:Int)<ns.length:=by omega
 rw[if_neg b8]at hown;rw[Je,Jb];simp only[XY,simprocAttr,f3,r1,l1,b8'];obtain⟨J5,hJ5⟩:=opE fun fr S'=>(S1=S'/\fr 3= .ptr (up 1 n0) 0/\Kx none ns=0)
 refine JM J5 ?_ ?_
 ·rw[Jb];simp only[XY,simprocAttr];obtain⟨L,hL⟩:=loE fun j fr S'=>∃(i:Nat) (p:Option Str),j+i=ns.length/\fr 3= .ptr (up 1 n0) 0/\fr 9= .int .i64 i/\S1=S'/\Kx none ns=Kx p (ns.drop i)/\(p=if i=0 then none else ns[i-1]?);refine Jn L ns.length (by omega) ((hL _ _ _).2 ⟨0,none,by omega,f3,by simp only[XZ,simprocAttr]<;>rfl,rfl,rfl,rfl⟩) ?_;clear f3;intro j fr S' hLj;obtain⟨i,p,hj,f3,f9,rfl,hrec,hp⟩:=(hL _ _ _).1 hLj;have yS:=(y1.gr (g0.trans g1))
  by_cases hi:i<ns.length
  ·have hi':(i:Int)<ns.length:=by omega
   obtain⟨q,qo,a1,a2,a3,a4⟩:=yS.one (xs:=ns.map ofL) (i:=i) (by simpa using hi);simp only[List.getElem_map]at a4;have hd:=List.drop_eq_getElem_cons hi;have hadd1:IntKind.i64.wrap ((i:Int)+1)=((i+1:Nat):Int):=by rw[Jo (by omega) (by omega)];rfl
   simp only[XZ,simprocAttr,f3,f9,r1,l1,hi',a1,a4];refine Jd (JgT _ _) ?_;rintro _ _ ⟨rfl,rfl⟩
   cases hid:Kb ns[i]with
   | false=>
     have hv:Kx none ns=15:=by rw[hrec,hd,Kx,if_pos hid]
     simp only[XZ,simprocAttr];exact out _ (by rw[hown,hv];rfl) _ g1
   | true=>
     have next:∀{fr':Fr},Ka p ns[i]=false->fr' 3= .ptr (up 1 n0) 0->fr' 9= .int .i64 ((i+1:Nat):Int)->∃j',j'<j/\L j' fr' S1:=fun{fr'} hl e3 e9=>
      ⟨ns.length-(i+1),by omega,(hL _ _ _).2 ⟨i+1,some ns[i],by omega,e3,e9,rfl,by rw[hrec,hd,Jc9 hid hl],by rw[if_neg (by omega)];simp[hi]⟩⟩
     by_cases h0:i=0
     ·have h0':¬(0:Int)<(i:Int):=by omega
      simp only[XZ,simprocAttr,f9,h0',hadd1,Jj];exact next (by rw[hp,if_pos h0];rfl) f3 rfl
     ·have h0':(0:Int)<(i:Int):=by omega
      have hsub:IntKind.i64.wrap ((i:Int)-1)=((i-1:Nat):Int):=by rw[Jo (by omega) (by omega)];omega
      obtain⟨q',qo',d1,d2,d3,d4⟩:=yS.one (xs:=ns.map ofL) (i:=i-1) (by simp;omega);simp only[List.getElem_map]at d4;have hp':p=some ns[i-1]:=by rw[hp,if_neg h0,List.getElem?_eq_getElem (by omega)]
      cases hl:Op.bytesLess ns[i-1] ns[i]with
      | false=>
        have hv:Kx none ns=6:=by rw[hrec,hd,Kx,if_neg (by rw[hid];simp),if_pos (by rw[hp',Ka,hl];rfl)]
        simp only[XZ,simprocAttr,f3,f9,r1,h0',hsub,a1,a4,d1,d4,kA,hl,Jj];exact out _ (by rw[hown,hv];rfl) _ g1
      | true=>
        simp only[XZ,simprocAttr,f3,f9,r1,h0',hsub,a1,a4,d1,d4,kA,hl,Jj,hadd1];exact next (by rw[hp',Ka,hl];rfl) f3 rfl
  ·have hi':¬(i:Int)<ns.length:=by omega
   have hv:Kx none ns=0:=by rw[hrec,List.drop_eq_nil_of_le (by omega),Kx]
   simp only[XZ,simprocAttr,f3,f9,r1,l1,hi'];exact(hJ5 _ _).2 ⟨rfl,f3,hv⟩
 clear f3;intro fr S' hJf;obtain⟨rfl,f3,hn0'⟩:=(hJ5 _ _).1 hJf;rw[if_neg (fun h=>h hn0')]at hown;by_cases c8:k=8
 ·by_cases cn:ns.length=0
  ·have cn':(ns.length:Int)=0:=by omega
   simp only[XZ,simprocAttr,f3,r1,l1,c8,cn'];exact out _ (by rw[hown,if_pos ⟨c8,List.length_eq_zero_iff.1 cn⟩]) _ g1
  ·have cn':¬(ns.length:Int)=0:=by omega
   simp only[XZ,simprocAttr,f3,r1,l1,c8,cn'];exact out _ (by rw[hown,if_neg fun h=>cn (by rw[h.2];rfl)]) _ g1
 ·simp only[XZ,simprocAttr,f3,r1,l1,c8];exact out _ (by rw[hown,if_neg fun h=>c8 h.1]) _ g1
theorem JoA :∀(m:Nat) (ty:Ty),tsz ty<m->∀(P Q:Pt->Prop) (st:St) (lv:V) (has:List Str) (e:List V),WF st->SlAt Q st lv 1 (strs has)->has.length<=1000->TyC P st e ty->cntT ty<1000000->
  Does (tabT tabD) 94 [lv, .agg e] st fun v st'=>Gr st st'/\v= .bool (KH has.contains ty)
 |0,_,h=>absurd h (by omega)
 | m+1, .mk k nm ns ks,hm=>by
   intro P Q st lv has e hw hlv hlh hx hsz;refine Ju tabM (aT Tryz.func94 rfl) rfl hw fun K fin=> ?_;obtain⟨n0,hn0⟩:=nxE st;obtain⟨nv,kv,es,rfl,y1,y2,y3,y4⟩:=hx.inv';have l2:=y2.len;rw[y3]at l2;have ct1:=y1.cells;have ct2:=y1.sc;have ct3:=y2.cells;have ct4:=y2.sc;have hS:=Jex has.contains k nm ns ks;have hlen:ks.length<1000000:=by have h1:=JbL ks;rw[Yq]at hsz;omega
   obtain⟨I,hI⟩:=opE fun fr S=>(Gr st S/\fr 0=lv/\fr 3= .ptr (up 0 n0) 0/\(∃u,S.row (up 0 n0)= .cells u [.int .i64 k,ofL nm,nv,kv]))
   simp only[CT,Tryz.f94,XY,simprocAttr];refine QY I ?_ ?_
   ·simp only[XZ,simprocAttr,hn0,ct1,ct2,ct3,ct4];exact(hI _ _).2 ⟨Gr.new hw (Ja _),rfl,rfl,⟨_,by simp only[XZ,simprocAttr,hn0];rfl⟩⟩
   intro fr S hIf;obtain⟨g0,f0,f3,⟨t0,r0⟩⟩:=(hI _ _).1 hIf;have out:∀b,KH has.contains (.mk k nm ns ks)=b->∀S',Gr S S'->K (.bool b) S':=fun b hb S' g=>fin _ _ (fun r e=>(g0.trans g).same r e) fun _=>by rw[hb]
   have kid:∀{S':St} {i:Nat} (hi:i<ks.length),Gr S S'->∃q o E,JJ 4 kv (.int .i64 i)=some (.ptr q o, .no)/\ldn (S'.row q) o 4=some (.agg E, .no)/\Does (tabT tabD) 94 [lv, .agg E] S' fun v S''=>Gr S' S''/\v= .bool (KH has.contains ks[i]):=fun{S' i} hi g=>by
    have G:=g0.trans g;have hx2:LstAt (TyC P S') P S' kv 4 ks:=⟨es,y2.gr G,y3,fun i a b=>(y4 i a b).gr G⟩
    obtain⟨q,qo,E',a1,a2,a3,a4,hE,e4,a5⟩:=hx2.elem hi;have h1:=jf hi;have h2:=Yq k nm ns ks;exact⟨q,qo,E',a1,a4,JoA m ks[i] (by have:=Ym (k:=k) (n:=nm) (ns:=ns) hi;omega) P Q S' lv has E' G.wf (hlv.gr G) hlh hE (by omega)⟩
   rw[Je,Jb];simp only[XY,simprocAttr,f3,r0];by_cases k7:k=7
   ·rw[if_pos k7,JbU]at hS;rw[Jb];simp only[XY,simprocAttr,k7];rw[Je,Jb];simp only[XY,simprocAttr];obtain⟨L,hL⟩:=loE fun j fr S'=>∃(i:Nat),j+i=ks.length/\fr 0=lv/\fr 3= .ptr (up 0 n0) 0/\fr 5= .int .i64 i/\Gr S S'/\(ks.all fun t=>KH has.contains t)=((ks.drop i).all fun t=>KH has.contains t);refine Jn L ks.length (by omega) ((hL _ _ _).2 ⟨0,by omega,f0,f3,by simp only[XZ,simprocAttr]<;>rfl,Gr.refl g0.wf,rfl⟩) ?_;clear f0 f3;intro j fr S' hLj;obtain⟨i,hj,f0,f3,f5,hg,hrec⟩:=(hL _ _ _).1 hLj;have r0:=hg.cells r0;by_cases hi:i<ks.length
    ·have hi':(i:Int)<ks.length:=by omega
     have hadd1:IntKind.i64.wrap ((i:Int)+1)=((i+1:Nat):Int):=by rw[Jo (by omega) (by omega)];rfl
     obtain⟨q,o,E,a1,a2,a3⟩:=kid hi hg;rw[List.drop_eq_getElem_cons hi,List.all_cons]at hrec;simp only[XZ,simprocAttr,f0,f3,f5,r0,l2,hi',a1,a2];refine Jd a3 ?_;rintro _ S2 ⟨g2,rfl⟩
     cases hb:KH has.contains ks[i]with
     | true=>
       rw[hb,Bool.true_and]at hrec;simp only[XZ,simprocAttr,f5,hadd1];exact⟨ks.length-(i+1),by omega,(hL _ _ _).2 ⟨i+1,by omega,f0,f3,rfl,hg.trans g2,hrec⟩⟩
     | false=>
       rw[hb,Bool.false_and]at hrec;simp only[XZ,simprocAttr];exact out _ (by rw[hS,hrec]) _ (hg.trans g2)
    ·have hi':¬(i:Int)<ks.length:=by omega
     rw[List.drop_eq_nil_of_le (by omega)]at hrec;simp only[XZ,simprocAttr,f3,f5,r0,l2,hi'];exact out _ (by rw[hS,hrec];rfl) _ hg
   rw[if_neg k7]at hS;by_cases k8:k=8
   ·rw[if_pos k8,JbT]at hS;rw[Jb];simp only[XY,simprocAttr,k7];rw[Jb];simp only[XY,simprocAttr,k8];rw[Je,Jb];simp only[XY,simprocAttr];obtain⟨L,hL⟩:=loE fun j fr S'=>∃(i:Nat),j+i=ks.length/\fr 0=lv/\fr 3= .ptr (up 0 n0) 0/\fr 6= .int .i64 i/\Gr S S'/\(ks.any fun t=>KH has.contains t)=((ks.drop i).any fun t=>KH has.contains t);refine Jn L ks.length (by omega) ((hL _ _ _).2 ⟨0,by omega,f0,f3,by simp only[XZ,simprocAttr]<;>rfl,Gr.refl g0.wf,rfl⟩) ?_;clear f0 f3;intro j fr S' hLj;obtain⟨i,hj,f0,f3,f6,hg,hrec⟩:=(hL _ _ _).1 hLj;have r0:=hg.cells r0;by_cases hi:i<ks.length
    ·have hi':(i:Int)<ks.length:=by omega
     have hadd1:IntKind.i64.wrap ((i:Int)+1)=((i+1:Nat):Int):=by rw[Jo (by omega) (by omega)];rfl
     obtain⟨q,o,E,a1,a2,a3⟩:=kid hi hg;rw[List.drop_eq_getElem_cons hi,List.any_cons]at hrec;simp only[XZ,simprocAttr,f0,f3,f6,r0,l2,hi',a1,a2];refine Jd a3 ?_;rintro _ S2 ⟨g2,rfl⟩
     cases hb:KH has.contains ks[i]with
     | false=>
       rw[hb,Bool.false_or]at hrec;simp only[XZ,simprocAttr,f6,hadd1];exact⟨ks.length-(i+1),by omega,(hL _ _ _).2 ⟨i+1,by omega,f0,f3,rfl,hg.trans g2,hrec⟩⟩
     | true=>
       rw[hb,Bool.true_or]at hrec;simp only[XZ,simprocAttr];exact out _ (by rw[hS,hrec]) _ (hg.trans g2)
    ·have hi':¬(i:Int)<ks.length:=by omega
     rw[List.drop_eq_nil_of_le (by omega)]at hrec;simp only[XZ,simprocAttr,f3,f6,r0,l2,hi'];exact out _ (by rw[hS,hrec];rfl) _ hg
   rw[if_neg k8]at hS;by_cases k9:k=9
   ·rw[if_pos k9]at hS;simp only[XZ,simprocAttr,k7,k8,k9,f0,f3,r0];refine Jd (rinC (P:=Q) nm g0.wf (hlv.gr g0) hlh) ?_;rintro _ _ ⟨rfl,rfl⟩;simp only[XZ,simprocAttr];exact out _ hS _ (Gr.refl g0.wf)
   ·rw[if_neg k9]at hS;simp only[XZ,simprocAttr,k7,k8,k9];exact out _ hS _ (Gr.refl g0.wf)
def rndR (l:List (Str×Ty))(has:List Str):List Str:=(l.filter fun p=>KH has.contains p.2).map Prod.fst
theorem JiZ (l:List (Str×Ty))(has:List Str):(rndR l has).length<=l.length:=by
 unfold rndR;rw[List.length_map];exact List.length_filter_le _ _
theorem JoB {P:Pt->Prop}{st:St}{E:List V}{s:Sch}(hw:WF st)(h:SchC P st E s)(hl:s.types.length<=100)(hcnt:kN (s.types.map Prod.snd)<1000000):
  Does (tabT tabD) 62 [.agg E] st fun v S=>Gr st S/\SlAt (fun r=>st.row r= .none) S v 1 (strs (finR s.types (s.types.length+1) [])):=by
 refine Ju tabM (aT Tryz.func62 rfl) rfl hw fun K fin=> ?_;obtain⟨n0,hn0⟩:=nxE st;obtain⟨c,tv,sv,rfl,h1,h2,h3⟩:=h;obtain⟨l,hll⟩:∃l,l=s.types:=⟨_,rfl⟩
 rw[<-hll]at h2 hl hcnt fin;obtain⟨nv0,kv0,es0,rfl,x1,x2,x3,x4⟩:=h1.inv;have l1:=h2.len;have cs1:=x1.cells;have cs2:=x1.sc;have cs3:=x2.cells;have cs4:=x2.sc;have cv1:=h2.sc;have cv2:=h3.sc;simp only[CT,Tryz.f62,XY,simprocAttr];rw[Jb];simp only[XY,simprocAttr,hn0,cs1,cs2,cs3,cs4,cv1.1,cv1.2,cv2.1,cv2.2];obtain⟨S0,hS0⟩:=exE (st.new fun t=> .cells t [.int .i64 s.main.kind,ofL s.main.name,nv0,kv0,tv,sv]);have g0:Gr st S0:=by rw[hS0];exact Gr.new hw (Ja _)
 obtain⟨t0,r0⟩:∃t,S0.row (up 0 n0)= .cells t [.int .i64 s.main.kind,ofL s.main.name,nv0,kv0,tv,sv]:=⟨_,by rw[hS0];simp only[XZ,simprocAttr,hn0];rfl⟩
 rw[<-hS0];clear hS0;rw[Jb];simp only[XY,simprocAttr];have kst:∀{S:St},Gr S0 S->∀r,st.row r≠ .none->S.row r=st.row r:=fun g r e=>by rw[g.same r (by rw[g0.same r e];exact e),g0.same r e]
 have kty:∀{S:St} {e t},Gr S0 S->TyC P st e t->TyC P S e t:=fun g h=>h.imp fun r p e=>⟨p,kst g r e⟩
 rw[Je,Jb];simp only[XY,simprocAttr];obtain⟨I,hI⟩:=loE fun j fr S=>∃(k:Nat) (lv:V) (has:List Str),j+k=l.length+1/\fr 1= .ptr (up 0 n0) 0/\fr 3=lv/\fr 4= .int .i64 k/\Gr S0 S/\SlF S0 S lv 1 (strs has)/\has.length<=l.length/\finR l (l.length+1) []=finR l (l.length+1-k) has;refine Jn I (l.length+1) (by omega) ((hI _ _ _).2 ⟨0, .snil,[],by omega,rfl,rfl,by simp only[XZ,simprocAttr]<;>rfl,Gr.refl g0.wf,SlF.nil _ _ _,Nat.zero_le _,rfl⟩) ?_;intro j fr S hIj;obtain⟨k,lv,has,hj,f1,f3,f4,hg,hlv,hhl,hrec⟩:=(hI _ _ _).1 hIj;have rS:=hg.cells r0;by_cases hk:k<=l.length
 ·have hk':(k:Int)<=l.length:=by omega
  have haddk:IntKind.i64.wrap ((k:Int)+1)=((k+1:Nat):Int):=by rw[Jo (by omega) (by omega)];rfl
  rw[show l.length+1-k=(l.length+1-(k+1))+1 by omega,Jau]at hrec;rw[Je,Jb];simp only[XY,simprocAttr,f1,f4,rS,l1,hk'];rw[Je];simp only[XY,simprocAttr];rw[Jb];simp only[XY,simprocAttr];obtain⟨J,hJ⟩:=opE fun fr S'=>(∃nv,fr 1= .ptr (up 0 n0) 0/\fr 4= .int .i64 k/\fr 5=nv/\Gr S0 S'/\SlF S0 S' nv 1 (strs (rndR l has)))
  refine JM J ?_ ?_
  ·rw[Jb];simp only[XY,simprocAttr];obtain⟨L,hL⟩:=loE fun j fr S'=>∃(i:Nat) (nv:V),j+i=l.length/\fr 1= .ptr (up 0 n0) 0/\fr 3=lv/\fr 4= .int .i64 k/\fr 5=nv/\fr 6= .int .i64 i/\Gr S0 S'/\SlF S0 S' lv 1 (strs has)/\SlF S0 S' nv 1 (strs (rndR (l.take i) has))/\(∀r,rowOf nv=some r->rowOf lv≠some r);refine Jn L l.length (by omega) ((hL _ _ _).2 ⟨0, .snil,by omega,f1,f3,f4,rfl,by simp only[XZ,simprocAttr]<;>rfl,hg,hlv,SlF.nil _ _ _,fun r h=>by cases h⟩) ?_;clear f1 f3 f4 rS hg hlv;intro j2 fr S' hLj;obtain⟨i,nw,hj2,f1,f3,f4,f5,f6,hg,hlv,hnw,hap⟩:=(hL _ _ _).1 hLj;have rS:=hg.cells r0;by_cases hi:i<l.length
   ·have hi':(i:Int)<l.length:=by omega
    have hadd1:IntKind.i64.wrap ((i:Int)+1)=((i+1:Nat):Int):=by rw[Jo (by omega) (by omega)];rfl
    obtain⟨r,q,nv1,kv1,a1,a3,a4,hty,d1,d2,d3,d4⟩:=JcW h2 (kst hg) hi;have a6:=qT (a:=1) (b:=4) a4;have a6:ldn (S'.row r) (q+1) 4=some (.agg [.int .i64 l[i].2.kind,ofL l[i].2.name,nv1,kv1], .no):=a6;have hc1:=jf (ks:=l.map Prod.snd) (i:=i) (by simpa using hi);rw[List.getElem_map]at hc1;have htk:rndR (l.take (i+1)) has=if KH has.contains l[i].2=true then rndR (l.take i) has++[l[i].1]else rndR (l.take i) has:=by
     unfold rndR;rw[List.take_succ_eq_append_getElem hi,List.filter_append,List.map_append];by_cases e:KH has.contains l[i].2=true
     ·rw[if_pos e];simp[List.filter,e]
     ·rw[if_neg e];simp[List.filter,e]
    simp only[XZ,simprocAttr,f1,f3,f6,rS,l1,hi',a1,a6];refine Jd (JoA _ l[i].2 (Nat.lt_succ_self _) P _ S' lv has _ hg.wf hlv.at (by omega) (kty hg hty) (by omega)) ?_;rintro _ S2 ⟨g2,rfl⟩;have G2:=hg.trans g2;have r2:=G2.cells r0
    cases hb:KH has.contains l[i].2 with
    | false=>
      rw[if_neg (by rw[hb];simp)]at htk;simp only[XZ,simprocAttr,f6,hadd1];exact⟨l.length-(i+1),by omega,(hL _ _ _).2 ⟨i+1,nw,by omega,f1,f3,f4,f5,rfl,G2,hlv.gr g2,by rw[htk];exact hnw.gr g2,hap⟩⟩
    | true=>
      rw[if_pos hb]at htk;obtain⟨r',q',nv2,kv2,b1,b3,b4,_⟩:=JcW h2 (kst G2) hi;have b5:=Jaw b4 (j:=0) (by decide) rfl;have b5:ld1 (S2.row r') q'=some (ofL l[i].1, .no):=b5;have w2:=g2.wf;obtain⟨n2,hn2⟩:=nxE S2;simp only[XZ,simprocAttr,f1,f5,f6,r2,b1,b5,hn2];have gn:Gr S2 (S2.new fun t=> .cells t [ofL l[i].1]):=Gr.new w2 (Ja _);have hone:SlAt (fun r=>r=up 0 n2) (S2.new fun t=> .cells t [ofL l[i].1]) (.slx (up 0 n2) 0 1 1 1) 1 [[ofL l[i].1]]:=by
       have:=Qd (st:=S2) (z:=1) (e:=[ofL l[i].1]) rfl
       rwa [hn2]at this
      have hrl:=JiZ (l.take i) has;rw[List.length_take]at hrl;refine jh (S0:=S0) (G2.trans gn) ((hnw.gr g2).gr gn) hone (fun e he=>by rw[List.mem_singleton.1 he];rfl) (by simp) (by rw[JW];simp;omega) ?_;intro S3 v3 g3 h3 rv kp;have hlv2:=(hlv.gr g2).gr gn;have hlv3:SlF S0 S3 lv 1 (strs has):=hlv2.keep fun r hr=>kp r (by obtain⟨_,t,e⟩:=hlv2.row hr;rw[e];exact fun e=>by cases e) (fun e=>hap r e hr);simp only[XZ,simprocAttr,f6,hadd1];refine⟨l.length-(i+1),by omega,(hL _ _ _).2 ⟨i+1,v3,by omega,f1,f3,f4,rfl,rfl,g3,hlv3, ?_, ?_⟩⟩
      ·rw[htk];have:strs (rndR (l.take i) has++[l[i].1])=strs (rndR (l.take i) has)++[[ofL l[i].1]]:=by unfold strs;simp
       rw[this];exact h3
      ·intro r hr e;rcases rv with rv|rv
       ·exact hap r (by rw[<-rv];exact hr) e
       ·rw[rv]at hr;injection hr with hr;obtain⟨_,t,e2⟩:=hlv2.row e;rw[<-hr]at e2;have:=Kj gn.wf;rw[e2]at this;cases this
   ·have hi':¬(i:Int)<l.length:=by omega
    rw[List.take_of_length_le (by omega)]at hnw;simp only[XZ,simprocAttr,f1,f6,rS,l1,hi'];exact(hJ _ _).2 ⟨nw,f1,f4,f5,hg,hnw⟩
  clear f1 f3 f4;intro fr S' hJf;obtain⟨nw,f1,f4,f5,hg',hnw⟩:=(hJ _ _).1 hJf;simp only[XZ,simprocAttr,f4,f5,haddk];exact⟨l.length+1-(k+1),by omega,(hI _ _ _).2 ⟨k+1,nw,rndR l has,by omega,f1,rfl,rfl,hg',hnw,JiZ l has,hrec⟩⟩
 ·have hk':¬(k:Int)<=l.length:=by omega
  rw[show l.length+1-k=0 by omega]at hrec;have hrec:finR l (l.length+1) []=has:=hrec;simp only[XZ,simprocAttr,f1,f3,f4,rS,l1,hk'];refine fin _ _ (kst hg) fun _=> ?_;rw[hrec];exact hlv.at.imp fun r p _=>⟨Ch.fresh (Ch.of (fun _=>False) g0) p,rfl⟩
end Go.Proofs.YtgmmjcgkklgeeaaGreat
