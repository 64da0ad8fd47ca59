/- The document's Add. The document's table of a schema of one type. The tables of a chain -/
import Derived.Test.YtcgiahehkobpcaaGreatQ2
set_option maxHeartbeats 8000000
set_option linter.unusedVariables false
set_option linter.unusedSimpArgs false
set_option linter.unusedSectionVars false
set_option maxRecDepth 100000
namespace Go.Proofs.YtcgiahehkobpcaaGreat
open Eva Go.RowKit
theorem raddC (mm:Nat):∀(X:Ty),tsz X<mm->∀{Sb st:St} {ru:Pt} {lv tv:V} {rest:List V} {O:Pt->Prop} {tb:Tb} {trees:List Ty} {e:List V} {left:Int},RT Sb st ru lv tv rest O tb.nodes trees->TreesOf tb.nodes trees->TyC (fun r=>Sb.row r≠ .none) st e X->(addT X left tb).2.2.1=0->(∃r0 r1 r2 r3 r4 r5 r6 r7 r8,rest=[r0,r1,r2,r3,r4,r5,r6,r7,r8])->
  Does (tabT tabD) qi [.ptr ru 0, .agg e] st fun v S=>∃lv' tv' O' trees',RT Sb S ru lv' tv' rest O' (addT X left tb).1.nodes trees'/\TreesOf (addT X left tb).1.nodes trees'/\Kp (Bt ru lv tv O) (Bt ru lv' tv' O') st S/\v= .tup [.int .i64 ((addT X left tb).2.1:Nat), .int .i64 0]:=by
 induction mm with
 |zero=>intro X h;exact absurd h (Nat.not_lt_zero _)
 |succ mm ih=>
 intro X hX Sb st ru lv tv rest O tb trees e left hR hI hx he hrest;obtain⟨k,n,ns,ks⟩:=X;obtain⟨hk8,hn8,hes,hel,ha1,ha2⟩:=JqM he;have hfit:=JeR _ he;obtain⟨_,_,hfk⟩:=Jhv hfit;refine JA j7 rfl ?_;have hw:=hR.g.wf;obtain⟨n0,hn0⟩:=nxE st;obtain⟨nv,kv,es,rfl,x1,x2,x3,x4⟩:=hx.inv';have c1:=x1.cells;have c2:=x1.sc;have c3:=x2.cells;have c4:=x2.sc;have len2:=x2.len;rw[x3]at len2;obtain⟨p3,hp3⟩:=exE (up 0 n0);simp only[Kl,XY,simprocAttr];rw[Jb];simp only[XY,simprocAttr,hn0,c1,c2,c3,c4];rw[<-hp3];obtain⟨S0,hS0⟩:=exE (st.new fun t=> .cells t [.int .i64 k,ofL n,nv,kv]);have G0:Gr st S0:=by rw[hS0];exact Gr.new hw (Ja _)
 obtain⟨t3,r3⟩:∃t,S0.row p3= .cells t [.int .i64 k,ofL n,nv,kv]:=⟨_,by rw[hS0,hp3];simp only[XZ,simprocAttr,hn0];rfl⟩
 have p3n:st.row p3= .none:=by rw[hp3];exact nx0 hw hn0 0
 rw[<-hS0];clear hS0;have w0:=G0.wf;obtain⟨n1,hn1⟩:=nxE S0;have o3:=fun k=>nes (JE w0 hn1 (Jd r3) k);rw[Jb];simp only[XY,simprocAttr,r3,hn1,o3];obtain⟨x0,hx0⟩:=exE (up 0 n1);obtain⟨S1,hS1⟩:=exE (S0.new fun t=>Row.cells t []);have G1:Gr S0 S1:=by rw[hS1];exact Gr.new w0 (Ja _)
 obtain⟨t1,r1⟩:∃t,S1.row x0= .cells t []:=⟨_,by rw[hS1,hx0];simp only[XZ,simprocAttr,hn1];rfl⟩
 have x0n:S0.row x0= .none:=by rw[hx0];exact nx0 w0 hn1 0
 rw[<-hS1,<-hx0];clear hS1;have hn3:p3≠x0:=fun e=>by rw[<-e,r3]at x0n;cases x0n
 have stD:∀r,S0.row r= .none->st.row r= .none:=fun r e=>Ch.fresh (Ch.of (fun _=>False) G0) e;have SbD:∀r,st.row r= .none->Sb.row r= .none:=fun r e=>Ch.fresh (Ch.of (fun _=>False) hR.g) e;have sl0:SlF st S1 (.slx x0 0 0 1 0) 1 []:=⟨by simp, .inr ⟨x0,t1,stD _ x0n,by rw[r1];rfl, .inr rfl⟩⟩
 have G01:=G0.trans G1;refine JdD (S0:=st) G01 sl0 (x1.gr G01) (JbI _) (by rw[QW];omega) (by rw[QW];simp;omega) fun Sa v1 ga hSl hrow hkeep=> ?_;simp only[List.nil_append]at hSl;have r3a:Sa.row p3= .cells t3 [.int .i64 k,ofL n,nv,kv]:=(hkeep p3 (Jd (G1.cells r3)) fun e=>hn3 (by injection e with e;exact e.symm)).trans (G1.cells r3);have v1a:=hSl.at.sc;have v1b:=hSl.at.cells;obtain⟨nA,hnA⟩:=nxE Sa;simp only[XY,simprocAttr,hnA,v1a,v1b];obtain⟨p6,hp6⟩:=exE (up 0 nA);obtain⟨S2,hS2⟩:=exE ((Sa.new fun t=> .cells t [.int .i64 0,ofL [], .snil, .snil]).wr (up 0 nA) Sa.t fun u=> .cells u [.int .i64 k,ofL n,v1, .snil]);have G2:Gr Sa S2:=by rw[hS2];exact(Gr.refl ga.wf).nw hnA (Ja _) (Ja _)
 obtain⟨t6,r6⟩:∃t,S2.row p6= .cells t [.int .i64 k,ofL n,v1, .snil]:=⟨_,by rw[hS2,hp6];simp only[XZ,simprocAttr,hnA];rfl⟩
 have p6n:Sa.row p6= .none:=by rw[hp6];exact nx0 ga.wf hnA 0
 rw[<-hS2,<-hp6];clear hS2;refine⟨jD (QU (v:= .slx x0 0 0 1 0) (w:= .ptr p3 0) (q:=p3) ?_ ?_ rfl fun e=>hn3 (by injection e with e;exact e.symm)) (QU (v:= .slx x0 0 0 1 0) (w:= .ptr p3 1) (q:=p3) ?_ ?_ rfl fun e=>hn3 (by injection e with e;exact e.symm)), ?_⟩
 ·simp only[XZ,simprocAttr]
 ·simp only[XZ,simprocAttr]
 ·simp only[XZ,simprocAttr]
 ·simp only[XZ,simprocAttr]
 have G02:Gr st S2:=ga.trans G2;have p6s:st.row p6= .none:=Ch.fresh (Ch.of (fun _=>False) ga) p6n;have v1al:∀r,rowOf v1=some r->Sa.row r≠ .none:=fun r e=>hSl.some e;have v13:∀r,rowOf v1=some r->r≠p3/\r≠p6:=fun r e=>⟨fun x=>(by
  subst x;rcases hrow with h|h
  ·rw[h]at e;injection e with e;exact hn3 e.symm
  ·rw[h]at e;injection e with e;have:=Q3 G1.wf;rw[e,G1.cells r3]at this;cases this),fun x=>v1al r e (by rw[x];exact p6n)⟩
 have n36:p3≠p6:=fun x=>by rw[<-x,r3a]at p6n;cases p6n
 have ow:∀r,st.row r= .none->S2.row r≠ .none->S2.row r≠ .none/\¬Bt ru lv tv O r:=fun r e a=>⟨a,fun x=>hR.alive r x e⟩
 have r32:=G2.cells r3a;have M0:Mid5 Sb st S2 ru p3 p6 lv tv lv tv rest O O tb.nodes trees [.int .i64 k,ofL n,nv,kv] [.int .i64 k,ofL n] v1 .snil ns []:=
  {rt:=hR.gr G02,kp:=Kp.gr G02,r3:=⟨_,r32⟩,r6:=⟨_,r6⟩,nm:=(hSl.gr G2).early SbD,kd:=SlF.nil _ _ _,fs:=fun r e=>e.elim (fun e=> .inr (hSl.row e).1) (fun e=>nomatch e),apk:=fun r e=>(nomatch e),ap1:=v13,ap6:=n36,f3:=p3n,f6:=p6s,
   own:=fun r e=>by
    rcases e with rfl|rfl|e|e
    ·exact ow _ p3n (Jd r32)
    ·exact ow _ p6s (Jd r6)
    ·exact ow _ (hSl.row e).1 ((hSl.gr G2).some e)
    ·cases e}
 obtain⟨q0,q1,q2,q3,q4,q5,q6,q7,q8,rfl⟩:=hrest;clear hrow hkeep sl0 G01 r1 x0n hn3 o3 hn1 hn0 hnA v1a v1b ow r32 v1al r6 r3a t6 t1;have kx:∀{S:St} {lv' tv' rest' O' nd tr},RT Sb S ru lv' tv' rest' O' nd tr->∀{E:List V} {T:Ty},TyC (fun r=>Sb.row r≠ .none) st E T->TyC (fun r=>Sb.row r≠ .none) S E T:=fun{_ _ _ _ _ _ _} R {_ _} h=>TyC.imp h fun q p _=>⟨p,by rw[R.g.same q p,hR.g.same q p]⟩
 obtain⟨F,hF⟩:∃F:Fr->St->Prop,∀fr S,F fr S<->∃(lv' tv' kv':V) (O':Pt->Prop) (tr:List Ty),fr 0= .ptr ru 0/\fr 3= .ptr p3 0/\fr 6= .ptr p6 0/\
   Mid5 Sb st S ru p3 p6 lv tv lv' tv' [q0,q1,q2,q3,q4,q5,q6,q7,q8] O O' (addTs ks (left-1) tb).1.nodes tr [.int .i64 k,ofL n,nv,kv] [.int .i64 k,ofL n] v1 kv' ns (addTs ks (left-1) tb).2.1/\TreesOf (addTs ks (left-1) tb).1.nodes tr:=⟨_,fun _ _=>Iff.rfl⟩
 refine Qc F ?_ ?_
 ·rw[Jb];simp only[XY,simprocAttr];obtain⟨L,hL⟩:∃L:Nat->Fr->St->Prop,∀j fr S,L j fr S<->∃(i:Nat) (lv' tv' kv':V) (O':Pt->Prop) (tr:List Ty) (tbi:Tb) (li:Int) (ids:List Nat),j+i=ks.length/\fr 0= .ptr ru 0/\fr 3= .ptr p3 0/\fr 6= .ptr p6 0/\fr 7= .int .i64 i/\
   Mid5 Sb st S ru p3 p6 lv tv lv' tv' [q0,q1,q2,q3,q4,q5,q6,q7,q8] O O' tbi.nodes tr [.int .i64 k,ofL n,nv,kv] [.int .i64 k,ofL n] v1 kv' ns ids/\TreesOf tbi.nodes tr/\
   (addTs (ks.drop i) li tbi).2.2.1=0/\(addTs ks (left-1) tb).1=(addTs (ks.drop i) li tbi).1/\(addTs ks (left-1) tb).2.1=ids++(addTs (ks.drop i) li tbi).2.1/\ids.length=i:=⟨_,fun _ _ _=>Iff.rfl⟩
  refine JK L ks.length (by omega) ((hL _ _ _).2 ⟨0,lv,tv, .snil,O,trees,tb,left-1,[],by omega,rfl,rfl,rfl,by simp only[XZ,simprocAttr]<;>rfl,M0,hI,hes,rfl,rfl,rfl⟩) ?_;intro j fr S hLj;obtain⟨i,lv',tv',kw,O',tr,tbi,li,ids,hj,f0,f3,f6,f7,M,T,e0,e1,e2,e3⟩:=(hL _ _ _).1 hLj;obtain⟨t3,m3⟩:=M.r3;obtain⟨t6,m6⟩:=M.r6;simp only[List.cons_append,List.nil_append]at m6;by_cases hi:i<ks.length
  ·have hi':(i:Int)<ks.length:=by omega
   have hadd1:IntKind.i64.wrap ((i:Int)+1)=((i+1:Nat):Int):=by rw[Jx (by omega) (by omega)];rfl
   have hx2:LstAt (TyC (fun r=>Sb.row r≠ .none) S) (fun r=>Sb.row r≠ .none) S kv 4 ks:=⟨es,x2.imp fun r p _=>⟨p,by rw[M.rt.g.same r p,hR.g.same r p]⟩,x3,fun i a b=>kx M.rt (x4 i a b)⟩
   obtain⟨q,qo,E,a1,a2,a3,a4,hE,e4,a5⟩:=hx2.elem hi;rw[List.drop_eq_getElem_cons hi]at e0 e1 e2;obtain⟨s1,s2,s3,s4⟩:=Jo5 e0;rw[s3]at e1;rw[s4]at e2;simp only[XZ,simprocAttr,f0,f3,f7,m3,len2,hi',a1,a4];refine Je (ih ks[i] (by have:=jf (k:=k) (n:=n) (ns:=ns) hi;omega) M.rt T hE s1 ⟨_,_,_,_,_,_,_,_,_,rfl⟩) ?_;rintro _ S3 ⟨lv2,tv2,O2,tr2,R2,T2,K2,rfl⟩;have M2:=M.call R2 K2;obtain⟨u6,m62⟩:=M2.r6;simp only[List.cons_append,List.nil_append]at m62;obtain⟨id,hid⟩:∃id,id=(addT ks[i] li tbi).2.1:=⟨_,rfl⟩
   rw[<-hid]at e2⊢;have w3:=R2.g.wf;obtain⟨n3,hn3⟩:=nxE S3;simp only[XZ,simprocAttr,f6,m62,hn3];have gn:Gr S3 (S3.new fun t=> .cells t [.int .i64 id]):=Gr.new w3 (Ja _);have hone:SlAt (fun r=>r=up 0 n3) (S3.new fun t=> .cells t [.int .i64 id]) (.slx (up 0 n3) 0 1 1 1) 1 [[.int .i64 id]]:=by
    have:=kP (st:=S3) (z:=1) (e:=[.int .i64 id]) rfl
    rwa [hn3]at this
   have M3:=M2.gr gn;refine Jab (S0:=Sb) M3.rt.g M3.kd hone (fun e he=>by rw[List.mem_singleton.1 he];rfl) (by simp) (by simp) (by rw[kj];simp;omega) ?_;intro S4 v4 g4 h4 rv4 kp4;have r64:S4.row p6= .cells u6 [.int .i64 k,ofL n,v1,kw]:=(kp4 p6 (Jd (gn.cells m62)) fun e=>(M3.apk _ e).2.1 rfl).trans (gn.cells m62);have hsc:=h4.at.sc;have hcl:=h4.at.cells;simp only[XZ,simprocAttr,f6,f7,r64,hsc,hcl,hadd1];refine⟨ks.length-(i+1),by omega,(hL _ _ _).2 ⟨i+1,lv2,tv2,v4,O2,tr2,(addT ks[i] li tbi).1,(addT ks[i] li tbi).2.2.2,ids++[id],by omega,f0,f3,f6,rfl, ?_,T2,s2,e1,by rw[e2];simp,by simp[e3]⟩⟩;refine M3.push (S1:=S4) (by unfold ints at h4⊢;simpa using h4) rv4 kp4 (fun r e=>by simp only[Jo,e,if_false]) ⟨_,by simp only[XZ,simprocAttr];rfl⟩ (g4.wr ?_ (Jd r64) (by rw[r64];rfl) (Ja _));exact SbD _ p6s
  ·have hi':¬(i:Int)<ks.length:=by omega
   rw[List.drop_eq_nil_of_le (by omega),Qw]at e1 e2;simp only[XZ,simprocAttr,f3,f7,m3,len2,hi'];refine(hF _ _).2 ⟨lv',tv',kw,O',tr,f0,f3,f6, ?_⟩;rw[e1,e2,List.append_nil];exact⟨M,T⟩
 clear M0 hI;intro fr S hFf;obtain⟨lv',tv',kw,O',tr,f0,f3,f6,M,T⟩:=(hF _ _).1 hFf;obtain⟨_,_,hlk,_⟩:=qF ks hes;generalize hA:addTs ks (left-1) tb=A at hes hel ha1 ha2 M T hlk;obtain⟨tbE,ids,eA,lA⟩:=A;simp only at hes hel ha1 ha2 M T hlk;clear hF hFf F hes hA;rw[ha1,ha2];clear ha1 ha2 he;have hlay:layS tbE ⟨k,n,ns,ids⟩=match idx ⟨k,n,ns,ids⟩ tbE.nodes 0 with
  |some i=>(tbE,i,0)
  |none=>if 120<=tbE.nodes.length then(tbE,0,20)else({tbE with nodes:=tbE.nodes++[⟨k,n,ns,ids⟩]},tbE.nodes.length,0):=rfl
 have hidx:lookT tbE.nodes (.mk k n ns ks)=idx ⟨k,n,ns,ids⟩ tbE.nodes 0:=by rw[lookT,hlk]
 obtain⟨t3,m3⟩:=M.r3;obtain⟨t6,m6⟩:=M.r6;simp only[List.cons_append,List.nil_append]at m6;obtain⟨tc,rc⟩:=M.rt.cell;obtain⟨es1,l1,l2,l3⟩:=M.rt.l;obtain⟨ts1,u1,u2,u3⟩:=M.rt.t;have ll:=l1.at.len;have lt:=u1.at.len;have hXS:=kx M.rt hx;obtain⟨F,hF⟩:=opE fun fr S'=>fr 0= .ptr ru 0/\fr 3= .ptr p3 0/\fr 6= .ptr p6 0/\Gr S S'/\idx ⟨k,n,ns,ids⟩ tbE.nodes 0=none;refine Qc F ?_ ?_
 ·rw[Jb];simp only[XY,simprocAttr];obtain⟨L,hL⟩:=loE fun j fr S'=>∃(i:Nat),j+i=tr.length/\fr 0= .ptr ru 0/\fr 3= .ptr p3 0/\fr 6= .ptr p6 0/\fr 10= .int .i64 i/\Gr S S'/\∀q (a:q<tr.length),q<i->tr[q]≠ .mk k n ns ks;have trl:tr.length<1000000:=by
   have:=T.len;have:=T.few;omega
  refine JK L tr.length (by omega) ((hL _ _ _).2 ⟨0,by omega,f0,f3,f6,by simp only[XZ,simprocAttr]<;>rfl,Gr.refl M.rt.g.wf,fun q _ h=>absurd h (Nat.not_lt_zero _)⟩) ?_;clear f0 f3 f6;intro j fr S' hLj;obtain⟨i,hj,f0,f3,f6,f10,g,hne⟩:=(hL _ _ _).1 hLj;have rc':=g.cells rc;have m3':=g.cells m3;by_cases hi:i<tr.length
  ·have hi':(i:Int)<ts1.length:=by omega
   have hadd1:IntKind.i64.wrap ((i:Int)+1)=((i+1:Nat):Int):=by rw[Jx (by omega) (by omega)];rfl
   have hl2:LstAt (TyC (fun r=>Sb.row r≠ .none) S') (fun r=>Sb.row r= .none) S' tv' 4 tr:=⟨ts1,(u1.gr g).at,u2,fun i a b=>(u3 i a b).gr g⟩
   obtain⟨q,qo,E,a1,a2,a3,a4,hE,e4,a5⟩:=hl2.elem hi;simp only[XZ,simprocAttr,f0,f3,f10,rc',m3',lt,hi',a1,a4];have ft:=T.fit _ (List.getElem_mem hi);refine JF (sameD _ tr[i] (.mk k n ns ks) (Nat.lt_succ_self _) ft hfit (KN g.wf _) (hE.low _) ((hXS.gr g).low _)) ?_;rintro _ S2 g2 ⟨b,rfl,hb⟩
   cases b with
   | true=>
     have e:=hb.1 rfl;rw[T.at hi,hidx]at e;have e2:layS tbE ⟨k,n,ns,ids⟩=(tbE,i,0):=by rw[hlay,e]
     simp only[XZ,simprocAttr,f10];rw[e2];exact⟨lv',tv',O',tr,M.rt.gr (g.trans g2),T,M.kp.trans (Kp.gr (g.trans g2)),rfl⟩
   | false=>
     simp only[XZ,simprocAttr,f10,hadd1];exact⟨tr.length-(i+1),by omega,(hL _ _ _).2 ⟨i+1,by omega,f0,f3,f6,rfl,g.trans g2,fun q a h=>by
      by_cases x:q=i
      ·subst x;exact fun e=>(by cases hb.2 e)
      ·exact hne q a (by omega)⟩⟩
  ·have hi':¬(i:Int)<ts1.length:=by omega
   simp only[XZ,simprocAttr,f0,f10,rc',lt,hi'];refine(hF _ _).2 ⟨f0,f3,f6,g, ?_⟩
   cases e:idx ⟨k,n,ns,ids⟩ tbE.nodes 0 with
   |none=>rfl
   | some q=>
     obtain⟨_,b⟩:=JdH e;have hq:q<tr.length:=by
      rw[T.len];exact(List.getElem?_eq_some_iff.1 b).1
     exact absurd ((T.at hq).2 (hidx.trans e)) (hne q hq (by omega))
 clear f0 f3 f6;intro fr S' hFf;obtain⟨f0,f3,f6,g,hno⟩:=(hF _ _).1 hFf;obtain⟨h120,hl2⟩:tbE.nodes.length<120/\layS tbE ⟨k,n,ns,ids⟩=({tbE with nodes:=tbE.nodes++[⟨k,n,ns,ids⟩]},tbE.nodes.length,0):=by
  rw[hno]at hlay;by_cases c:120<=tbE.nodes.length
  ·rw[if_pos c]at hlay;rw[hlay]at hel;cases hel
  ·rw[if_neg c]at hlay;exact⟨by omega,hlay⟩
 rw[hl2];have M:=M.gr g;have rc:=g.cells rc;have m3:=g.cells m3;have m6:=g.cells m6;have l1:=l1.gr g;have u1:=u1.gr g;have hXS:=hXS.gr g;have l3:∀i (a:i<es1.length) (b:i<tbE.nodes.length),NdC O' S' es1[i] tbE.nodes[i]:=fun i a b=>(l3 i a b).gr g;have u3:∀i (a:i<ts1.length) (b:i<tr.length),TyC (fun r=>Sb.row r≠ .none) S' ts1[i] tr[i]:=fun i a b=>(u3 i a b).gr g;have n120:¬(120:Int)<=es1.length:=by omega
 have s1:=M.nm.at.sc;have s2:=M.kd.at.sc;have s3:=M.nm.at.cells;have s4:=M.kd.at.cells;rw[Jl,Jb];simp only[XY,simprocAttr,f0,rc,ll,n120];obtain⟨nS,hnS⟩:=nxE S';rw[Jb];simp only[XY,simprocAttr,f0,f6,rc,m6,hnS,s1,s2,s3,s4];obtain⟨A5,hA5⟩:=exE (S'.new fun t=> .cells t [.int .i64 k,ofL n,v1,kw]);have ga5:Gr S' A5:=by rw[hA5];exact Gr.new M.rt.g.wf (Ja _)
 have hone:SlAt (fun r=>r=up 0 nS) A5 (.slx (up 0 nS) 0 1 4 1) 4 [[.int .i64 k,ofL n,v1,kw]]:=by
  have:=kP (st:=S') (z:=4) (e:=[.int .i64 k,ofL n,v1,kw]) rfl
  rwa [hnS,<-hA5]at this
 rw[<-hA5];clear hA5 hnS;have hal:=M.rt.alive;have al5:=fun r (e:S'.row r≠ .none)=>(ga5.same r e▸e:A5.row r≠ .none)
 have sc4:okC [[V.int .i64 k,ofL n,v1,kw]]:=fun e he=>by rw[List.mem_singleton.1 he];simp only[allSc,List.all_cons,List.all_nil,s1,s2];rfl
 refine Js8 (JqN (R:=fun v' S=>Gr Sb S/\SlF Sb S v' 4 (es1++[[.int .i64 k,ofL n,v1,kw]])/\rowOf v'=some A5.nx/\∀p,A5.row p≠ .none->rowOf lv'≠some p->S.row p=A5.row p) ga5.wf (Jab (S0:=Sb) (M.rt.g.trans ga5) (l1.gr ga5) hone sc4 (by simp) (by simp) (by simp;omega) fun S' v' a b c d=>⟨a,b,c,d⟩)) ?_;rintro v5 A6 ⟨⟨g6,h5,rv5,kp5⟩,lv6⟩;have rc6:A6.row ru= .cells tc [lv',tv',q0,q1,q2,q3,q4,q5,q6,q7,q8]:=(kp5 ru (al5 _ (Jd rc)) fun e=>(M.rt.apl ru e).2 rfl).trans (ga5.cells rc);have s5:=h5.at.sc;have s6:=h5.at.cells;have ll5:=h5.at.len;simp only[XY,simprocAttr,f0,rc6,s5,s6];obtain⟨A7,hA7⟩:=exE (A6.wr ru tc fun u=> .cells u [v5,tv',q0,q1,q2,q3,q4,q5,q6,q7,q8]);have g7:Gr Sb A7:=by rw[hA7];exact g6.wr M.rt.ru0 (Jd rc6) (by rw[rc6];rfl) (Ja _)
 have rc7:∃t,A7.row ru= .cells t [v5,tv',q0,q1,q2,q3,q4,q5,q6,q7,q8]:=⟨_,by rw[hA7];simp only[XZ,simprocAttr];rfl⟩
 have kp7:∀r,r≠ru->A7.row r=A6.row r:=fun r e=>by rw[hA7];simp only[Jo,e,if_false]
 rw[<-hA7];clear hA7;obtain⟨t7,rc7⟩:=rc7;have k57:∀r,S'.row r≠ .none->r≠ru->rowOf lv'≠some r->A7.row r=S'.row r:=fun r e a b=>by rw[kp7 r a,kp5 r (al5 r e) b,ga5.same r e]
 have o3:=M.own p3 (.inl rfl);have m37:=(k57 p3 (Jd m3) (fun x=>o3.2 (.inl x)) fun x=>o3.2 (.inr (.inl x))).trans m3;have u17:SlF Sb A7 tv' 4 ts1:=u1.keep fun r e=>k57 r (u1.some e) (M.rt.apt r e) fun x=>(M.rt.apl r x).1 e;have d5:∀r,rowOf v5=some r->S'.row r= .none:=fun r e=>by
  rw[rv5]at e;injection e with e;exact Ch.fresh (Ch.of (fun _=>False) ga5) (e▸Q3 ga5.wf)
 have h57:SlF Sb A7 v5 4 (es1++[[.int .i64 k,ofL n,v1,kw]]):=h5.keep fun r e=>kp7 r fun x=>Jd rc (x▸d5 r e);obtain⟨nB,hnB⟩:=nxE A7;have lt7:=u17.at.len;rw[Jb];simp only[XY,simprocAttr,f0,f3,rc7,m37,lt7,hnB,c1,c2,c3,c4];obtain⟨A8,hA8⟩:=exE (A7.new fun t=> .cells t [.int .i64 0,ofL [], .snil, .snil]);have ga8:Gr A7 A8:=by rw[hA8];exact Gr.new g7.wf (Ja _)
 have hzer:SlAt (fun r=>r=up 0 nB) A8 (.slx (up 0 nB) 0 1 4 1) 4 [[.int .i64 0,ofL [], .snil, .snil]]:=by
  have:=kP (st:=A7) (z:=4) (e:=[.int .i64 0,ofL [], .snil, .snil]) rfl
  rwa [hnB,<-hA8]at this
 rw[<-hA8];clear hA8 hnB;have sc8:okC [[V.int .i64 0,ofL [], .snil, .snil]]:=fun e he=>by rw[List.mem_singleton.1 he];rfl
 refine Jab (S0:=Sb) (g7.trans ga8) (u17.gr ga8) hzer sc8 (by simp) (by simp) (by have:=T.few;have:=T.len;simp;omega) ?_;intro A9 v9 g9 h9 rv9 kp9;have tru:∀x,rowOf tv'=some x->x≠ru:=M.rt.apt;have rc9:A9.row ru= .cells t7 [v5,tv',q0,q1,q2,q3,q4,q5,q6,q7,q8]:=(kp9 ru (Jd (ga8.cells rc7)) fun e=>tru _ e rfl).trans (ga8.cells rc7);have s7:=h9.at.sc;have s8:=h9.at.cells;obtain⟨r9,t9,b1,b2,b3,b4,b5,b6⟩:=JqF h9 (k:=ts1.length) (by simp);have d9':A8.row r9= .none:=by
  rw[rv9]at b1;injection b1 with b1;exact b1▸Q3 ga8.wf
 have d9:A7.row r9= .none:=Ch.fresh (Ch.of (fun _=>False) ga8) d9';have hr9u:r9≠ru:=fun e=>by rw[e,rc7]at d9;cases d9
 have e9:∀r,rowOf v9=some r->S'.row r= .none:=fun r e=>by
  rw[b1]at e;injection e with e;refine Classical.byContradiction fun x=> ?_;have a:=lv6 r (al5 r x);by_cases y:r=ru
  ·exact hr9u (e.trans y)
  ·rw[<-kp7 r y,<-e]at a;exact a d9
 have hnes:=nes hr9u;simp only[XM,simprocAttr,f0,rc9,s7,s8,b4,b3,hnes];refine⟨⟨by rw[JC h9.1];simp;omega,by rw[c2,c4];rfl⟩,jD (QU (v:= .ptr r9 (ts1.length*4)) (w:= .ptr ru 1) (q:=ru) ?_ ?_ rfl fun e=>hr9u (by injection e)) (QU (v:= .ptr ru 1) (w:= .ptr r9 (ts1.length*4)) (q:=r9) ?_ ?_ rfl fun e=>hr9u (by injection e with e;exact e.symm)), ?_⟩
 ·simp only[XZ,simprocAttr]
 ·simp only[XZ,simprocAttr]
 ·simp only[XZ,simprocAttr]
 ·simp only[XZ,simprocAttr]
 have hsp:splice [v5,tv',q0,q1,q2,q3,q4,q5,q6,q7,q8] 1 [v9]=[v5,v9,q0,q1,q2,q3,q4,q5,q6,q7,q8]:=rfl;rw[hsp];obtain⟨Aa,hAa⟩:=exE (A9.wr r9 t9 fun u=> .cells u (splice (ts1++[[V.int .i64 0,ofL [],V.snil,V.snil]]).flatten (ts1.length*4) [V.int .i64 k,ofL n,nv,kv]));rw[<-hAa];have ga:Gr Sb Aa:=by rw[hAa];exact g9.wr b2 (Jd b3) (by rw[b3];rfl) (Ja _)
 have ra:∃t,Aa.row r9= .cells t (splice (ts1++[[V.int .i64 0,ofL [],V.snil,V.snil]]).flatten (ts1.length*4) [V.int .i64 k,ofL n,nv,kv]):=⟨_,by rw[hAa];simp only[XM,simprocAttr];rfl⟩
 have ka:∀r,r≠r9->Aa.row r=A9.row r:=fun r e=>by rw[hAa];simp only[Jo,e,if_false]
 clear hAa;have rca:Aa.row ru= .cells t7 [v5,tv',q0,q1,q2,q3,q4,q5,q6,q7,q8]:=(ka ru fun e=>hr9u e.symm).trans rc9;obtain⟨Ab,hAb⟩:=exE (Aa.wr ru t7 fun u=> .cells u [v5,v9,q0,q1,q2,q3,q4,q5,q6,q7,q8]);have hgb:Gr Sb Ab:=by rw[hAb];exact ga.wr M.rt.ru0 (Jd rca) (by rw[rca];rfl) (Ja _)
 have rb:∃t,Ab.row ru= .cells t [v5,v9,q0,q1,q2,q3,q4,q5,q6,q7,q8]:=⟨_,by rw[hAb];simp only[XZ,simprocAttr];rfl⟩
 have kb:∀r,r≠ru->Ab.row r=Aa.row r:=fun r e=>by rw[hAb];simp only[Jo,e,if_false]
 rw[<-hAb];clear hAb;have hlen:lenLV v5=some (.int .i64 ((tbE.nodes.length+1:Nat):Int), .no):=by rw[ll5,List.length_append,l2];rfl
 have hsub:IntKind.i64.wrap (((tbE.nodes.length+1:Nat):Int)-1)=(tbE.nodes.length:Int):=by rw[Jx (by omega) (by omega)];omega
 have kb':∀r,r≠ru->r≠r9->A7.row r≠ .none->rowOf tv'≠some r->Ab.row r=A7.row r:=fun r a b c d=>by
  have c8:=(ga8.same r c)
  rw[kb r a,ka r b,kp9 r (by rw[c8];exact c) d,c8]
 obtain⟨tb2,rb⟩:=rb;obtain⟨ta2,ra⟩:=ra;have fin:=M.done (n:=n) (k:=k) (S':=Ab) (X:= .mk k n ns ks) (E:=[.int .i64 k,ofL n,nv,kv]) hgb ⟨tb2,rb⟩ l2 l3
  (h57.keep fun r e=>kb' r (fun x=>Jd rc (x▸d5 r e)) (fun x=>h57.some e (x▸d9)) (h57.some e) fun x=>u1.some x (d5 r e)) u2 u3
  (by
   have:=b6 Ab ta2 0 [.int .i64 k,ofL n,nv,kv] (by simp) (by rw[kb r9 hr9u];exact ra);rw[List.set_append_right _ _ (Nat.le_refl _)]at this;simpa[Qx]using this) hXS d5 e9
  (fun r e x=>by
   rw[b1]at x;injection x with x;exact h57.some e (x▸d9))
  (fun p e a b c=>by rw[kb' p a (fun x=>by
   have:=e9 p (by rw[b1,x]);exact e this) (by rw[k57 p e a b];exact e) c,k57 p e a b])
 simp only[XZ,simprocAttr,hlen,hsub];exact⟨v5,v9,_,tr++[.mk k n ns ks],fin.1,T.snoc hlk hno hfit h120,fin.2⟩
theorem rnewC {st:St}{e1:List V}{z:Ty}(hw:WF st)(h:SchC (fun r=>st.row r≠ .none) st e1 ⟨z,[],[]⟩)(hc:refS ⟨z,[],[]⟩=0)(z1:(addT z 400 emptyTb).2.2.1=0):
  Does (tabT tabD) Jdk [.agg e1] st fun v S=>Gr st S/\∃ru,v= .tup [.ptr ru 0, .int .i64 0]:=by
 refine JW tabM JcE rfl hw fun K fin=> ?_;obtain⟨n0,hn0⟩:=nxE st;have hsch:=h;obtain⟨c,tv,sv,rfl,h1,h2,h3⟩:=h;obtain⟨nv,kv,es,rfl,x1,x2,x3,x4⟩:=h1.inv;have l1:=h2.nil_len;have l2:=h3.nil_len;have cs1:=x1.cells;have cs2:=x1.sc;have cs3:=x2.cells;have cs4:=x2.sc;have cv1:=h2.sc;have cv2:=h3.sc;obtain⟨p1,hp1⟩:=exE (up 0 n0);simp only[Qz,XY,simprocAttr];rw[Jb];simp only[XY,simprocAttr,hn0,cs1,cs2,cs3,cs4,cv1.1,cv1.2,cv2.1,cv2.2];rw[<-hp1];obtain⟨S0,hS0⟩:=exE (st.new fun t=> .cells t [.int .i64 z.kind,ofL z.name,nv,kv,tv,sv]);have g0:Gr st S0:=by rw[hS0];exact Gr.new hw (Ja _)
 obtain⟨t0,r0⟩:∃t,S0.row p1= .cells t [.int .i64 z.kind,ofL z.name,nv,kv,tv,sv]:=⟨_,by rw[hS0,hp1];simp only[XZ,simprocAttr,hn0];rfl⟩
 rw[<-hS0];clear hS0;have hs0:SchC (fun r=>st.row r≠ .none) S0 [.int .i64 z.kind,ofL z.name,nv,kv,tv,sv] ⟨z,[],[]⟩:=hsch.imp fun r p _=>⟨p,g0.same r p⟩
 rw[Jl,Jb];simp only[XY,simprocAttr,r0];refine Je (rcheckC g0.wf hs0) ?_;rintro _ S1 ⟨g1,rfl⟩;have r1:=g1.cells r0;simp only[XY,simprocAttr,hc];obtain⟨n1,hn1⟩:=nxE S1;have g01:=g0.trans g1;have w1:=g01.wf;obtain⟨ru,hru⟩:=exE (up 0 n1);rw[Jb];simp only[XY,simprocAttr,r1,hn1,cs2,cs4,cv1.1,cv2.1];rw[<-hru];obtain⟨S2,hS2⟩:=exE (S1.new fun t=> .cells t [.snil, .snil, .int .i64 z.kind,ofL z.name,nv,kv,tv,sv, .snil, .int .i64 0, .snil]);have g2:Gr S1 S2:=by rw[hS2];exact Gr.new w1 (Ja _)
 obtain⟨t2,r2⟩:∃t,S2.row ru= .cells t [.snil, .snil, .int .i64 z.kind,ofL z.name,nv,kv,tv,sv, .snil, .int .i64 0, .snil]:=⟨_,by rw[hS2,hru];simp only[XZ,simprocAttr,hn1];rfl⟩
 have run:S1.row ru= .none:=by rw[hru];exact nx0 w1 hn1 0
 rw[<-hS2];clear hS2;have R2:RT S1 S2 ru .snil .snil [.int .i64 z.kind,ofL z.name,nv,kv,tv,sv, .snil, .int .i64 0, .snil] (fun _=>False) emptyTb.nodes []:=⟨g2,run,⟨t2,r2⟩,⟨[],SlF.nil _ _ _,rfl,fun i h=>absurd h (Nat.not_lt_zero _)⟩,⟨[],SlF.nil _ _ _,rfl,fun i h=>absurd h (Nat.not_lt_zero _)⟩,fun r e=>(nomatch e),fun r e=>(nomatch e),fun r (e:False)=>e.elim⟩
 have kp1:∀{S:St},Gr S1 S->S.row p1= .cells t0 [.int .i64 z.kind,ofL z.name,nv,kv,tv,sv]:=fun g=>g.cells r1;have n0':¬(0:Int)<0:=by omega
 rw[Jl,Jb];simp only[XY,simprocAttr];refine QY (by omega) ?_;simp only[XZ,simprocAttr,kp1 R2.g,l1,n0'];have hxz:∀{S:St},Gr S1 S->TyC (fun r=>S1.row r≠ .none) S [.int .i64 z.kind,ofL z.name,nv,kv] z:=fun g=>TyC.imp h1 fun r p _=>by
  have e1:=g01.same r p;exact⟨by rw[e1];exact p,by rw[g.same r (by rw[e1];exact p),e1]⟩
 refine Je (raddC _ z (Nat.lt_succ_self _) R2 TreesOf.nil (hxz R2.g) z1 ⟨_,_,_,_,_,_,_,_,_,rfl⟩) ?_;rintro _ S3 ⟨lv3,tv3,O3,tr3,R3,T3,K3,rfl⟩;obtain⟨t3,r3⟩:=R3.cell;obtain⟨id0,hid0⟩:∃i,i=(addT z 400 emptyTb).2.1:=⟨_,rfl⟩
 rw[<-hid0];simp only[XY,simprocAttr];rw[Jl,Jb];simp only[XY,simprocAttr];rw[Jb];simp only[XY,simprocAttr,r3];obtain⟨S4,hS4⟩:=exE (S3.wr ru t3 fun u=> .cells u [lv3,tv3, .int .i64 z.kind,ofL z.name,nv,kv,tv,sv, .snil, .int .i64 (id0:Nat), .snil]);have g4:Gr S1 S4:=by rw[hS4];exact R3.g.wr run (Jd r3) (by rw[r3];rfl) (Ja _)
 rw[<-hS4];clear hS4;rw[Jl,Jb];simp only[XY,simprocAttr];refine QY (by omega) ?_;simp only[XZ,simprocAttr,kp1 g4,l2,n0'];exact fin _ _ (fun r e=>by rw[g4.same r (by rw[g01.same r e];exact e),g01.same r e]) fun _=>⟨ru,rfl⟩
theorem Jpc (st:St)(fr:Fr)(a b i n:Nat)(Q:V->St->Prop):resP st fr [.s a, .s b, .cn i n] Q=wW (loadnV st n (fr i)) st fun v st=>Q (.tup [fr a,fr b,v]) st:=by
 have h:=JbC fr st n (.s i);have h:(loadN st n (fr i)).map (fun l=>(V.agg l,Eff.no))=loadnV st n (fr i):=h;rw[<-h];simp only[resP,Ql,evRes,List.mapM_cons,List.mapM_nil]
 cases loadN st n (fr i)<;>rfl
theorem tablesC {st:St}{e1:List V}{ws:List Nat}(hw:WF st)(h:SchC (fun r=>st.row r≠ .none) st e1 (schT ws))(ho:chOk ws)(h8:ws.length<=8):
  Does (tabT tabD) Jao [.agg e1] st fun v S=>Gr st S/\∃rt ru W F,v= .tup [.ptr rt 0, .ptr ru 0, .agg e1]/\Tab W F S rt (tbT ws)/\∀r,W r\/F r->st.row r= .none:=by
 refine JW tabM qK rfl hw fun K fin=> ?_;obtain⟨n0,hn0⟩:=nxE st;have hsch:=h;have hr:refS (schT ws)=0:=by rw[Js7];exact JjC ho h8
 have ha:(addT (chT ws) 400 emptyTb).2.2.1=0:=by rw[JkC ws 400 (by omega) h8]
 have hnew:=Jtb ho h8;obtain⟨c,tv,sv,rfl,h1,h2,h3⟩:=h;obtain⟨M,hM⟩:∃M,M=chT ws:=⟨_,rfl⟩
 have h1:TyC (fun r=>st.row r≠ .none) st c M:=by rw[hM];exact h1
 obtain⟨nv,kv,es,rfl,x1,x2,x3,x4⟩:=h1.inv;have cs1:=x1.cells;have cs2:=x1.sc;have cs3:=x2.cells;have cs4:=x2.sc;have cv1:=h2.sc;have cv2:=h3.sc;simp only[KE,XY,simprocAttr];rw[Jb];simp only[XY,simprocAttr,hn0,cs1,cs2,cs3,cs4,cv1.1,cv1.2,cv2.1,cv2.2];refine JM ?_;intro S0 hS0;have g0:Gr st S0:=by rw[hS0];exact(Gr.new hw (Ja _)).nn (Ja _)
 obtain⟨p1,hp1⟩:=exE (up 0 n0);obtain⟨p4,hp4⟩:=exE (up 1 n0);obtain⟨t1,r1⟩:∃t,S0.row p1= .cells t [.int .i64 M.kind,ofL M.name,nv,kv,tv,sv]:=⟨_,by rw[hS0,hp1];simp only[XZ,simprocAttr,hn0];rfl⟩
 obtain⟨t4,r4⟩:∃t,S0.row p4= .cells t [.int .i64 0,ofL [], .snil, .snil, .snil, .snil]:=⟨_,by rw[hS0,hp4];simp only[XZ,simprocAttr,hn0];rfl⟩
 have p4n:st.row p4= .none:=by rw[hp4];exact nx0 hw hn0 1
 have p14:p1≠p4:=by rw[hp1,hp4];exact fun e=>by have:=congrArg Pt.num e;rw[Yt,Yt]at this;omega
 rw[<-hp1,<-hp4];clear hS0;have hs:∀{S:St},Gr st S->SchC (fun r=>S.row r≠ .none) S ([.int .i64 M.kind,ofL M.name,nv,kv]++[tv,sv]) (schT ws):=fun g=>hsch.imp fun r p _=>⟨by rw[g.same r p];exact p,g.same r p⟩
 rw[Jb];simp only[XY,simprocAttr,r1];refine Je (new0 g0.wf (hs g0) rfl rfl) ?_;rintro v1 S1 ⟨g1,hp⟩;rw[hnew]at hp;obtain⟨rt,W,F,rfl,hT,hWF⟩:=hp;have r11:=g1.cells r1;have r41:=g1.cells r4;simp only[XY,simprocAttr];rw[Jb];simp only[XY,simprocAttr,r11];refine Je (rnewC g1.wf (hs (g0.trans g1)) hr ha) ?_;rintro _ S2 ⟨g2,ru,rfl⟩;have r12:=g2.cells r11;have r42:=g2.cells r41;have hT2:=hT.gr g2;simp only[XZ,simprocAttr,r12,r42,cs1,cs2,cs3,cs4,cv1.1,cv1.2,cv2.1,cv2.2];have p4W:∀r,W r\/F r->r≠p4:=fun r w e=>Jd r4 (by rw[<-e];exact hWF r w);have key:∀r,r≠p4->(S2.wr p4 t4 fun u=>Row.cells u [.int .i64 M.kind,ofL M.name,nv,kv,tv,sv]).row r=S2.row r:=fun r e=>by rw[Jo,if_neg e]
 rw[Jpc];simp only[XZ,simprocAttr];refine fin _ _ (fun r e=> ?_) fun _=>⟨rt,ru,W,F, ?_,hT2.keep fun r w _=>key r (p4W r w),fun r w=> ?_⟩
 ·rw[key r (fun c=>e (by rw[c];exact p4n)),(g0.trans (g1.trans g2)).same r e]
 ·rfl
 ·exact Classical.byContradiction fun c=>c (by rw[<-g0.same r c];exact hWF r w)
abbrev envD (id:Nat):V:= .agg [.int .i64 (id:Nat), .snil, .snil]
abbrev opDot :List V:=[.int .i64 1,ofL [], .snil,ofL [], .int .i64 0, .bool false, .snil]
theorem fromC {S:St}(hw:WF S)(id:Nat):Does (tabT tabD) Jdu [envD id, .int .i64 (-1), .snil] S fun v S'=>Gr S S'/\v= .tup [.int .i64 (id:Nat), .int .i64 0]:=by
 refine JW tabM JcT rfl hw fun K fin=> ?_;obtain⟨n0,hn0⟩:=nxE S;simp only[QI,XZ,simprocAttr,hn0];refine QY (by decide) ?_;simp only[XZ,simprocAttr];exact fin _ _ (fun r e=>(Gr.new hw (Ja _)).same r e) fun _=>rfl
theorem pathC {S:St}(hw:WF S)(id:Nat)(t:V):Does (tabT tabD) Jdr [envD id,t, .agg opDot] S fun v S'=>Gr S S'/\v= .tup [.int .i64 (id:Nat), .int .i64 0]:=by
 refine JW tabM JcQ rfl hw fun K fin=> ?_;obtain⟨n0,hn0⟩:=nxE S;have cut:∀S:St,cutLV S 1 .snil (some (.int .i64 0)) none none=some (.snil, .no):=fun _=>rfl;simp only[QH,XY,simprocAttr];rw[Jb];simp only[XY,simprocAttr,hn0];refine JM ?_;intro S1 hS1;have G1:Gr S S1:=by rw[hS1];exact(Gr.new hw (Ja _)).nn (Ja _)
 obtain⟨p3,hp3⟩:=exE (up 0 n0);obtain⟨p5,hp5⟩:=exE (up 1 n0);obtain⟨t3,r3⟩:∃t,S1.row p3= .cells t [.int .i64 (id:Nat), .snil, .snil]:=⟨_,by rw[hS1,hp3];simp only[XZ,simprocAttr,hn0];rfl⟩
 obtain⟨t5,r5⟩:∃t,S1.row p5= .cells t opDot:=⟨_,by rw[hS1,hp5];simp only[XZ,simprocAttr,hn0];rfl⟩
 rw[<-hp3,<-hp5];clear hS1;rw[Jb];simp only[XY,simprocAttr,r3,r5];refine Je (Jf4 (Q:=fun v S'=>v= .tup [.int .i64 (-1), .bool true]/\S1=S') Jcg rfl ⟨rfl,rfl⟩) ?_;rintro _ _ ⟨rfl,rfl⟩;simp only[XY,simprocAttr];rw[Jl,Jb];simp only[XY,simprocAttr];rw[Jb];simp only[XY,simprocAttr,r3,r5];refine Je (fromC G1.wf id) ?_;rintro _ S2 ⟨G2,rfl⟩;have r52:=G2.cells r5;simp only[XZ,simprocAttr,r52,cut];refine QY (by decide) ?_;simp only[XZ,simprocAttr];exact fin _ _ (fun r e=>(G1.trans G2).same r e) fun _=>rfl
theorem opDotC {S:St}(hw:WF S)(id:Nat)(t:V):Does (tabT tabD) kZ [envD id,t, .agg opDot] S fun v S'=>Gr S S'/\v= .tup [.int .i64 (id:Nat), .int .i64 0]:=by
 refine JW tabM kA rfl hw fun K fin=> ?_;obtain⟨n0,hn0⟩:=nxE S;simp only[Ku,XY,simprocAttr];rw[Jb];simp only[XY,simprocAttr,hn0];refine JM ?_;intro S1 hS1;have G1:Gr S S1:=by rw[hS1];exact(Gr.new hw (Ja _)).nn (Ja _)
 obtain⟨p3,hp3⟩:=exE (up 0 n0);obtain⟨p5,hp5⟩:=exE (up 1 n0);obtain⟨t3,r3⟩:∃t,S1.row p3= .cells t [.int .i64 (id:Nat), .snil, .snil]:=⟨_,by rw[hS1,hp3];simp only[XZ,simprocAttr,hn0];rfl⟩
 obtain⟨t5,r5⟩:∃t,S1.row p5= .cells t opDot:=⟨_,by rw[hS1,hp5];simp only[XZ,simprocAttr,hn0];rfl⟩
 rw[<-hp3,<-hp5];clear hS1;simp only[XZ,simprocAttr,r3,r5];refine Je (pathC G1.wf id t) ?_;rintro _ S2 ⟨G2,rfl⟩;simp only[XZ,simprocAttr];exact fin _ _ (fun r e=>(G1.trans G2).same r e) fun _=>rfl
def DotP (S:St)(pv:V):Prop:=∃r1 r2 t1 t2,pv= .slx r1 0 1 1 1/\S.row r1= .cells t1 [.slx r2 0 1 7 1]/\S.row r2= .cells t2 opDot
theorem DotP.gr {S S':St}{pv:V}(h:DotP S pv)(g:Gr S S'):DotP S' pv:=by
 obtain⟨r1,r2,t1,t2,e,a,b⟩:=h;exact⟨r1,r2,t1,t2,e,g.cells a,g.cells b⟩
theorem ofDot {S:St}{pv:V}(hw:WF S)(id:Nat)(t:V)(hp:DotP S pv):Does (tabT tabD) Jam [t,envD id,pv] S fun v S'=>Gr S S'/\v= .tup [.int .i64 (id:Nat), .int .i64 0]:=by
 refine JW tabM JeZ rfl hw fun K fin=> ?_;obtain⟨q1,q2,t1,t2,rfl,h1,h2⟩:=hp;obtain⟨n0,hn0⟩:=nxE S;simp only[Yz,XY,simprocAttr];rw[Jb];simp only[XY,simprocAttr,hn0];refine JM ?_;intro S1 hS1;have G1:Gr S S1:=by rw[hS1];exact Gr.new hw (Ja _)
 obtain⟨p4,hp4⟩:=exE (up 0 n0);obtain⟨t4,r4⟩:∃t,S1.row p4= .cells t [.int .i64 (id:Nat), .snil, .snil]:=⟨_,by rw[hS1,hp4];simp only[XZ,simprocAttr,hn0];rfl⟩
 rw[<-hp4];clear hS1;have l1:lenLV (.slx q1 0 1 1 1)=some (.int .i64 1, .no):=rfl;rw[Jb];simp only[XY,simprocAttr];rw[Jl,Jb];simp only[XY,simprocAttr,l1];obtain⟨L,hL⟩:=loE fun j fr S'=>fr 14= .int .i64 1/\((j=1/\S'=S1/\fr 0=t/\fr 4= .ptr p4 0/\fr 8= .snil/\fr 13= .slx q1 0 1 1 1/\fr 15= .int .i64 0)\/(j=0/\Gr S S'/\fr 15= .int .i64 1/\∃r,fr 8= .slx r 0 1 1 1/\∃t,S'.row r= .cells t [.int .i64 (id:Nat)]));refine JK L 1 (by omega) ((hL _ _ _).2 ⟨rfl, .inl ⟨rfl,rfl,rfl,rfl,rfl,rfl,rfl⟩⟩) ?_;intro j fr S2 hLj;obtain⟨f14,hLj⟩:=(hL _ _ _).1 hLj;rcases hLj with⟨rfl,rfl,f0,f4,f8,f13,f15⟩|⟨rfl,G2,f15,r,f8,tr,rr⟩
 rotate_left
 ·have hi':¬(1:Int)<1:=by omega
  simp only[XZ,simprocAttr,f8,f14,f15,hi',rr];exact fin _ _ (fun r e=>G2.same r e) fun _=>rfl
 have hi':(0:Int)<1:=by omega
 have h12:=G1.cells h1;have h22:=G1.cells h2;obtain⟨n1,hn1⟩:=nxE S2;rw[Jb];simp only[XY,simprocAttr,f14,f15,hi'];rw[Jl];simp only[XY,simprocAttr];rw[Jl];simp only[XY,simprocAttr];rw[Jb];simp only[XY,simprocAttr,f13,f15,h12,hn1];refine JM ?_;intro S3 hS3;have w2:=G1.wf;have G3:Gr S2 S3:=by rw[hS3];exact(Gr.refl w2).nw hn1 (Ja _) (Ja _)
 obtain⟨p10,hp10⟩:=exE (up 0 n1);obtain⟨t10,r10⟩:∃t,S3.row p10= .cells t [.slx q2 0 1 7 1]:=⟨_,by rw[hS3,hp10];simp only[XZ,simprocAttr,hn1];rfl⟩
 rw[<-hp10];clear hS3;have h23:=G3.cells h22;have r43:=G3.cells r4;have l2:lenLV (.slx q2 0 1 7 1)=some (.int .i64 1, .no):=rfl;have i2:iaddrSV 7 (.slx q2 0 1 7 1) (.int .i64 0)=some (.ptr q2 0, .no):=rfl;have l0:lenLV .snil=some (.int .i64 0, .no):=rfl;have hadd1:IntKind.i64.wrap ((0:Int)+1)=1:=by rw[Jx (by omega) (by omega)];rfl
 rw[Jb];simp only[XY,simprocAttr];rw[Jb];simp only[XY,simprocAttr];rw[Jl];simp only[XY,simprocAttr];rw[Jb];simp only[XY,simprocAttr,r10,l2];rw[Jb];simp only[XY,simprocAttr,r10,i2,h23];rw[Jb];simp only[XY,simprocAttr,f0,f4,r43,r10,i2,h23];refine JF (P:=fun v _=>v= .tup [.int .i64 (id:Nat), .int .i64 0]) (opDotC (KN G3.wf _) id t) ?_;rintro _ S4 G4 rfl;have r104:=G4.cells r10;obtain⟨n4,hn4⟩:=nxE S4;simp only[XZ,simprocAttr,f8,l0,hn4,f14,f15,hadd1];refine⟨0,by omega,(hL _ _ _).2 ⟨f14, .inr ⟨rfl,((G1.trans G3).trans G4).trans (Gr.new G4.wf (Ja _)),rfl,up 0 n4,rfl,S4.t,by simp only[XZ,simprocAttr,hn4]⟩⟩⟩
theorem schC1 {P:Pt->Prop}{st:St}{e:List V}{t:Ty}(h:TyC P st e t):SchC P st (e++[.snil, .snil]) ⟨t,[],[]⟩:=
 ⟨e, .snil, .snil,rfl,h,⟨[],SlAt.nil _ _ _,rfl,fun i h=>absurd h (by simp)⟩,⟨[],SlAt.nil _ _ _,rfl,fun i h=>absurd h (by simp)⟩⟩
theorem JjJ {R:V->List Nat->Prop}(n:Str):∀{sv:List (Str×V)} {sg:List (Str×List Nat)},sv.length=sg.length->(∀i (h:i<sv.length) (h':i<sg.length),sv[i].1=sg[i].1/\R sv[i].2 sg[i].2)->
  (∀ids,(sg.find? fun p=>n=p.1).map (·.2)=some ids->∃v,at_ n sv=some v/\R v ids)/\((sg.find? fun p=>n=p.1).map (·.2)=none->at_ n sv=none)
 |[],[],_,_=>⟨fun ids h=>(by cases h),fun _=>rfl⟩
 | (a,v)::r,(b,w)::q,hl,h=>by
   obtain⟨i1,i2⟩:=JjJ n (sv:=r) (sg:=q) (by simpa using hl) fun i h1 h2=>h (i+1) (by simpa using h1) (by simpa using h2);have h0:=h 0 (by simp) (by simp);simp only[List.getElem_cons_zero]at h0;rw[at_];by_cases c:n=a
   ·have c':n=b:=by rw[c];exact h0.1
    rw[if_pos c];simp only[List.find?,c',decide_true,Option.map_some];exact⟨fun ids e=>⟨v,rfl,by injection e with e;rw[<-e];exact h0.2⟩,fun e=>by cases e⟩
   ·have c':¬n=b:=fun e=>c (by rw[e];exact h0.1.symm);rw[if_neg c];simp only[List.find?,c',decide_false];exact⟨i1,i2⟩
theorem sigN {W:Pt->Prop}{st:St}{rt:Pt}{tb:Tb}(nm:Str)(hT:TabX st W rt tb)(hs:sigI tb nm=none):
  Does (tabT tabD) JcS [.ptr rt 0,ofL nm] st fun v S=>v= .tup [.snil, .int .i64 0, .bool false]/\st=S:=by
 obtain⟨hw,F,lv,ra,rn,rs,es,sv,hT⟩:=hT;refine JA Jce rfl ?_;obtain⟨t,c⟩:=hT.cell;have hlk:=jz (e:= .one .s) hT.sigs .snil true nm (Jhh _ _) rfl;rw[(JjJ (R:=fun v ids=>SlAt F st v 1 (ints ids)) nm hT.slen hT.sig).2 hs]at hlk;simp only[ansL,if_true]at hlk;simp only[Qk,XZ,simprocAttr,c,hlk]
def AskC (P:Pt->Prop)(st:St)(rt:Pt)(e:List V)(nds:List Nd)(args:List Nat):Prop:=
 ∃lv av es,e=[.ptr rt 0,lv,av]/\SlAt P st lv 4 es/\es.length=nds.length/\(∀i (h:i<es.length) (h':i<nds.length),NdC P st es[i] nds[i])/\SlAt P st av 1 (ints args)
theorem AskC.imp {P Q:Pt->Prop}{st st':St}{rt:Pt}{e:List V}{nds:List Nd}{args:List Nat}(h:AskC P st rt e nds args)(k:∀r,P r->st.row r≠ .none->Q r/\st'.row r=st.row r):AskC Q st' rt e nds args:=by
 obtain⟨lv,av,es,rfl,h1,h2,h3,h4⟩:=h;exact⟨lv,av,es,rfl,h1.imp k,h2,fun i a b=>(h3 i a b).imp k,h4.imp k⟩
theorem AskC.gr {P:Pt->Prop}{st st':St}{rt:Pt}{e:List V}{nds:List Nd}{args:List Nat}(h:AskC P st rt e nds args)(g:Gr st st'):AskC P st' rt e nds args:=h.imp fun r p e=>⟨p,g.same r e⟩
theorem AskC.low {P:Pt->Prop}{st:St}{rt:Pt}{e:List V}{nds:List Nd}{args:List Nat}(h:AskC P st rt e nds args)(k:Nat):AskC P {st with low:=k} rt e nds args:=h.imp fun r p _=>⟨p,rfl⟩
theorem Jpd {P:Pt->Prop}{st:St}{lv:V}{es:List (List V)}{nds:List Nd}(h1:SlAt P st lv 4 es)(h2:es.length=nds.length)(h3:∀i (h:i<es.length) (h':i<nds.length),NdC P st es[i] nds[i]){i:Nat}(hi:i<nds.length):
  ∃r q kv,iaddrSV 4 lv (.int .i64 i)=some (.ptr r q, .no)/\P r/\st.row r≠ .none/\ld1 (st.row r) q=some (.int .i64 nds[i].kind, .no)/\ld1 (st.row r) (q+3)=some (kv, .no)/\SlAt P st kv 1 (ints nds[i].kids):=by
 obtain⟨r,q,a1,a2,a3,a4,a5⟩:=h1.elem (i:=i) (by omega);have hn:=h3 i (by omega) hi;obtain⟨E,hE⟩:∃E,E=es[i]'(by omega):=⟨_,rfl⟩
 rw[<-hE]at hn a5;obtain⟨nv,kv,rfl,y1,y2⟩:=hn;exact⟨r,q,kv,a1,a2,a3,a5 0 (by simp),a5 3 (by simp),y2⟩
def areS (ks:List Nat)(nds:List Nd):Bool:=(ks.zip nds).all fun p=>decide (p.2.kind=(p.1:Int))
theorem areC {P Q:Pt->Prop}{st:St}{rt:Pt}{e:List V}{nds:List Nd}{args:List Nat}{kv:V}{ks:List Nat}(hw:WF st)(h:AskC P st rt e nds args)(hk:SlAt Q st kv 1 (ints ks))(hl:ks.length<=nds.length)(h8:ks.length<=8):
  Does (tabT tabD) Jch [.agg e,kv] st fun v S=>Gr st S/\v= .bool (areS ks nds):=by
 refine JA Jbl rfl ?_;obtain⟨n0,hn0⟩:=nxE st;obtain⟨lv,av,es,rfl,h1,h2,h3,h4⟩:=h;have c1:=h1.cells;have c2:=h1.sc;have c3:=h4.cells;have c4:=h4.sc;have len:=hk.len;rw[kj]at len;obtain⟨p2,hp2⟩:=exE (up 0 n0);simp only[K7,XY,simprocAttr];rw[Jb];simp only[XY,simprocAttr,hn0,c1,c2,c3,c4];rw[<-hp2];obtain⟨S0,hS0⟩:=exE (st.new fun t=> .cells t [.ptr rt 0,lv,av]);have G0:Gr st S0:=by rw[hS0];exact Gr.new hw (Ja _)
 obtain⟨t2,r2⟩:∃t,S0.row p2= .cells t [.ptr rt 0,lv,av]:=⟨_,by rw[hS0,hp2];simp only[XZ,simprocAttr,hn0];rfl⟩
 rw[<-hS0];clear hS0;have hk0:=hk.gr G0;have h10:=h1.gr G0;have h30:∀i (h:i<es.length) (h':i<nds.length),NdC P S0 es[i] nds[i]:=fun i a b=>(h3 i a b).imp fun r p e=>⟨p,G0.same r e⟩
 refine Qc (fun _ S=>S=S0/\areS ks nds=true) ?_ fun fr S ⟨e,h⟩=>by
  subst e;simp only[XZ,simprocAttr];exact⟨G0,congrArg V.bool h.symm⟩
 rw[Jb];simp only[XY,simprocAttr,len];obtain⟨L,hL⟩:=loE fun j fr S=>∃(i:Nat),j+i=ks.length/\fr 2= .ptr p2 0/\fr 7=kv/\fr 8= .int .i64 ks.length/\fr 9= .int .i64 i/\S=S0/\areS ks nds=areS (ks.drop i) (nds.drop i);refine JK L ks.length (by omega) ((hL _ _ _).2 ⟨0,by omega,rfl,rfl,rfl,by simp only[XZ,simprocAttr]<;>rfl,rfl,rfl⟩) ?_;intro j fr S hLj;obtain⟨i,hj,f2,f7,f8,f9,rfl,hrec⟩:=(hL _ _ _).1 hLj;by_cases hi:i<ks.length
 ·have hi':(i:Int)<ks.length:=by omega
  have hin:i<nds.length:=by omega
  have hadd1:IntKind.i64.wrap ((i:Int)+1)=((i+1:Nat):Int):=by rw[Jx (by omega) (by omega)];rfl
  obtain⟨r,q,kv',a1,a2,a3,a4,a5,a6⟩:=Jpd h10 h2 h30 hin;obtain⟨r',q',b1,b2,b3,b4⟩:=SlAt.one (xs:=ks.map fun n:Nat=>V.int .i64 (n:Int)) (i:=i) hk0 (by simpa using hi);simp only[List.getElem_map]at b4;have hstep:areS (ks.drop i) (nds.drop i)=(decide (nds[i].kind=(ks[i]:Int))&&areS (ks.drop (i+1)) (nds.drop (i+1))):=by
   rw[List.drop_eq_getElem_cons hi,List.drop_eq_getElem_cons hin];rfl
  rw[hstep]at hrec;by_cases hk:nds[i].kind=(ks[i]:Int)
  ·have hk':(nds[i].kind=(ks[i]:Int))=True:=eq_true hk;simp only[XZ,simprocAttr,f2,f7,f8,f9,hi',b1,b4,r2,a1,a4,hk',hadd1];refine⟨j-1,by omega,(hL _ _ _).2 ⟨i+1,by omega,f2,f7,f8,rfl,rfl,by rw[hrec,decide_eq_true hk,Bool.true_and]⟩⟩
  ·have hk':(nds[i].kind=(ks[i]:Int))=False:=eq_false hk;simp only[XZ,simprocAttr,f2,f7,f8,f9,hi',b1,b4,r2,a1,a4,hk'];exact⟨G0,by rw[hrec,decide_eq_false hk,Bool.false_and]⟩
 ·have hi':¬(i:Int)<ks.length:=by omega
  simp only[XZ,simprocAttr,f8,f9,hi'];rw[List.drop_of_length_le (by omega)]at hrec;exact hrec
def Ans (W:Pt->Prop)(st:St)(rt:Pt)(x:Tb×Nat×Int)(v:V)(S:St):Prop:=Ch W st S/\∃W',TabX S W' rt x.1/\(∀r,W' r->W r\/st.row r= .none)/\v= .tup [.int .i64 (x.2.1:Nat), .int .i64 x.2.2]
theorem Ans.gr {W:Pt->Prop}{st0 st:St}{rt:Pt}{x:Tb×Nat×Int}{v:V}{S:St}(G:Gr st0 st)(h:Ans W st rt x v S):Ans W st0 rt x v S:=by
 obtain⟨C,W',T,K,e⟩:=h;exact⟨(Ch.of W G).trans C fun r w=> .inl w,W',T,fun r w=>by rcases K r w with w|w;exact .inl w;exact .inr (Ch.fresh (Ch.of W G) w),e⟩
theorem Ans.same {W:Pt->Prop}{st S:St}{rt:Pt}{tb:Tb}{n:Nat}{z:Int}(hT:TabX st W rt tb)(G:Gr st S):Ans W st rt (tb,n,z) (.tup [.int .i64 (n:Nat), .int .i64 z]) S:=⟨Ch.of W G,W,hT.gr G,fun r w=> .inl w,rfl⟩
theorem layF {W F P:Pt->Prop}{st:St}{rt:Pt}{tb:Tb}{e:List V}{nd:Nd}{i:Nat}(hw:WF st)(hT:Tab W F st rt tb)(hn:NdC P st e nd)(hf:nd.fit)(hi:idx nd tb.nodes 0=some i):
  Does (tabT tabD) jM [.ptr rt 0, .agg e] st fun v st'=>Gr st st'/\v= .tup [.int .i64 (i:Nat), .int .i64 0]:=by
 refine JW tabM jl rfl hw fun K fin=> ?_;obtain⟨lv,ra,rn,rs,es,sv,hT⟩:=hT.live;obtain⟨n,hn0⟩:=nxE st;have hnd:=hn;obtain⟨nv,kv,rfl,h1,h2⟩:=hn;have g0:Gr st (st.new fun t=> .cells t [.int .i64 nd.kind,ofL nd.name,nv,kv]):=Gr.new hw fun u=>⟨rfl,fun e=>by cases e⟩
 simp only[KT,XZ,simprocAttr,hn0,h1.cells,h2.cells,h1.sc,h2.sc];refine Je (keyed (P:=P) g0.wf (hnd.gr g0) hf) ?_;rintro _ st1 ⟨g1,rfl⟩;have G1:=g0.trans g1;have w1:=G1.wf;have b0:st1.row (up 0 n)= .cells st.t [.int .i64 nd.kind,ofL nd.name,nv,kv]:=g1.cells (by simp only[XZ,simprocAttr,hn0]);have hT1:=hT.gr G1;have hnd1:=hnd.gr G1;obtain⟨n1,hn1⟩:=nxE st1;have hold1:=fun r (h:st1.row r≠ .none)=>YT w1 hn1 h;have o0:=hold1 (up 0 n) (by rw[b0];exact fun e=>by cases e);obtain⟨tt,c1⟩:=hT1.cell;have ort:=hold1 rt hT1.rt_ne;have k1:=qA hf;have k2:20<=(keyL nd).length:=by rw[k1];decide
 have k3:(keyL nd).take 20=keyL nd:=by rw[<-k1,List.take_length]
 have hfit:ekN.fit (encN nd)=true:=by
  have:(keyL nd).length==20:=by rw[k1];rfl
  exact this
 have heq:∀p∈(tb.nodes.zipIdx.map fun p=>(p.1,V.int .i64 (p.2:Int))),ekN.eq (encN nd) (encN p.1)=some (decide (nd=p.1)):=fun p hp=>by
  obtain⟨q,hq,rfl⟩:=List.mem_map.1 hp;exact Jop hf (hT1.fit _ (List.fst_mem_of_mem_zipIdx hq))
 have hlk:∀S:St,S.row ra=st1.row ra->lookupV S ekN (.int .i64 0) true (.map ra) (.agg (keyL nd))=some (ansL (.int .i64 0) true (at_ nd (tb.nodes.zipIdx.map fun p=>(p.1,V.int .i64 (p.2:Int)))), .no):=fun S hS=>
  jz (enc:=encN) (hT1.key.of hS) _ _ nd heq hfit
 have ora:=hold1 ra hT1.key.ne;have k4:splice [V.int .i64 0,V.int .i64 0,V.int .i64 0,ofL [],ofL [],ofL [],ofL [],ofL [],ofL [],ofL [],ofL [],ofL [],V.int .i64 0,V.int .i64 0,V.int .i64 0,V.int .i64 0,V.int .i64 0,V.int .i64 0,V.int .i64 0,V.int .i64 0] 0 (keyL nd)=keyL nd:=YJ (by rw[k1];rfl);have g2:Gr st1 ((st1.new fun t=> .cells t zk).wr (up 0 n1) st1.t fun u=> .cells u (keyL nd)):=(Gr.refl w1).nw hn1 (Ja _) (Ja _);have hz:=Jdz nd tb.nodes 0;simp only[hi]at hz;obtain⟨_,i1,i2⟩:=Jkm hi;simp only[Nat.sub_zero]at i1 i2;have i3:i<es.length:=by rw[hT.len];exact i1
 obtain⟨q,qo,a1,a2,a3,a4,a5,a6⟩:=hT1.elem i3;have oq:=hold1 q a2;simp only[XM,simprocAttr,b0,hn1,o0,ort,c1,k1,k2,k3,Jdy,k4,hlk,ora,hz,Option.map_some,ansL,a1,oq,a5];refine JF (keyed (KN g2.wf _) (((hT1.nd i i3 i1).gr g2).low _) (hT1.fit _ (List.getElem_mem i1))) ?_;rintro _ st3 g3 rfl;rw[i2];have kk:st3.row (up 0 n1)= .cells _ (keyL nd):=g3.cells (by simp only[XZ,simprocAttr,hn1];rfl);have l1:(padI nd.kids).length=8:=by have:=hf.2;simp[padI];omega
 simp only[XZ,simprocAttr,k1,k2,Jgr hf,kk,JlU l1];have G3:=G1.trans (g2.trans g3);exact fin _ _ (fun r h=>G3.same r h) fun _=>rfl
theorem baseF {W F:Pt->Prop}{st:St}{rt:Pt}{tb:Tb}{k:Int}{i:Nat}(hw:WF st)(hT:Tab W F st rt tb)(hi:idx ⟨k,[],[],[]⟩ tb.nodes 0=some i):
  Does (tabT tabD) Jcc [.ptr rt 0, .int .i64 k] st fun v S=>Gr st S/\v= .tup [.int .i64 (i:Nat), .int .i64 0]:=by
 refine JA Jbg rfl ?_;simp only[K1,XZ,simprocAttr];refine Je (layF (P:=fun _=>True) (nd:=⟨k,[],[],[]⟩) hw hT ⟨.snil, .snil,rfl,SlAt.nil _ _ _,SlAt.nil _ _ _⟩ ⟨Nat.zero_le _,Nat.zero_le _⟩ hi) ?_;rintro _ S2 ⟨G2,rfl⟩;simp only[XZ,simprocAttr];exact G2
theorem baseAF {W F P:Pt->Prop}{st:St}{rt:Pt}{tb:Tb}{e:List V}{nds:List Nd}{args:List Nat}{k:Int}{i:Nat}(ok:Bool)(hw:WF st)(hT:Tab W F st rt tb)(hi:idx ⟨k,[],[],[]⟩ tb.nodes 0=some i)(h:AskC P st rt e nds args):
  Does (tabT tabD) Jbk [.agg e, .int .i64 k, .bool ok] st fun v S=>Gr st S/\v=if ok then .tup [.int .i64 (i:Nat), .int .i64 0]else .tup [.int .i64 0, .int .i64 17]:=by
 refine JA JaA rfl ?_;obtain⟨n0,hn0⟩:=nxE st;obtain⟨lv,av,es,rfl,h1,h2,h3,h4⟩:=h;have c1:=h1.cells;have c2:=h1.sc;have c3:=h4.cells;have c4:=h4.sc;obtain⟨S0,hS0⟩:=exE (st.new fun t=> .cells t [.ptr rt 0,lv,av]);have G0:Gr st S0:=by rw[hS0];exact Gr.new hw (Ja _)
 obtain⟨t2,r2⟩:∃t,S0.row (up 0 n0)= .cells t [.ptr rt 0,lv,av]:=⟨_,by rw[hS0];simp only[XZ,simprocAttr,hn0];rfl⟩
 simp only[KQ,XY,simprocAttr];rw[Jb];simp only[XY,simprocAttr,hn0,c1,c2,c3,c4];rw[<-hS0];clear hS0
 cases ok with
 | false=>
   simp only[XZ,simprocAttr];exact G0
 | true=>
   rw[Jl,Jb];simp only[XY,simprocAttr];rw[Jb];simp only[XY,simprocAttr,r2];refine Je (baseF G0.wf (hT.gr G0) hi) ?_;rintro _ S2 ⟨G2,rfl⟩;simp only[XZ,simprocAttr];exact G0.trans G2
theorem addBF {W F:Pt->Prop}{st:St}{rt:Pt}{tb:Tb}{e:List V}{A B:Nd}{args:List Nat}{i:Nat}(hw:WF st)(hT:Tab W F st rt tb)(hi:idx ⟨2,[],[],[]⟩ tb.nodes 0=some i)(h:AskC (fun r=>¬W r) st rt e [A,B] args):
  Does (tabT tabD) YZ [.agg e,ofL [97,100,100]] st fun v S=>Gr st S/\v=if areS [2,2] [A,B]then .tup [.int .i64 (i:Nat), .int .i64 0]else .tup [.int .i64 0, .int .i64 17]:=by
 refine JA qa rfl ?_;obtain⟨n0,hn0⟩:=nxE st;have hask:=h;obtain⟨lv,av,es,rfl,h1,h2,h3,h4⟩:=h;have c1:=h1.cells;have c2:=h1.sc;have c3:=h4.cells;have c4:=h4.sc;obtain⟨p2,hp2⟩:=exE (up 0 n0);obtain⟨S0,hS0⟩:=exE (st.new fun t=> .cells t [.ptr rt 0,lv,av]);have G0:Gr st S0:=by rw[hS0];exact Gr.new hw (Ja _)
 obtain⟨t2,r2⟩:∃t,S0.row p2= .cells t [.ptr rt 0,lv,av]:=⟨_,by rw[hS0,hp2];simp only[XZ,simprocAttr,hn0];rfl⟩
 have h30:∀i (h:i<es.length) (h':i<([A,B]).length),NdC (fun r=>¬W r) S0 es[i] ([A,B])[i]:=fun i a b=>(h3 i a b).imp fun r p e=>⟨p,G0.same r e⟩
 obtain⟨r,q,kv',a1,a2,a3,a4,a5,a6⟩:=Jpd (h1.gr G0) h2 h30 (i:=0) (by simp);have a1:iaddrSV 4 lv (.int .i64 0)=some (.ptr r q, .no):=a1;simp only[List.getElem_cons_zero]at a4 a6;simp only[Kn,XY,simprocAttr];rw[Jb];simp only[XY,simprocAttr,hn0,c1,c2,c3,c4];rw[<-hS0,<-hp2];clear hS0;rw[Jb];simp only[XY,simprocAttr,r2,a1,a4];have w0:=G0.wf;obtain⟨n1,hn1⟩:=nxE S0;have o2:=fun k=>nes (JE w0 hn1 (Jd r2) k);simp only[XZ,simprocAttr,r2,hn1,o2,List.cons.injEq,and_false,false_and,and_true,true_and,List.cons_ne_nil,reduceCtorEq];obtain⟨x0,hx0⟩:=exE (up 0 n1);obtain⟨S1,hS1⟩:=exE (S0.new fun t=>Row.cells t [V.int IntKind.i64 2,V.int IntKind.i64 2]);have G1:Gr S0 S1:=by rw[hS1];exact Gr.new w0 (Ja _)
 obtain⟨t3,r3⟩:∃t,S1.row x0= .cells t [.int .i64 2, .int .i64 2]:=⟨_,by rw[hS1,hx0];simp only[XZ,simprocAttr,hn1];rfl⟩
 rw[<-hS1,<-hx0];clear hS1;have hk:SlAt (fun _=>True) S1 (.slx x0 0 2 1 2) 1 (ints [2,2]):=SlAt.freshx (es:=ints [2,2]) (t:=t3) (by rw[r3];rfl) trivial (Jew _);have G01:=G0.trans G1;have r2:=G1.cells r2;refine JF (areC (KN G1.wf _) ((hask.gr G01).low _) (hk.low _) (by simp) (by simp)) ?_;rintro _ S2 G2 rfl;have G02:=G01.trans G2;have r2:=G2.cells r2;simp only[XZ,simprocAttr];refine JF (baseAF (areS [2,2] [A,B]) (KN G2.wf _) ((hT.gr G02).keep (st':={S2 with low:=S2.t}) fun r _ _=>rfl) hi ((hask.gr G02).low _)) ?_;rintro _ S3 G3 rfl
 cases areS [2,2] [A,B]with
 | true=>
   simp only[XZ,simprocAttr];exact G02.trans G3
 | false=>
   simp only[XZ,simprocAttr];exact G02.trans G3
theorem openO {W:Pt->Prop}{st:St}{rt:Pt}{tb:Tb}{id o:Nat}(hT:TabX st W rt tb)(ho:openS tb (tb.nodes.length+1) id=(o,true)):
  Does (tabT tabD) YX [.ptr rt 0, .int .i64 id] st fun v S=>v= .tup [.int .i64 (o:Nat), .bool true]/\st=S:=by
 obtain⟨hw,F,hT⟩:=hT;have:=openC (id:=id) hw hT;rw[ho]at this;exact this
def Opened (tb:Tb)(args:List Nat)(nds:List Nd):Prop:=args.length=nds.length/\∀i (h:i<args.length) (h':i<nds.length),∃o,openS tb (tb.nodes.length+1) args[i]=(o,true)/\tb.nodes[o]? =some nds[i]
theorem Opened.nil (tb:Tb):Opened tb [] []:=⟨rfl,fun i h=>absurd h (by simp)⟩
theorem Opened.cons {tb:Tb}{a o:Nat}{n:Nd}{args:List Nat}{nds:List Nd}(h:Opened tb args nds)(ho:openS tb (tb.nodes.length+1) a=(o,true))(hn:tb.nodes[o]? =some n):Opened tb (a::args) (n::nds):=by
 obtain⟨h1,h2⟩:=h;refine⟨by simp[h1],fun i hi hi'=> ?_⟩
 cases i with
 |zero=>exact⟨o,ho,hn⟩
 |succ i=>exact h2 i (by simpa using hi) (by simpa using hi')
theorem ofBF {W:Pt->Prop}{st:St}{rt:Pt}{tb:Tb}{nm:Str}{av:V}{args:List Nat}{nds:List Nd}{x:V}(hT:TabX st W rt tb)(hs:sigI tb nm=none)(hb:(identB nm&&Lib.contains jB (32::(nm++[32])))=true)
  (hmany:∀S,Does (tabT tabD) Jcf [ofL nm] S fun v S'=>v= .int .i64 (args.length:Nat)/\S=S') (hlen:args.length<=8) (hav:SlAt (fun r=>¬W r) st av 1 (ints args)) (hop:Opened tb args nds)
  (hx:∃y z,x= .tup [y,z]) (hB:∀(S:St) (e:List V),Gr st S->AskC (fun r=>¬W r) S rt e nds args->Does (tabT tabD) YZ [.agg e,ofL nm] S fun v S'=>Gr S S'/\v=x):
  Does (tabT tabD) Je7 [.ptr rt 0,ofL nm,av] st fun v S'=>Gr st S'/\v=x:=by
 refine JA JjP rfl ?_;obtain⟨hnl,hopn⟩:=hop;have len:=hav.len;rw[kj]at len;have hl0:lenLV .snil=some (.int .i64 0, .no):=rfl;simp only[YA,XY,simprocAttr];rw[Jb];simp only[XY,simprocAttr];rw[Jb];simp only[XY,simprocAttr];refine Je (sigN nm hT hs) ?_;rintro _ _ ⟨rfl,rfl⟩;simp only[XY,simprocAttr];rw[Jb];simp only[XY,simprocAttr,hl0];rw[Jl];simp only[XY,simprocAttr];rw[Jb];simp only[XY,simprocAttr];refine Je (JjE nm st hT.1) ?_;rintro _ S1 ⟨G1,rfl⟩;rw[hb];simp only[XY,simprocAttr];refine Je (hmany S1) ?_;rintro _ _ ⟨rfl,rfl⟩;simp only[XY,simprocAttr];rw[Jl,Jb];simp only[XY,simprocAttr,len];rw[Jl,Jb];simp only[XY,simprocAttr];refine Je (JjE nm S1 G1.wf) ?_;rintro _ S2 ⟨G2,rfl⟩;rw[hb];have G02:=G1.trans G2;have hav2:=hav.gr G02;have s1:=hav.sc;have s2:=hav.cells;obtain⟨n2,hn2⟩:=nxE S2;simp only[XY,simprocAttr];rw[Jb];simp only[XY,simprocAttr,hn2,s1,s2];obtain⟨b7,hb7⟩:=exE (up 0 n2);obtain⟨S3,hS3⟩:=exE ((S2.new fun t=> .cells t [.pnil, .snil, .snil]).wr (up 0 n2) S2.t fun u=> .cells u [.ptr rt 0, .snil,av]);have g3:Gr S2 S3:=by rw[hS3];exact(Gr.refl G02.wf).nw hn2 (Ja _) (Ja _)
 obtain⟨t7,r7⟩:∃t,S3.row b7= .cells t [.ptr rt 0, .snil,av]:=⟨_,by rw[hS3,hb7];simp only[XZ,simprocAttr,hn2];rfl⟩
 have e72:S2.row b7= .none:=by rw[hb7];exact nx0 G02.wf hn2 0
 rw[<-hS3,<-hb7];clear hS3;have gs3:=G02.trans g3;have e7:st.row b7= .none:=Ch.fresh (Ch.of (fun _=>False) G02) e72;obtain⟨B,hB'⟩:∃B:Pt->Prop,∀r,B r<->(st.row r≠ .none\/r=b7):=⟨_,fun _=>Iff.rfl⟩
 have B7:B b7:=(hB' _).2 (.inr rfl);have B3:∀r,B r->S3.row r≠ .none:=fun r h=>by
  rcases(hB' _).1 h with h|h
  ·rw[gs3.same r h];exact h
  ·rw[h];exact Jd r7
 refine Qc (fun fr S=>∃kv' t,fr 1=ofL nm/\fr 16= .ptr b7 0/\LsF NdC st S3 B 4 S kv' nds/\S.row b7= .cells t [.ptr rt 0,kv',av]) ?_ ?_
 ·rw[Jb];simp only[XY,simprocAttr,len];obtain⟨L,hL⟩:=loE fun j fr S=>∃(i:Nat) (kv':V) (t:Nat),j+i=args.length/\fr 0= .ptr rt 0/\fr 1=ofL nm/\fr 16= .ptr b7 0/\fr 73=av/\fr 74= .int .i64 args.length/\fr 75= .int .i64 i/\LsF NdC st S3 B 4 S kv' (nds.take i)/\S.row b7= .cells t [.ptr rt 0,kv',av];refine JK L args.length (by omega) ((hL _ _ _).2 ⟨0, .snil,t7,by omega,rfl,rfl,rfl,rfl,rfl,by simp only[XZ,simprocAttr]<;>rfl,LsF.nil gs3,r7⟩) ?_;intro j fr S hLj;obtain⟨i,kv',t,hj,f0,f1,f16,f73,f74,f75,hF,r7⟩:=(hL _ _ _).1 hLj;by_cases hi:i<args.length;rotate_left
  ·have hi':¬(i:Int)<args.length:=by omega
   simp only[XZ,simprocAttr,f74,f75,hi'];rw[List.take_of_length_le (by omega)]at hF;exact⟨kv',t,f1,f16,hF,r7⟩
  have hi':(i:Int)<args.length:=by omega
  have hin:i<nds.length:=by omega
  have hadd1:IntKind.i64.wrap ((i:Int)+1)=((i+1:Nat):Int):=by rw[Jx (by omega) (by omega)];rfl
  obtain⟨o,ho,hnd⟩:=hopn i hi hin;obtain⟨hol,hne⟩:=List.getElem?_eq_some_iff.1 hnd;obtain⟨ra,oa,o1,o2,o3,o4⟩:=SlAt.one (xs:=args.map fun n:Nat=>V.int .i64 (n:Int)) (i:=i) (hav.gr hF.g) (by simpa using hi);simp only[List.getElem_map]at o4;have TS:=hT.gr hF.g;rw[Jb];simp only[XY,simprocAttr,f74,f75,hi'];rw[Jl];simp only[XY,simprocAttr];rw[Jl];simp only[XY,simprocAttr];rw[Jb];simp only[XY,simprocAttr,f73,f75,o1,o4];rw[Jb];simp only[XY,simprocAttr,f0];refine Je (openO TS ho) ?_;rintro _ _ ⟨rfl,rfl⟩;simp only[XY,simprocAttr];rw[Jb];simp only[XY,simprocAttr,f0];obtain⟨_,FT,TT⟩:=TS;refine Je (nodeC (Q:=fun r=>S.row r= .none) hF.g.wf TT hol fun _ h=>h) ?_;rintro _ Sa ⟨ga,e,rfl,nv,kv,rfl,x1,x2⟩;rw[hne]at x1 x2⊢;obtain⟨N,hN⟩:∃N,N=nds[i]:=⟨_,rfl⟩
  rw[<-hN]at x1 x2⊢;have hNd:NdC (fun r=>S.row r= .none) Sa [.int .i64 N.kind,ofL N.name,nv,kv] N:=⟨nv,kv,rfl,x1,x2⟩
  have q1:=x1.cells;have q2:=x1.sc;have q3:=x2.cells;have q4:=x2.sc;obtain⟨nA,hnA⟩:=nxE Sa;simp only[XY,simprocAttr,hnA,q1,q2,q3,q4];obtain⟨pa,hpa⟩:=exE (up 0 nA);obtain⟨Sb,hSb⟩:=exE ((Sa.new fun t=> .cells t [.int .i64 0,ofL [], .snil, .snil]).wr (up 0 nA) Sa.t fun u=> .cells u [.int .i64 N.kind,ofL N.name,nv,kv]);have gb:Gr Sa Sb:=by rw[hSb];exact(Gr.refl ga.wf).nw hnA (Ja _) (Ja _)
  obtain⟨tb1,rb⟩:∃t,Sb.row pa= .cells t [.int .i64 N.kind,ofL N.name,nv,kv]:=⟨_,by rw[hSb,hpa];simp only[XZ,simprocAttr,hnA];rfl⟩
  rw[<-hSb,<-hpa];clear hSb;have gab:=ga.trans gb;have TB:TabX Sb W rt tb:=TabX.gr ⟨hF.g.wf,FT,TT⟩ gab;rw[Jl,Jb];simp only[XY,simprocAttr,f0];refine Je (openO TB ho) ?_;rintro _ _ ⟨rfl,rfl⟩;simp only[XY,simprocAttr];rw[Jb];simp only[XY,simprocAttr];have r7b:=gab.cells r7;have wb:=gb.wf;obtain⟨nB,hnB⟩:=nxE Sb;have ob:=fun k=>nes (JE wb hnB (Jd r7b) k);simp only[XY,simprocAttr,f16,r7b,rb,hnB,ob,q1,q2,q3,q4];have Fb:=hF.gr (C:=NdC) NdC.imp gab;have gn:Gr Sb (Sb.new fun t=> .cells t [.int .i64 N.kind,ofL N.name,nv,kv]):=Gr.new wb (Ja _);have Fg:=Fb.gr (C:=NdC) NdC.imp gn;have hone:=kP (st:=Sb) (z:=4) (e:=[.int .i64 N.kind,ofL N.name,nv,kv]) rfl;rw[hnB]at hone;refine JqD (C:=NdC) NdC.imp Fg hone (by simp only[allSc,List.all_cons,List.all_nil,q2,q4];rfl) (hNd.imp fun r p e=>⟨⟨fun b=>hF.live r (B3 r b) p,fun e=>hF.alive e p⟩,(gb.trans gn).same r e⟩) B3 (by rw[List.length_take];omega) fun Sf vf Ff kp=> ?_;rw[hN,<-List.take_succ_eq_append_getElem hin]at Ff;have d5:=Ff.sc;have rg:=gn.cells r7b;have rf:=(kp b7 (Jd rg) fun e=>B3 b7 B7 (hF.own _ e)).trans rg;simp only[XZ,simprocAttr,f16,f75,rf,hadd1,Jw,d5.1,d5.2];exact⟨j-1,by omega,(hL _ _ _).2 ⟨i+1,vf,_,by omega,f0,f1,f16,f73,f74,rfl,Ff.wr (C:=NdC) NdC.imp B7 e7 (B3 _ B7) rf,J7 _ _ _ _⟩⟩
 rintro fr S4 ⟨kv',t,f1,f16,hF,r7⟩;obtain⟨es,x1,x2,x3⟩:=hF.lst (C:=NdC) NdC.imp B3;have hst:∀r,¬B r->st.row r= .none:=fun r n=>Classical.byContradiction fun e=>n ((hB' _).2 (.inl e));rw[Jb];simp only[XY,simprocAttr,f1,f16,r7];refine Je (hB S4 _ hF.g ⟨kv',av,es,rfl,x1.imp fun r p e=>⟨hT.own (hst r p),rfl⟩,x2,fun i a b=>(x3 i a b).imp fun r p e=>⟨hT.own (hst r p),rfl⟩,hav.gr hF.g⟩) ?_;rintro _ S5 ⟨C5,rfl⟩;obtain⟨y,z,hyz⟩:=hx;simp only[XZ,simprocAttr,hyz];exact hF.g.trans C5
abbrev opAdd :List V:=[.int .i64 6,ofL [], .snil,ofL [97,100,100], .int .i64 0, .bool false, .snil]
abbrev opOne :List V:=[.int .i64 3,ofL [], .snil,ofL [], .int .i64 1, .bool false, .snil]
theorem opOneC {W F:Pt->Prop}{S:St}{rt:Pt}{ws:List Nat}(id:Nat)(hw:WF S)(hT:Tab W F S rt (tbT ws)):Does (tabT tabD) kZ [envD id, .ptr rt 0, .agg opOne] S fun v S'=>Gr S S'/\v= .tup [.int .i64 0, .int .i64 0]:=by
 refine JA kA rfl ?_;obtain⟨n0,hn0⟩:=nxE S;simp only[Ku,XY,simprocAttr];rw[Jb];simp only[XY,simprocAttr,hn0];refine JM ?_;intro S1 hS1;have G1:Gr S S1:=by rw[hS1];exact(Gr.new hw (Ja _)).nn (Ja _)
 obtain⟨p5,hp5⟩:=exE (up 1 n0);obtain⟨t5,r5⟩:∃t,S1.row p5= .cells t opOne:=⟨_,by rw[hS1,hp5];simp only[XZ,simprocAttr,hn0];rfl⟩
 rw[<-hp5];clear hS1;simp only[XZ,simprocAttr,r5];refine Je (baseF (k:=2) G1.wf (hT.gr G1) (Jmg ws)) ?_;rintro _ S2 ⟨G2,rfl⟩;simp only[XZ,simprocAttr];exact G1.trans G2
theorem manyAdd (S:St):Does (tabT tabD) Jcf [ofL [97,100,100]] S fun v S'=>v= .int .i64 ((2:Nat):Int)/\S=S':=by
 refine JA JfB rfl ?_;simp only[Yd,XZ,simprocAttr,List.cons.injEq,and_false,false_and,and_true,true_and,List.cons_ne_nil,reduceCtorEq]
def addV (A:Nd):V:=if areS [2,2] [A,chI]then .tup [.int .i64 0, .int .i64 0]else .tup [.int .i64 0, .int .i64 17]
theorem Jpe :addV chI= .tup [.int .i64 0, .int .i64 0]:=rfl
theorem Jpf {w:Nat}(h:w<4)(k:Nat):addV (chD w k)= .tup [.int .i64 0, .int .i64 17]:=by
 rcases(by omega:w=0\/w=1\/w=2\/w=3)with rfl|rfl|rfl|rfl<;>rfl
theorem JjK (A:Nd):∃y z,addV A= .tup [y,z]:=by
 unfold addV;split<;>exact⟨_,_,rfl⟩
theorem Jpg {W F:Pt->Prop}{S:St}{rt:Pt}{ws:List Nat}{av:V}{id:Nat}{A:Nd}(hw:WF S)(hT:Tab W F S rt (tbT ws))(hA:(chL ws)[id]? =some A)(h9:A.kind≠9)(hav:SlAt (fun r=>¬W r) S av 1 (ints [id,0])):
  Does (tabT tabD) Je7 [.ptr rt 0,ofL [97,100,100],av] S fun v S'=>Gr S S'/\v=addV A:=by
 have hid:id<(chL ws).length:=(List.getElem?_eq_some_iff.1 hA).1;have hAe:(chL ws)[id]=A:=(List.getElem?_eq_some_iff.1 hA).2;have h0:0<(chL ws).length:=by rw[ji];omega
 have hI:(chL ws)[0]=chI:=(List.getElem?_eq_some_iff.1 (JcB ws)).2;refine ofBF (tb:=tbT ws) (args:=[id,0]) (nds:=[A,chI]) (nm:=[97,100,100]) (x:=addV A) ⟨hw,F,hT⟩ rfl (by decide+kernel) manyAdd (by simp) hav ?_ (JjK A) fun S' e g h=>addBF (i:=0) g.wf (hT.gr g) (Jmg ws) h;exact .cons (.cons (.nil _) (QX h0 (by show(chL ws)[0].kind≠9;rw[hI];decide)) (JcB ws)) (QX hid (by show(chL ws)[id].kind≠9;rw[hAe];exact h9)) hA
theorem callAdd {W F:Pt->Prop}{S:St}{rt r2:Pt}{t2:Nat}{ws:List Nat}{id:Nat}{A:Nd}(hw:WF S)(hT:Tab W F S rt (tbT ws))(hA:(chL ws)[id]? =some A)(h9:A.kind≠9)(h2:S.row r2= .cells t2 (opAdd++(opDot++opOne))):
  Does (tabT tabD) Jdn [envD id, .ptr rt 0, .agg [.sl r2 0 3 7], .snil] S fun v S'=>Gr S S'/\v=addV A:=by
 refine JW tabM JcM rfl hw fun K fin=> ?_;obtain⟨n0,hn0⟩:=nxE S;have l3:lenLV (.sl r2 0 3 7)=some (.int .i64 3, .no):=rfl;have hsub:IntKind.i64.wrap ((3:Int)-1)=2:=by rw[Jx (by omega) (by omega)];rfl
 have mk:∀S:St,mkslV S 1 [.int .i64 0] (.int .i64 2) (.int .i64 3)=some (.slx S.nx 0 2 1 3, .new fun t=> .cells t [.int .i64 0, .int .i64 0, .int .i64 0]):=fun _=>rfl;have mk2:∀S:St,mkslV S 1 [.int .i64 0] (.int .i64 2) (.int .i64 2)=some (.slx S.nx 0 2 1 2, .new fun t=> .cells t [.int .i64 0, .int .i64 0]):=fun _=>rfl;simp only[QF,XY,simprocAttr];rw[Jb];simp only[XY,simprocAttr,hn0];refine JM ?_;intro S1 hS1;have G1:Gr S S1:=by rw[hS1];exact(Gr.new hw (Ja _)).nn (Ja _)
 obtain⟨p4,hp4⟩:=exE (up 0 n0);obtain⟨p6,hp6⟩:=exE (up 1 n0);obtain⟨t4,r4⟩:∃t,S1.row p4= .cells t [.int .i64 (id:Nat), .snil, .snil]:=⟨_,by rw[hS1,hp4];simp only[XZ,simprocAttr,hn0];rfl⟩
 obtain⟨t6,r6⟩:∃t,S1.row p6= .cells t [.sl r2 0 3 7]:=⟨_,by rw[hS1,hp6];simp only[XZ,simprocAttr,hn0];rfl⟩
 rw[<-hp4,<-hp6];clear hS1;obtain⟨n1,hn1⟩:=nxE S1;rw[Jb];simp only[XY,simprocAttr,r6,l3,hsub,mk,hn1];refine JM ?_;intro S2 hS2;have w1:=G1.wf;have G2:Gr S1 S2:=by rw[hS2];exact Gr.new w1 (Ja _)
 obtain⟨pa,hpa⟩:=exE (up 0 n1);obtain⟨ta,ra⟩:∃t,S2.row pa= .cells t [.int .i64 0, .int .i64 0, .int .i64 0]:=⟨_,by rw[hS2,hpa];simp only[XZ,simprocAttr,hn1];rfl⟩
 have pna1:S1.row pa= .none:=by rw[hpa];exact nx0 w1 hn1 0
 rw[<-hpa];clear hS2;have r62:=G2.cells r6;have cut:∀S:St,cutLV S 7 (.sl r2 0 3 7) (some (.int .i64 1)) none none=some (.sl r2 7 2 7, .no):=fun _=>rfl;have l2:lenLV (.sl r2 7 2 7)=some (.int .i64 2, .no):=rfl;have pna:S.row pa= .none:=Ch.fresh (Ch.of (fun _=>False) G1) pna1;have d4a:p4≠pa:=fun e=>Jd r4 (by rw[e];exact pna1);have d6a:p6≠pa:=fun e=>Jd r6 (by rw[e];exact pna1);have G12:=G1.trans G2;obtain⟨Q,hQ⟩:∃Q:St->Int->Prop,∀S' a,Q S' a<->Gr S1 S'/\∃t,S'.row pa= .cells t [.int .i64 a, .int .i64 0, .int .i64 0]:=⟨_,fun _ _=>Iff.rfl⟩
 have ia0:iaddrSV 1 (.slx pa 0 2 1 3) (.int .i64 0)=some (.ptr pa 0, .no):=rfl;have ia1:iaddrSV 1 (.slx pa 0 2 1 3) (.int .i64 1)=some (.ptr pa 1, .no):=rfl;have J0:∃J:Fr->St->Prop,∀fr S',J fr S'<->fr 1= .ptr rt 0/\fr 3= .snil/\fr 6= .ptr p6 0/\fr 10= .slx pa 0 2 1 3/\Q S' id:=⟨_,fun _ _=>Iff.rfl⟩
 obtain⟨J,hJ⟩:=J0;refine Qc J ?_ ?_
 ·rw[Jb];simp only[XY,simprocAttr,r62,cut,l2];obtain⟨L,hL⟩:=loE fun j fr S'=>∃(i:Nat) (a:Int),j+i=2/\fr 1= .ptr rt 0/\fr 3= .snil/\fr 4= .ptr p4 0/\fr 6= .ptr p6 0/\fr 10= .slx pa 0 2 1 3/\fr 26= .sl r2 7 2 7/\fr 27= .int .i64 2/\fr 28= .int .i64 (i:Nat)/\(0<i->a=id)/\Q S' a;refine JK L 2 (by omega) ((hL _ _ _).2 ⟨0,0,by omega,rfl,rfl,rfl,rfl,rfl,rfl,rfl,by simp only[XZ,simprocAttr]<;>rfl,fun h=>absurd h (by omega),(hQ _ _).2 ⟨G2,ta,ra⟩⟩) ?_;intro j fr S3 hLj;obtain⟨i,a,hj,f1,f3,f4,f6,f10,f26,f27,f28,ha,hQ3⟩:=(hL _ _ _).1 hLj;obtain⟨G3,ua,sa⟩:=(hQ _ _).1 hQ3;have w3:=G3.wf;have s4:=G3.cells r4;have s2:=G3.cells (G1.cells h2);obtain⟨n3,hn3⟩:=nxE S3;rcases(by omega:i=0\/i=1\/i=2)with rfl|rfl|rfl
  ·have f28:fr 28= .int .i64 0:=f28;have hi':(0:Int)<2:=by omega
   have hadd1:IntKind.i64.wrap ((0:Int)+1)=((1:Nat):Int):=by rw[Jx (by omega) (by omega)];rfl
   have i0:iaddrSV 7 (.sl r2 7 2 7) (.int .i64 0)=some (.ptr r2 7, .no):=rfl;have d7:ldn (S3.row r2) 7 7=some (.agg opDot, .no):=by rw[s2];rfl
   rw[Jb];simp only[XY,simprocAttr,f27,f28,hi'];rw[Jl];simp only[XY,simprocAttr];rw[Jl];simp only[XY,simprocAttr];rw[Jb];simp only[XY,simprocAttr,f26,f28,i0,d7,hn3];refine JM ?_;intro S4 hS4;have G4:Gr S3 S4:=by rw[hS4];exact(Gr.refl w3).nw hn3 (Ja _) (Ja _)
   obtain⟨p12,hp12⟩:=exE (up 0 n3);obtain⟨t12,r12⟩:∃t,S4.row p12= .cells t opDot:=⟨_,by rw[hS4,hp12];simp only[XZ,simprocAttr,hn3];rfl⟩
   rw[<-hp12];clear hS4;have s44:=G4.cells s4;rw[Jb];simp only[XY,simprocAttr,f1,f4,s44,r12];refine Je (opDotC G4.wf id _) ?_;rintro _ S5 ⟨G5,rfl⟩;have G35:=G4.trans G5;have sa5:=G35.cells sa;simp only[XZ,simprocAttr,f10,f28,ia0,sa5,hadd1];exact⟨1,by omega,(hL _ _ _).2 ⟨1,id,by omega,f1,f3,f4,f6,f10,f26,f27,rfl,fun _=>rfl,(hQ _ _).2 ⟨(G3.trans G35).wr pna1 (Jd sa5) (by rw[sa5];rfl) (Ja _),S5.t,by rw[Jo,if_pos rfl]⟩⟩⟩
  ·have f28:fr 28= .int .i64 1:=f28;have ha:=ha (by omega);subst ha;have hi':(1:Int)<2:=by omega
   have hadd1:IntKind.i64.wrap ((1:Int)+1)=((2:Nat):Int):=by rw[Jx (by omega) (by omega)];rfl
   have i0:iaddrSV 7 (.sl r2 7 2 7) (.int .i64 1)=some (.ptr r2 14, .no):=rfl;have d7:ldn (S3.row r2) 14 7=some (.agg opOne, .no):=by rw[s2];rfl
   rw[Jb];simp only[XY,simprocAttr,f27,f28,hi'];rw[Jl];simp only[XY,simprocAttr];rw[Jl];simp only[XY,simprocAttr];rw[Jb];simp only[XY,simprocAttr,f26,f28,i0,d7,hn3];refine JM ?_;intro S4 hS4;have G4:Gr S3 S4:=by rw[hS4];exact(Gr.refl w3).nw hn3 (Ja _) (Ja _)
   obtain⟨p12,hp12⟩:=exE (up 0 n3);obtain⟨t12,r12⟩:∃t,S4.row p12= .cells t opOne:=⟨_,by rw[hS4,hp12];simp only[XZ,simprocAttr,hn3];rfl⟩
   rw[<-hp12];clear hS4;have s44:=G4.cells s4;rw[Jb];simp only[XY,simprocAttr,f1,f4,s44,r12];refine Je (opOneC id G4.wf (hT.gr (G1.trans (G3.trans G4)))) ?_;rintro _ S5 ⟨G5,rfl⟩;have G35:=G4.trans G5;have sa5:=G35.cells sa;simp only[XZ,simprocAttr,f10,f28,ia1,sa5,hadd1];exact⟨0,by omega,(hL _ _ _).2 ⟨2,id,by omega,f1,f3,f4,f6,f10,f26,f27,rfl,fun _=>rfl,(hQ _ _).2 ⟨(G3.trans G35).wr pna1 (Jd sa5) (by rw[sa5];rfl) (Ja _),S5.t,by rw[Jo,if_pos rfl]⟩⟩⟩
  ·have f28:fr 28= .int .i64 2:=f28;have ha:=ha (by omega);subst ha;have hi':¬(2:Int)<2:=by omega
   simp only[XZ,simprocAttr,f27,f28,hi'];exact(hJ _ _).2 ⟨f1,f3,f6,f10,hQ3⟩
 intro fr S3 hJf;obtain⟨f1,f3,f6,f10,hQ3⟩:=(hJ _ _).1 hJf;obtain⟨G3,ua,sa⟩:=(hQ _ _).1 hQ3;have w3:=G3.wf;obtain⟨n3,hn3⟩:=nxE S3;have la:lenLV (.slx pa 0 2 1 3)=some (.int .i64 2, .no):=rfl;have l0:lenLV .snil=some (.int .i64 0, .no):=rfl;have hadd0:IntKind.i64.wrap ((2:Int)+0)=2:=by rw[Jx (by omega) (by omega)];rfl
 rw[Jb];simp only[XY,simprocAttr,f10,f3,la,l0,hadd0,mk2,hn3];refine JM ?_;intro S4 hS4;have G4:Gr S3 S4:=by rw[hS4];exact Gr.new w3 (Ja _)
 obtain⟨pb,hpb⟩:=exE (up 0 n3);obtain⟨tb,rb⟩:∃t,S4.row pb= .cells t [.int .i64 0, .int .i64 0]:=⟨_,by rw[hS4,hpb];simp only[XZ,simprocAttr,hn3];rfl⟩
 have pbn:S3.row pb= .none:=by rw[hpb];exact nx0 w3 hn3 0
 rw[<-hpb];clear hS4;have sa4:=G4.cells sa;have cp1:copyV S4 1 (.slx pb 0 2 1 2) (.slx pa 0 2 1 3)=some (.int .i64 2, .wr pb tb fun u=> .cells u [.int .i64 (id:Nat), .int .i64 0]):=by
  have cx:cellsX S4 1 2 (.slx pa 0 2 1 3)=some [.int .i64 (id:Nat), .int .i64 0]:=by
   show JD S4 1 2 (.slx pa 0 2 1 3)=_;simp[JD,loadN,sa4]
  have h1:slenX (.slx pa 0 2 1 3)=some 2:=rfl;unfold copyV;rw[h1];simp only[slen,show Nat.min 2 2=2 from rfl,cx];rw[if_neg (by decide)];simp only[ptrOf,JJ,rb];rfl
 have ct2:∀S:St,cutLV S 1 (.slx pb 0 2 1 2) (some (.int .i64 2)) none none=some (.slx pb 2 0 1 0, .no):=fun _=>rfl;have cp2:∀S:St,copyV S 1 (.slx pb 2 0 1 0) .snil=some (.int .i64 0, .no):=fun _=>rfl;rw[Jb];simp only[XY,simprocAttr,f3,f10,cp1,ct2,cp2];obtain⟨S5,hS5⟩:∃S5,S5=S4.wr pb tb fun u=>Row.cells u [.int .i64 (id:Nat), .int .i64 0]:=⟨_,rfl⟩
 have pbS:S.row pb= .none:=Ch.fresh (Ch.of (fun _=>False) (G1.trans G3)) pbn;have G5:Gr S S5:=by rw[hS5];exact((G1.trans G3).trans G4).wr pbS (Jd rb) (by rw[rb];rfl) (Ja _)
 have rb5:S5.row pb= .cells S4.t (ints [id,0]).flatten:=by rw[hS5,Jo,if_pos rfl];rfl
 have r65:S5.row p6= .cells t6 [.sl r2 0 3 7]:=by rw[hS5,Jo,if_neg (fun e=>Jd (G3.cells r6) (by rw[e];exact pbn))];exact(G3.trans G4).cells r6
 have h25:=G5.cells h2;rw[<-hS5];clear hS5;have i0:iaddrSV 7 (.sl r2 0 3 7) (.int .i64 0)=some (.ptr r2 0, .no):=rfl;have d3:ld1 (S5.row r2) 3=some (ofL [97,100,100], .no):=by rw[h25];rfl
 have hTX:TabX S W rt (tbT ws):=⟨hw,F,hT⟩
 have hav:SlAt (fun r=>¬W r) S5 (.slx pb 0 2 1 2) 1 (ints [id,0]):=SlAt.freshx (es:=ints [id,0]) rb5 (hTX.own pbS) (Jew _);obtain⟨y,z,hyz⟩:=JjK A;rw[Jb];simp only[XY,simprocAttr,f1,f6,r65,i0,d3];refine Je (Jpg G5.wf (hT.gr G5) hA h9 hav) ?_;rintro _ S6 ⟨G6,rfl⟩;simp only[XZ,simprocAttr,hyz];exact fin _ _ (fun r e=>(G5.trans G6).same r e) fun _=>hyz.symm
def AddP (S:St)(pv:V):Prop:=∃r1 r2 t1 t2,pv= .slx r1 0 1 1 1/\S.row r1= .cells t1 [.sl r2 0 3 7]/\S.row r2= .cells t2 (opAdd++(opDot++opOne))
theorem AddP.gr {S S':St}{pv:V}(h:AddP S pv)(g:Gr S S'):AddP S' pv:=by
 obtain⟨r1,r2,t1,t2,e,a,b⟩:=h;exact⟨r1,r2,t1,t2,e,g.cells a,g.cells b⟩
theorem ofAdd {W F:Pt->Prop}{S:St}{rt:Pt}{ws:List Nat}{id:Nat}{A:Nd}{pv:V}(hw:WF S)(hT:Tab W F S rt (tbT ws))(hA:(chL ws)[id]? =some A)(h9:A.kind≠9)(hp:AddP S pv)(hv:addV A= .tup [.int .i64 0, .int .i64 0]\/addV A= .tup [.int .i64 0, .int .i64 17]):
  Does (tabT tabD) Jam [.ptr rt 0,envD id,pv] S fun v S'=>Gr S S'/\v=addV A:=by
 refine JW tabM JeZ rfl hw fun K fin=> ?_;obtain⟨q1,q2,t1,t2,rfl,h1,h2⟩:=hp;obtain⟨n0,hn0⟩:=nxE S;simp only[Yz,XY,simprocAttr];rw[Jb];simp only[XY,simprocAttr,hn0];refine JM ?_;intro S1 hS1;have G1:Gr S S1:=by rw[hS1];exact Gr.new hw (Ja _)
 obtain⟨p4,hp4⟩:=exE (up 0 n0);obtain⟨t4,r4⟩:∃t,S1.row p4= .cells t [.int .i64 (id:Nat), .snil, .snil]:=⟨_,by rw[hS1,hp4];simp only[XZ,simprocAttr,hn0];rfl⟩
 rw[<-hp4];clear hS1;have l1:lenLV (.slx q1 0 1 1 1)=some (.int .i64 1, .no):=rfl;rw[Jb];simp only[XY,simprocAttr];rw[Jl,Jb];simp only[XY,simprocAttr,l1];obtain⟨L,hL⟩:=loE fun j fr S'=>fr 14= .int .i64 1/\((j=1/\S'=S1/\fr 0= .ptr rt 0/\fr 4= .ptr p4 0/\fr 8= .snil/\fr 13= .slx q1 0 1 1 1/\fr 15= .int .i64 0)\/(j=0/\Gr S S'/\addV A= .tup [.int .i64 0, .int .i64 0]/\fr 15= .int .i64 1/\∃r,fr 8= .slx r 0 1 1 1/\∃t,S'.row r= .cells t [.int .i64 0]));refine JK L 1 (by omega) ((hL _ _ _).2 ⟨rfl, .inl ⟨rfl,rfl,rfl,rfl,rfl,rfl,rfl⟩⟩) ?_;intro j fr S2 hLj;obtain⟨f14,hLj⟩:=(hL _ _ _).1 hLj;rcases hLj with⟨rfl,rfl,f0,f4,f8,f13,f15⟩|⟨rfl,G2,hv0,f15,r,f8,tr,rr⟩
 rotate_left
 ·have hi':¬(1:Int)<1:=by omega
  simp only[XZ,simprocAttr,f8,f14,f15,hi',rr];exact fin _ _ (fun r e=>G2.same r e) fun _=>hv0.symm
 have hi':(0:Int)<1:=by omega
 have h12:=G1.cells h1;have h22:=G1.cells h2;obtain⟨n1,hn1⟩:=nxE S2;rw[Jb];simp only[XY,simprocAttr,f14,f15,hi'];rw[Jl];simp only[XY,simprocAttr];rw[Jl];simp only[XY,simprocAttr];rw[Jb];simp only[XY,simprocAttr,f13,f15,h12,hn1];refine JM ?_;intro S3 hS3;have w2:=G1.wf;have G3:Gr S2 S3:=by rw[hS3];exact(Gr.refl w2).nw hn1 (Ja _) (Ja _)
 obtain⟨p10,hp10⟩:=exE (up 0 n1);obtain⟨t10,r10⟩:∃t,S3.row p10= .cells t [.sl q2 0 3 7]:=⟨_,by rw[hS3,hp10];simp only[XZ,simprocAttr,hn1];rfl⟩
 rw[<-hp10];clear hS3;have h23:=G3.cells h22;have r43:=G3.cells r4;have l2:lenLV (.sl q2 0 3 7)=some (.int .i64 3, .no):=rfl;have i2:iaddrSV 7 (.sl q2 0 3 7) (.int .i64 0)=some (.ptr q2 0, .no):=rfl;have hadd1:IntKind.i64.wrap ((0:Int)+1)=1:=by rw[Jx (by omega) (by omega)];rfl
 have d0:ld1 (S3.row q2) 0=some (.int .i64 6, .no):=by rw[h23];rfl
 rw[Jb];simp only[XY,simprocAttr];rw[Jb];simp only[XY,simprocAttr];rw[Jl];simp only[XY,simprocAttr];rw[Jb];simp only[XY,simprocAttr,r10,l2];rw[Jb];simp only[XY,simprocAttr,r10,i2,d0];simp only[XZ,simprocAttr,f0,f4,f8,r43,r10];refine Je (callAdd G3.wf (hT.gr (G1.trans G3)) hA h9 h23) ?_;rintro _ S4 ⟨G4,rfl⟩;have G:=(G1.trans G3).trans G4;rcases hv with hv|hv
 ·obtain⟨n4,hn4⟩:=nxE S4;simp only[XZ,simprocAttr,hv,hn4,f14,f15,hadd1];exact⟨0,by omega,(hL _ _ _).2 ⟨f14, .inr ⟨rfl,G.trans (Gr.new G4.wf (Ja _)),hv,rfl,up 0 n4,rfl,S4.t,by simp only[XZ,simprocAttr,hn4]⟩⟩⟩
 ·simp only[XZ,simprocAttr,hv];exact fin _ _ (fun r e=>G.same r e) fun _=>hv.symm
end Go.Proofs.YtcgiahehkobpcaaGreat
