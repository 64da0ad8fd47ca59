/- The document's walk over a type. The document's way to tell Opts in Opts. All types of  -/
import Derived.Test.YtgmmjcgkklgeeaaGreatQ1
set_option maxHeartbeats 16000000
set_option linter.unusedVariables false
set_option linter.unusedSimpArgs false
set_option linter.unusedSectionVars false
set_option maxRecDepth 100000
namespace Go.Proofs.YtgmmjcgkklgeeaaGreat
open Eva Go.RowKit
theorem _root_.Eva.SchC.low {P:Pt->Prop}{st:St}{e:List V}{s:Sch}(h:SchC P st e s)(k:Nat):SchC P {st with low:=k} e s:=h.imp fun r p _=>⟨p,rfl⟩
theorem JqI :∀(m:Nat) (ty:Ty),tsz ty<m->∀(P:Pt->Prop) (st:St) (kr:Pt) (s:Sch) (met:Nat) (E e:List V) (deep:Nat),WF st->SchC P st E s->TyC P st e ty->(∀r,P r->r≠kr)->(∃t,st.row kr= .cells t (E++[.int .i64 met]))->deep<=13->met<=400->s.types.length<=1000->cntT ty<1000000\/True->
  Does (tabT tabD) 60 [.ptr kr 0, .agg e, .int .i64 deep] st fun v st'=>Ch (fun r=>r=kr) st st'/\(∃t,st'.row kr= .cells t (E++[.int .i64 (mayS (hasN s.types) ty deep met).2]))/\v= .int .i64 (mayS (hasN s.types) ty deep met).1
 |0,_,h=>absurd h (by omega)
 | m+1, .mk k nm ns ks,hm=>by
   intro P st kr s met E e deep hw hsch hx hsep hkr hdeep hmet hl _;refine QS tabM (aT Tryz.func60 rfl) rfl hw fun K fin=> ?_;obtain⟨n0,hn0⟩:=nxE st;have hsch0:=hsch;obtain⟨c,tv,sv,rfl,h1,h2,h3⟩:=hsch;obtain⟨nv0,kv0,es0,rfl,x1,x2,x3,x4⟩:=h1.inv;have hx0:=hx;obtain⟨nv,kv,es,rfl,y1,y2,y3,y4⟩:=hx.inv';have l2:=y2.len;rw[y3]at l2;have cs1:=x1.cells;have cs2:=x1.sc;have cs3:=x2.cells;have cs4:=x2.sc;have cv1:=h2.sc;have cv2:=h3.sc;have ct1:=y1.cells;have ct2:=y1.sc;have ct3:=y2.cells;have ct4:=y2.sc;obtain⟨tk,rk⟩:=hkr;have rk:st.row kr= .cells tk [.int .i64 s.main.kind,ofL s.main.name,nv0,kv0,tv,sv, .int .i64 met]:=rk;have hrec:=jM (hasN s.types) k nm ns ks deep met;have kne:=Jz hw hn0 (Jc rk) 0;have one:=nes kne;obtain⟨I,hI⟩:=opE fun fr S=>(Ch (fun r=>r=kr) st S/\fr 0= .ptr kr 0/\fr 2= .int .i64 deep/\fr 4= .ptr (up 0 n0) 0/\(∃u,S.row (up 0 n0)= .cells u [.int .i64 k,ofL nm,nv,kv])/\(∃u,S.row kr= .cells u [.int .i64 s.main.kind,ofL s.main.name,nv0,kv0,tv,sv, .int .i64 ((met+1:Nat):Int)]))
   have hadd:IntKind.i64.wrap ((met:Int)+1)=((met+1:Nat):Int):=by rw[Jo (by omega) (by omega)];rfl
   simp only[CT,Tryz.f60,XY,simprocAttr];rw[Jb];simp only[XY,simprocAttr,hn0,ct1,ct2,ct3,ct4];refine QY I ?_ ?_
   ·have gn:Gr st (st.new fun t=> .cells t [.int .i64 k,ofL nm,nv,kv]):=Gr.new hw (Ja _);have rk1:=gn.cells rk;simp only[XZ,simprocAttr,rk1,hadd];refine(hI _ _).2 ⟨(Ch.of _ gn).wr (Jc rk1) (by rw[rk1];rfl) (.inl rfl) (Ja _),rfl,rfl,rfl,⟨_,by simp only[XZ,simprocAttr,hn0,one];rfl⟩,⟨_,Jm _ _ _ _⟩⟩
   intro fr S hIf;obtain⟨hC,f0,f2,f4,⟨t0,r0⟩,⟨u1,rk1⟩⟩:=(hI _ _).1 hIf;have keepP:∀{S':St},Ch (fun r=>r=kr) st S'->∀r,P r->st.row r≠ .none->P r/\S'.row r=st.row r:=fun c r p e=>⟨p,c.same r e (hsep r p)⟩
   have out:∀(x:Int) (mm:Nat),mayS (hasN s.types) (.mk k nm ns ks) deep met=(x,mm)->∀S',Ch (fun r=>r=kr) st S'->(∃u,S'.row kr= .cells u [.int .i64 s.main.kind,ofL s.main.name,nv0,kv0,tv,sv, .int .i64 (mm:Int)])->K (.int .i64 x) S':=fun x mm hx S' c hr=>fin _ _ (fun r a b=>c.same r a b) fun _=>by rw[hx];exact⟨hr,rfl⟩
   by_cases b1:400<met+1
   ·have b1':(400:Int)<((met+1:Nat):Int):=by omega
    rw[Je,Jb];simp only[XZ,simprocAttr,f0,rk1,b1'];exact out _ _ (by rw[hrec,if_pos b1]) _ hC ⟨_,rk1⟩
   have b1':¬(400:Int)<((met+1:Nat):Int):=by omega
   rw[if_neg b1]at hrec;rw[Je,Jb];simp only[XY,simprocAttr,f0,rk1,b1'];by_cases b2:12<deep
   ·have b2':(12:Int)<(deep:Int):=by omega
    rw[Je,Jb];simp only[XZ,simprocAttr,f2,b2'];exact out _ _ (by rw[hrec,if_pos b2]) _ hC ⟨_,rk1⟩
   have b2':¬(12:Int)<(deep:Int):=by omega
   rw[if_neg b2]at hrec;rw[Je,Jb];simp only[XY,simprocAttr,f2,b2'];have wS:=hC.wf;rw[Jb];simp only[XY,simprocAttr,f0,f4,rk1,r0,cs1,cs2,cs3,cs4,cv1.1,cv1.2,cv2.1,cv2.2,ct1,ct2,ct3,ct4];refine Ji (Jsq (P:=P) (s:=s) (JD wS S.t) ((hsch0.imp (keepP hC)).low S.t) ((hx0.imp (keepP hC)).low S.t) hl) ?_;rintro _ S1 g1 rfl;obtain⟨O,hO⟩:∃O,O=ownS (hasN s.types) (.mk k nm ns ks):=⟨_,rfl⟩
   rw[<-hO]at hrec⊢;have C1:Ch (fun r=>r=kr) st S1:=hC.gr g1;have r01:=g1.cells r0;have rk1:=g1.cells rk1;simp only[XY,simprocAttr,Jj];obtain⟨J,hJ⟩:=opE fun fr S'=>(∃x mm,fr 7= .int .i64 x/\mayS (hasN s.types) (.mk k nm ns ks) deep met=(x,mm)/\Ch (fun r=>r=kr) st S'/\∃u,S'.row kr= .cells u [.int .i64 s.main.kind,ofL s.main.name,nv0,kv0,tv,sv, .int .i64 (mm:Int)])
   refine JM J ?_ ?_
   ·rw[Jb];simp only[XY,simprocAttr];obtain⟨L,hL⟩:=loE fun j fr S'=>∃(i mi:Nat) (x:Int),j+i=ks.length/\fr 0= .ptr kr 0/\fr 2= .int .i64 deep/\fr 4= .ptr (up 0 n0) 0/\fr 7= .int .i64 x/\fr 8= .int .i64 i/\Ch (fun r=>r=kr) st S'/\(∃u,S'.row (up 0 n0)= .cells u [.int .i64 k,ofL nm,nv,kv])/\(∃u,S'.row kr= .cells u [.int .i64 s.main.kind,ofL s.main.name,nv0,kv0,tv,sv, .int .i64 (mi:Int)])/\mayS (hasN s.types) (.mk k nm ns ks) deep met=(if x≠0 then(x,mi)else Jq (hasN s.types) (ks.drop i) (deep+1) mi)/\(x=0->mi<=400);have hlen:ks.length<1000000\/O≠0:=by
     by_cases ho:O=0
     ·left;have hf:ownS (hasN s.types) (.mk k nm ns ks)=if k<1\/9<k then 1 else if ks.length≠KX (.mk k nm ns ks)\/(nm≠[]/\k≠9)\/(0<ns.length/\¬(k=7\/k=8))then 12 else if k=9/\hasN s.types nm=false then 15 else KW (.mk k nm ns ks):=rfl;rw[hO,hf]at ho;by_cases d1:k<1\/9<k
      ·rw[if_pos d1]at ho;cases ho
      rw[if_neg d1]at ho;by_cases d2:ks.length≠KX (.mk k nm ns ks)\/(nm≠[]/\k≠9)\/(0<ns.length/\¬(k=7\/k=8))
      ·rw[if_pos d2]at ho;cases ho
      rw[if_neg d2]at ho;have d3:ks.length=KX (.mk k nm ns ks):=Classical.byContradiction fun h=>d2 (.inl h);by_cases d4:k=9/\hasN s.types nm=false
      ·rw[if_pos d4]at ho;cases ho
      rw[if_neg d4]at ho;have hk8:ns.length<=8:=by
       have hk:KW (.mk k nm ns ks)=if 8<ns.length then 3 else if Kx none ns≠0 then Kx none ns else if k=8/\ns=[]then 12 else 0:=rfl;rw[hk]at ho;by_cases d5:8<ns.length
       ·rw[if_pos d5]at ho;cases ho
       ·omega
      have hks:KX (.mk k nm ns ks)=if k=4\/k=5\/k=6 then 1 else if k=7\/k=8 then ns.length else 0:=rfl;rw[hks]at d3
      split at d3
      ·omega
      split at d3
      ·omega
      ·omega
     ·exact .inr ho
    by_cases ho:O=0;rotate_left
    ·
     refine YY (by decide) ?_;by_cases hz:(0:Int)<ks.length
     ·simp only[XZ,simprocAttr,f4,r01,l2,ho,hz];exact(hJ _ _).2 ⟨O,met+1,rfl,by rw[hrec,if_pos ho],C1,_,rk1⟩
     ·simp only[XZ,simprocAttr,f4,r01,l2,hz];exact(hJ _ _).2 ⟨O,met+1,rfl,by rw[hrec,if_pos ho],C1,_,rk1⟩
    have hlen:ks.length<1000000:=hlen.resolve_right fun h=>h ho;rw[if_neg (fun h=>h ho)]at hrec;refine Jn L ks.length (by omega) ((hL _ _ _).2 ⟨0,met+1,O,by omega,f0,f2,f4,rfl,by simp only[XZ,simprocAttr]<;>rfl,C1,⟨_,r01⟩,⟨_,rk1⟩,by rw[hrec,if_neg (fun h=>h ho)];rfl,fun _=>by omega⟩) ?_;clear f0 f2 f4;intro j fr S2 hLj;obtain⟨i,mi,x,hj,f0,f2,f4,f7,f8,C2,⟨ua,r02⟩,⟨ub,rk2⟩,hrc,hmi⟩:=(hL _ _ _).1 hLj;by_cases hi:i<ks.length
    ·have hi':(i:Int)<ks.length:=by omega
     by_cases hx:x=0
     ·rw[if_neg (fun h=>h hx),List.drop_eq_getElem_cons hi,JT]at hrc;have hx2:LstAt (TyC P S2) P S2 kv 4 ks:=⟨es,y2.imp (keepP C2),y3,fun i a b=>(y4 i a b).imp (keepP C2)⟩
      obtain⟨q,qo,E',a1,a2,a3,a4,hE,e4,a5⟩:=hx2.elem hi;have hadd1:IntKind.i64.wrap ((i:Int)+1)=((i+1:Nat):Int):=by rw[Jo (by omega) (by omega)];rfl
      have haddd:IntKind.i64.wrap ((deep:Int)+1)=((deep+1:Nat):Int):=by rw[Jo (by omega) (by omega)];rfl
      simp only[XZ,simprocAttr,f0,f2,f4,f7,f8,r02,l2,hi',hx,a1,a4,haddd];refine Jd (JqI m ks[i] (by have:=Ym (k:=k) (n:=nm) (ns:=ns) hi;omega) P S2 kr s mi _ E' (deep+1) C2.wf (hsch0.imp (keepP C2)) hE hsep ⟨ub,rk2⟩ (by omega) (hmi hx) hl (.inr trivial)) ?_;rintro _ S3 ⟨c3,⟨u3,rk3⟩,rfl⟩;have rk3:S3.row kr= .cells u3 [.int .i64 s.main.kind,ofL s.main.name,nv0,kv0,tv,sv, .int .i64 ((mayS (hasN s.types) ks[i] (deep+1) mi).2:Nat)]:=rk3;have C3:=C2.trans c3 fun r w=> .inl w;have r03:S3.row (up 0 n0)= .cells ua [.int .i64 k,ofL nm,nv,kv]:=by rw[c3.same _ (Jc r02) (fun h=>kne h.symm),r02]
      have hm4:=K7 (hasN s.types) ks[i] (deep+1) mi (hmi hx);simp only[XZ,simprocAttr,f8,hadd1];exact⟨ks.length-(i+1),by omega,(hL _ _ _).2 ⟨i+1,_,_,by omega,f0,f2,f4,rfl,rfl,C3,⟨ua,r03⟩,⟨u3,rk3⟩,hrc,hm4.2⟩⟩
     ·rw[if_pos hx]at hrc;simp only[XZ,simprocAttr,f4,f7,f8,r02,l2,hi',hx];exact(hJ _ _).2 ⟨x,mi,f7,hrc,C2,ub,rk2⟩
    ·have hi':¬(i:Int)<ks.length:=by omega
     simp only[XZ,simprocAttr,f4,f7,f8,r02,l2,hi'];refine(hJ _ _).2 ⟨x,mi,f7, ?_,C2,ub,rk2⟩;rw[hrc,List.drop_eq_nil_of_le (by omega),KR];by_cases hx:x=0
     ·rw[if_neg (fun h=>h hx),hx]
     ·rw[if_pos hx]
   intro fr S2 hJf;obtain⟨x,mm,f7,hxm,C2,hr⟩:=(hJ _ _).1 hJf;simp only[XZ,simprocAttr,f7];exact out _ _ hxm _ C2 hr
theorem JeR (l:List (Str×Ty))(t:Ty){i:Nat}(h:(KO l i t).kind≠9):∀j,KO l (i+j) t=KO l i t
 |0=>rfl
 | j+1=>by
   rw[<-Nat.add_assoc,kL,JeR l t h j,if_neg h]
theorem Jry {P:Pt->Prop}{st:St}{E e:List V}{s:Sch}{t:Ty}(hw:WF st)(h:SchC P st E s)(ht:TyC P st e t)(hP:∀r,P r->st.row r≠ .none)(hl:s.types.length<=100):
  Does (tabT tabD) 95 [.agg E, .agg e] st fun v S=>Gr st S/\∃e',v= .agg e'/\TyC P st e' (KO s.types (s.types.length+1) t):=by
 refine Ju tabM (aT Tryz.func95 rfl) rfl hw fun K fin=> ?_;obtain⟨n0,hn0⟩:=nxE st;have hsch:=h;obtain⟨c,tv,sv,rfl,h1,h2,h3⟩:=h;obtain⟨l,hll⟩:∃l,l=s.types:=⟨_,rfl⟩
 rw[<-hll]at h2 hl fin;obtain⟨nv0,kv0,es0,rfl,x1,x2,x3,x4⟩:=h1.inv;have ht0:=ht;obtain⟨nv,kv,es,rfl,y1,y2,y3,y4⟩:=ht.inv;have l1:=h2.len;have cs1:=x1.cells;have cs2:=x1.sc;have cs3:=x2.cells;have cs4:=x2.sc;have cv1:=h2.sc;have cv2:=h3.sc;have ct1:=y1.cells;have ct2:=y1.sc;have ct3:=y2.cells;have ct4:=y2.sc;obtain⟨I,hI⟩:=opE fun fr S=>(Gr st S/\fr 2= .ptr (up 0 n0) 0/\fr 3= .ptr (up 1 n0) 0/\fr 4= .ptr (up 2 n0) 0/\(∃u,S.row (up 0 n0)= .cells u [.int .i64 s.main.kind,ofL s.main.name,nv0,kv0,tv,sv])/\(∃u,S.row (up 1 n0)= .cells u [.int .i64 t.kind,ofL t.name,nv,kv])/\(∃u,S.row (up 2 n0)= .cells u [.int .i64 0,ofL [], .snil, .snil]))
 simp only[CT,Tryz.f95,XY,simprocAttr];refine QY I ?_ ?_
 ·simp only[XZ,simprocAttr,hn0,cs1,cs2,cs3,cs4,cv1.1,cv1.2,cv2.1,cv2.2,ct1,ct2,ct3,ct4];exact(hI _ _).2 ⟨((Gr.new hw (Ja _)).nn (Ja _)).nn (Ja _),rfl,rfl,rfl,⟨_,by simp only[XZ,simprocAttr,hn0];rfl⟩,⟨_,by simp only[XZ,simprocAttr,hn0];rfl⟩,⟨_,by simp only[XZ,simprocAttr,hn0];rfl⟩⟩
 intro fr S hIf;obtain⟨g0,f2,f3,f4,⟨t0,r0⟩,⟨t1,r1⟩,⟨t2,r2⟩⟩:=(hI _ _).1 hIf;rw[Je,Jb];simp only[XY,simprocAttr];have kne:=fun r (e:st.row r≠ .none) (k:Nat)=>Jz hw hn0 e k;have o01:up 0 n0≠up 1 n0:=by rw[jE];decide
 have o21:up 2 n0≠up 1 n0:=by rw[jE];decide
 obtain⟨L,hL⟩:=loE fun j fr S'=>∃(i:Nat) (c:List V),j+i=l.length+1/\fr 2= .ptr (up 0 n0) 0/\fr 3= .ptr (up 1 n0) 0/\fr 4= .ptr (up 2 n0) 0/\fr 5= .int .i64 i/\Gr st S'/\(∃u,S'.row (up 0 n0)= .cells u [.int .i64 s.main.kind,ofL s.main.name,nv0,kv0,tv,sv])/\(∃u,S'.row (up 1 n0)= .cells u c)/\(∃u,S'.row (up 2 n0)= .cells u [.int .i64 0,ofL [], .snil, .snil])/\TyC P st c (KO l i t);refine Jn L (l.length+1) (by omega) ((hL _ _ _).2 ⟨0,_,by omega,f2,f3,f4,by simp only[XZ,simprocAttr]<;>rfl,g0,⟨_,r0⟩,⟨_,r1⟩,⟨_,r2⟩,ht0⟩) ?_;clear f2 f3 f4 r0 r1 r2;intro j fr S' hLj;obtain⟨i,c,hj,f2,f3,f4,f5,hg,⟨u0,r0⟩,⟨u1,r1⟩,⟨u2,r2⟩,hc⟩:=(hL _ _ _).1 hLj;obtain⟨T,hT⟩:∃T,T=KO l i t:=⟨_,rfl⟩
 rw[<-hT]at hc;have hlast:=kL l i t;rw[<-hT]at hlast;have hc0:=hc;obtain⟨nv1,kv1,es1,rfl,z1,z2,z3,z4⟩:=hc.inv;have d1:=z1.cells;have d2:=z1.sc;have d3:=z2.cells;have d4:=z2.sc;have done:KO l (l.length+1) t=T->K (.agg [.int .i64 T.kind,ofL T.name,nv1,kv1]) (S'.wr (up 2 n0) u2 fun u=> .cells u [.int .i64 T.kind,ofL T.name,nv1,kv1]):=fun hh=>by
  refine fin _ _ (fun r e=> ?_) fun _=>⟨_,rfl,by rw[hh];exact hc0⟩
  rw[Jl _ _ _ (kne r e 2),hg.same r e]
 by_cases hi:i<=l.length
 ·have hi':(i:Int)<=l.length:=by omega
  by_cases k9:T.kind=9
  ·have hadd1:IntKind.i64.wrap ((i:Int)+1)=((i+1:Nat):Int):=by rw[Jo (by omega) (by omega)];rfl
   simp only[XZ,simprocAttr,f2,f3,f5,r0,l1,hi',r1,k9,cs1,cs2,cs3,cs4,cv1.1,cv1.2,cv2.1,cv2.2];refine Jd (JqH (P:=P) (s:=s) T.name hg.wf (hsch.imp fun r p e=>⟨p,hg.same r e⟩) (by rw[<-hll];omega)) ?_;rw[<-hll];rintro _ S2 ⟨g2,E',rfl,hE⟩;have hE:TyC P st E' ((defN l T.name).getD Qu):=hE.imp fun r p e=>⟨p,(hg.same r (hP r p)).symm⟩
   have r02:=g2.cells r0;have r12:=g2.cells r1;have r22:=g2.cells r2;obtain⟨nv2,kv2,es2,rfl,w1,w2,w3,w4⟩:=hE.inv;have e1:=w1.cells;have e2:=w1.sc;have e3:=w2.cells;have e4:=w2.sc;have G2:=hg.trans g2;have g3:=G2.wr (p:=up 1 n0) (t:=u1) (f:=fun u=> .cells u [.int .i64 ((defN l T.name).getD Qu).kind,ofL ((defN l T.name).getD Qu).name,nv2,kv2]) (nx0 hw hn0 1) (Jc r12) (by rw[r12];rfl) (Ja _);simp only[XZ,simprocAttr,f3,f5,r12,e1,e2,e3,e4,hadd1];exact⟨l.length+1-(i+1),by omega,(hL _ _ _).2 ⟨i+1,_,by omega,f2,f3,f4,rfl,g3,⟨u0,by rw[Jl _ _ _ o01,r02]⟩,⟨_,Jm _ _ _ _⟩,⟨u2,by rw[Jl _ _ _ o21,r22]⟩,by rw[hlast,if_pos k9];exact hE⟩⟩
  ·have hst:KO l (l.length+1) t=T:=by
    have:=JeR l t (i:=i) (by rw[<-hT];exact k9) (l.length+1-i);rw[show i+(l.length+1-i)=l.length+1 by omega]at this;rw[this,hT]
   simp only[XZ,simprocAttr,f2,f3,f4,f5,r0,l1,hi',r1,r2,k9,d1,d2,d3,d4];exact done hst
 ·have hi':¬(i:Int)<=l.length:=by omega
  have hie:i=l.length+1:=by omega
  simp only[XZ,simprocAttr,f2,f3,f4,f5,r0,l1,hi',r1,r2,d1,d2,d3,d4];exact done (by rw[hT,hie])
theorem JoC :∀(m:Nat) (ty:Ty),tsz ty<m->∀(P:Pt->Prop) (st:St) (s:Sch) (E e:List V),WF st->SchC P st E s->TyC P st e ty->(∀r,P r->st.row r≠ .none)->s.types.length<=100->cntT ty<1000000->okO ty=true->
  Does (tabT tabD) 64 [.agg E, .agg e] st fun v st'=>Gr st st'/\v= .bool (Yt s.types ty)
 |0,_,h=>absurd h (by omega)
 | m+1, .mk k nm ns ks,hm=>by
   intro P st s E e hw hsch hx hP hl hsz hok;refine Ju tabM (aT Tryz.func64 rfl) rfl hw fun K fin=> ?_;obtain⟨n0,hn0⟩:=nxE st;have hsch0:=hsch;obtain⟨c,tv,sv,rfl,h1,h2,h3⟩:=hsch;obtain⟨nv0,kv0,es0,rfl,x1,x2,x3,x4⟩:=h1.inv;obtain⟨nv,kv,es,rfl,y1,y2,y3,y4⟩:=hx.inv';have l2:=y2.len;rw[y3]at l2;have cs1:=x1.cells;have cs2:=x1.sc;have cs3:=x2.cells;have cs4:=x2.sc;have cv1:=h2.sc;have cv2:=h3.sc;have ct1:=y1.cells;have ct2:=y1.sc;have ct3:=y2.cells;have ct4:=y2.sc;have hS:=Jit s.types k nm ns ks;rw[Jey]at hS;rw[Jn1,Bool.and_eq_true,Bool.or_eq_true,decide_eq_true_eq,decide_eq_true_eq]at hok;have hlen:ks.length<1000000:=by have h1:=JbL ks;rw[Yq]at hsz;omega
   obtain⟨I,hI⟩:=opE fun fr S=>(Gr st S/\fr 2= .ptr (up 0 n0) 0/\fr 3= .ptr (up 1 n0) 0/\(∃u,S.row (up 0 n0)= .cells u [.int .i64 s.main.kind,ofL s.main.name,nv0,kv0,tv,sv])/\(∃u,S.row (up 1 n0)= .cells u [.int .i64 k,ofL nm,nv,kv]))
   simp only[CT,Tryz.f64,XY,simprocAttr];refine QY I ?_ ?_
   ·simp only[XZ,simprocAttr,hn0,cs1,cs2,cs3,cs4,cv1.1,cv1.2,cv2.1,cv2.2,ct1,ct2,ct3,ct4];exact(hI _ _).2 ⟨(Gr.new hw (Ja _)).nn (Ja _),rfl,rfl,⟨_,by simp only[XZ,simprocAttr,hn0];rfl⟩,⟨_,by simp only[XZ,simprocAttr,hn0];rfl⟩⟩
   intro fr S hIf;obtain⟨g0,f2,f3,⟨t0,r0⟩,⟨t1,r1⟩⟩:=(hI _ _).1 hIf;have out:∀b,Yt s.types (.mk k nm ns ks)=b->∀S',Gr S S'->K (.bool b) S':=fun b hb S' g=>fin _ _ (fun r e=>(g0.trans g).same r e) fun _=>by rw[hb]
   have kid:∀{S':St} {i:Nat} (hi:i<ks.length),Gr S S'->∃q o E,JJ 4 kv (.int .i64 i)=some (.ptr q o, .no)/\ldn (S'.row q) o 4=some (.agg E, .no)/\TyC P S' E ks[i]:=fun{S' i} hi g=>by
    have G:=g0.trans g;have hx2:LstAt (TyC P S') P S' kv 4 ks:=⟨es,y2.gr G,y3,fun i a b=>(y4 i a b).gr G⟩
    obtain⟨q,qo,E',a1,a2,a3,a4,hE,e4,a5⟩:=hx2.elem hi;exact⟨q,qo,E',a1,a4,hE⟩
   have PS:∀{S':St},Gr S S'->∀r,P r->S'.row r≠ .none:=fun g r p=>by rw[(g0.trans g).same r (hP r p)];exact hP r p
   obtain⟨J,hJ⟩:=opE fun fr S'=>(Gr S S'/\fr 2= .ptr (up 0 n0) 0/\fr 3= .ptr (up 1 n0) 0/\Yt s.types (.mk k nm ns ks)=ks.any (Yt s.types))
   refine JM J ?_ ?_
   ·by_cases k6:k=6
    ·have h0:0<ks.length:=hok.1.resolve_left fun h=>h k6;obtain⟨q,o,E',a1,a2,a3⟩:=kid h0 (Gr.refl g0.wf);have a1:JJ 4 kv (.int .i64 0)=some (.ptr q o, .no):=a1;have hd:ks.headD Qu=ks[0]:=by cases ks with
      |nil=>simp at h0
      |cons a r=>rfl
     rw[if_pos k6,hd]at hS;rw[Jb];simp only[XY,simprocAttr,f2,f3,r0,r1,k6,cs1,cs2,cs3,cs4,cv1.1,cv1.2,cv2.1,cv2.2,a1,a2];refine Ji (Jry (P:=P) (s:=s) (JD g0.wf S.t) ((hsch0.imp fun r p e=>⟨p,g0.same r e⟩).low S.t) (a3.low S.t) (fun r p=>PS (Gr.refl g0.wf) r p) hl) ?_;rintro _ S2 g2 ⟨e',rfl,he'⟩;obtain⟨nv2,kv2,es2,rfl,w1,w2,w3,w4⟩:=he'.inv;obtain⟨T,hT⟩:∃T,T=KO s.types (s.types.length+1) ks[0]:=⟨_,rfl⟩
     rw[<-hT]at hS⊢;by_cases t6:T.kind=6
     ·rw[decide_eq_true t6,Bool.true_or]at hS;simp only[XZ,simprocAttr,t6,Jj];exact out _ hS _ g2
     ·rw[decide_eq_false t6,Bool.false_or]at hS;simp only[XZ,simprocAttr,t6,Jj];exact(hJ _ _).2 ⟨g2,f2,f3,hS⟩
    ·rw[if_neg k6,Bool.false_or]at hS;rw[Jb];simp only[XZ,simprocAttr,f3,r1,k6,Jj];exact(hJ _ _).2 ⟨Gr.refl g0.wf,f2,f3,hS⟩
   clear f2 f3 hIf hI;intro fr S1 hJf;obtain⟨g1,f2,f3,hS⟩:=(hJ _ _).1 hJf;rw[Je,Jb];simp only[XY,simprocAttr];obtain⟨L,hL⟩:=loE fun j fr S'=>∃(i:Nat),j+i=ks.length/\fr 2= .ptr (up 0 n0) 0/\fr 3= .ptr (up 1 n0) 0/\fr 5= .int .i64 i/\Gr S S'/\ks.any (Yt s.types)=(ks.drop i).any (Yt s.types);refine Jn L ks.length (by omega) ((hL _ _ _).2 ⟨0,by omega,f2,f3,by simp only[XZ,simprocAttr]<;>rfl,g1,rfl⟩) ?_;clear f2 f3;intro j fr S' hLj;obtain⟨i,hj,f2,f3,f5,hg,hrec⟩:=(hL _ _ _).1 hLj;have r0:=hg.cells r0;have r1:=hg.cells r1;by_cases hi:i<ks.length
   ·have hi':(i:Int)<ks.length:=by omega
    have hadd1:IntKind.i64.wrap ((i:Int)+1)=((i+1:Nat):Int):=by rw[Jo (by omega) (by omega)];rfl
    obtain⟨q,o,E',a1,a2,a3⟩:=kid hi hg;have hc1:=jf hi;have hc2:=Yq k nm ns ks;rw[List.drop_eq_getElem_cons hi,List.any_cons]at hrec;simp only[XZ,simprocAttr,f2,f3,f5,r0,r1,l2,hi',cs1,cs2,cs3,cs4,cv1.1,cv1.2,cv2.1,cv2.2,a1,a2];refine Ji (JoC m ks[i] (by have:=Ym (k:=k) (n:=nm) (ns:=ns) hi;omega) P _ s _ E' (JD hg.wf S'.t) ((hsch0.imp fun r p e=>⟨p,(g0.trans hg).same r e⟩).low S'.t) (a3.low S'.t) (fun r p=>PS hg r p) hl (by omega) (JbV hok.2 _ (List.getElem_mem hi))) ?_;rintro _ S2 g2 rfl
    cases hb:Yt s.types ks[i]with
    | true=>
      rw[hb,Bool.true_or]at hrec;simp only[XZ,simprocAttr,Jj];exact out _ (by rw[hS,hrec]) _ (hg.trans g2)
    | false=>
      rw[hb,Bool.false_or]at hrec;simp only[XZ,simprocAttr,Jj,f5,hadd1];exact⟨ks.length-(i+1),by omega,(hL _ _ _).2 ⟨i+1,by omega,f2,f3,rfl,hg.trans g2,hrec⟩⟩
   ·have hi':¬(i:Int)<ks.length:=by omega
    rw[List.drop_eq_nil_of_le (by omega)]at hrec;simp only[XZ,simprocAttr,f3,f5,r1,l2,hi'];exact out _ (by rw[hS,hrec];rfl) _ hg
theorem Ji0 (l:List Sg)(f:Sg):KU (l++[f])=KU l++(f.params++[f.result]):=by unfold KU;simp
theorem Jbh :∀(l:List Sg),(∀f∈l,f.params.length<=100)->(KU l).length<=101*l.length
 |[],_=>Nat.zero_le _
 | f::l,h=>by
   have ih:=Jbh l fun g hg=>h g (List.mem_cons_of_mem _ hg);have:=h f (by simp);have e:(KU (f::l)).length=f.params.length+1+(KU l).length:=by unfold KU;simp;omega
   rw[e,List.length_cons];omega
theorem Jsr {P Q:Pt->Prop}{st:St}{e:List V}{s:Sch}(hw:WF st)(h:SchC P st e s)(hl1:s.types.length<=1000)(hl2:s.sigs.length<=1000)(hl3:∀f∈s.sigs,f.params.length<=100)(hQ:∀r,P r->Q r)(hN:∀r,st.row r= .none->Q r):
  Does (tabT tabD) 63 [.agg e] st fun v' st'=>Gr st st'/\LstAt (TyC Q st') Q st' v' 4 (Qj s):=by
 refine Ju tabM (aT Tryz.func63 rfl) rfl hw fun K fin=> ?_;obtain⟨n,hn0⟩:=nxE st;obtain⟨c,tv,sv,rfl,h1,h2,h3⟩:=h;obtain⟨M,hM⟩:∃M,M=s.main:=⟨_,rfl⟩
 obtain⟨l,hl⟩:∃l,l=s.types:=⟨_,rfl⟩
 obtain⟨fs,hfs⟩:∃l,l=s.sigs:=⟨_,rfl⟩
 have hev:Qj s=l.map Prod.snd++[M]++KU fs:=by rw[hM,hl,hfs];rfl
 rw[hev]at fin;rw[<-hM]at h1;rw[<-hl]at h2 hl1;rw[<-hfs]at h3 hl2 hl3;obtain⟨nv,kv,es,rfl,x1,x2,x3,x4⟩:=h1.inv;have h1':TyC P st [.int .i64 M.kind,ofL M.name,nv,kv] M:=h1;have l1:=h2.len;have l2:=h3.len;simp only[CT,Tryz.f63,XY,simprocAttr];rw[Jb];simp only[XY,simprocAttr,hn0,x1.sc,x2.sc,x1.cells,x2.cells,h2.sc.1,h3.sc.1];obtain⟨S0,hS0⟩:=exE (st.new fun t=> .cells t [.int .i64 M.kind,ofL M.name,nv,kv,tv,sv]);have g0:Gr st S0:=by rw[hS0];exact Gr.new hw (Ja _)
 obtain⟨t0,r0⟩:∃t,S0.row (up 0 n)= .cells t [.int .i64 M.kind,ofL M.name,nv,kv,tv,sv]:=⟨_,by rw[hS0];simp only[XZ,simprocAttr,hn0];rfl⟩
 rw[<-hS0];clear hS0;have hM0:TyC P S0 [.int .i64 M.kind,ofL M.name,nv,kv] M:=h1'.gr g0;have h2:LstAt (NmC P S0) P S0 tv 5 l:=h2.imp (fun e x h=>h.imp fun r p e=>⟨p,g0.same r e⟩) fun r p e=>⟨p,g0.same r e⟩
 have h3:LstAt (SgC P S0) P S0 sv 6 fs:=h3.imp (fun e x h=>h.imp fun r p e=>⟨p,g0.same r e⟩) fun r p e=>⟨p,g0.same r e⟩
 have hN:∀r,S0.row r= .none->Q r:=fun r h=>hN r (Ch.fresh (Ch.of (fun _=>False) g0) h);have c1:=x1.cells;have c2:=x1.sc;have c3:=x2.cells;have c4:=x2.sc;rw[Jb];simp only[XY,simprocAttr];obtain⟨J,hJ⟩:=opE fun fr S=>(∃v,fr 1= .ptr (up 0 n) 0/\fr 3=v/\Gr S0 S/\TysF P S0 S v (l.map Prod.snd))
 refine JM J ?_ ?_
 ·rw[Jb];simp only[XY,simprocAttr];obtain⟨I,hI⟩:=loE fun j fr S=>∃(i:Nat) (v:V),j+i=l.length/\fr 1= .ptr (up 0 n) 0/\fr 3=v/\fr 4= .int .i64 i/\Gr S0 S/\TysF P S0 S v ((l.take i).map Prod.snd);refine Jn I l.length (by omega) ((hI _ _ _).2 ⟨0, .snil,by omega,rfl,rfl,by simp only[XZ,simprocAttr]<;>rfl,Gr.refl g0.wf,TysF.nil _ _ _⟩) ?_;intro j fr S hIj;obtain⟨i,v,hj,f1,f3,f4,hg,hv⟩:=(hI _ _ _).1 hIj;have rS:=hg.cells r0;by_cases hi:i<l.length
  ·have hi':(i:Int)<l.length:=by omega
   obtain⟨r,q,nv1,kv1,a1,a3,a4,hty,d1,d2,d3,d4⟩:=JcW h2 (fun r e=>hg.same r e) hi;have a6:=qT (a:=1) (b:=4) a4;have a6:ldn (S.row r) (q+1) 4=some (.agg [.int .i64 l[i].2.kind,ofL l[i].2.name,nv1,kv1], .no):=a6;have wS:=hg.wf;obtain⟨nS,hnS⟩:=nxE S;have hadd1:IntKind.i64.wrap ((i:Int)+1)=((i+1:Nat):Int):=by rw[Jo (by omega) (by omega)];rfl
   have htk:(l.take (i+1)).map Prod.snd=(l.take i).map Prod.snd++[l[i].2]:=by rw[List.take_succ_eq_append_getElem hi,List.map_append];rfl
   obtain⟨T,hT⟩:∃T,T=l[i].2:=⟨_,rfl⟩
   rw[<-hT]at hty htk a6;simp only[XZ,simprocAttr,f1,f3,f4,rS,l1,hi',a1,a6,hnS,d1,d2,d3,d4];have gn:Gr S (S.new fun t=> .cells t [.int .i64 T.kind,ofL T.name,nv1,kv1]):=Gr.new wS (Ja _);refine kg (ts':=[T]) (hg.trans gn) (hv.gr gn) (Ja8 hnS hty.four) rfl (fun i a b=>by
    have:i=0:=by simpa using a
    subst this;exact hty) (by simp) (by simp;omega) ?_
   intro S2 v2 g2 h5 rv kp;rw[<-htk]at h5;simp only[XZ,simprocAttr,f4,hadd1];exact⟨l.length-(i+1),by omega,(hI _ _ _).2 ⟨i+1,v2,by omega,f1,rfl,rfl,g2,h5⟩⟩
  ·have hi':¬(i:Int)<l.length:=by omega
   simp only[XZ,simprocAttr,f1,f4,rS,l1,hi'];rw[List.take_of_length_le (by omega)]at hv;exact(hJ _ _).2 ⟨v,f1,f3,hg,hv⟩
 intro fr S hJf;obtain⟨v,f1,f3,hg,hv⟩:=(hJ _ _).1 hJf;have r1:=hg.cells r0;have wS:=hg.wf;obtain⟨nS,hnS⟩:=nxE S;rw[Jb];simp only[XY,simprocAttr,f1,f3,r1,hnS,c1,c2,c3,c4];have gn:Gr S (S.new fun t=> .cells t [.int .i64 M.kind,ofL M.name,nv,kv]):=Gr.new wS (Ja _);refine kg (ts':=[M]) (hg.trans gn) (hv.gr gn) (Ja8 hnS hM0.four) rfl (fun i a b=>by
  have:i=0:=by simpa using a
  subst this;exact hM0) (by simp) (by simp;omega) ?_
 intro S2 v2 g2 h5 _ _;simp only[XY,simprocAttr];obtain⟨J2,hJ2⟩:=opE fun fr S=>(∃v,fr 3=v/\Gr S0 S/\TysF P S0 S v (l.map Prod.snd++[M]++KU fs))
 refine JM J2 ?_ ?_
 ·rw[Jb];simp only[XY,simprocAttr];obtain⟨I,hI⟩:=loE fun j fr S=>∃(i:Nat) (v:V),j+i=fs.length/\fr 1= .ptr (up 0 n) 0/\fr 3=v/\fr 5= .int .i64 i/\Gr S0 S/\TysF P S0 S v (l.map Prod.snd++[M]++KU (fs.take i));refine Jn I fs.length (by omega) ((hI _ _ _).2 ⟨0,v2,by omega,f1,rfl,by simp only[XZ,simprocAttr]<;>rfl,g2,by rw[List.take_zero];unfold KU;simpa using h5⟩) ?_;clear f1 f3;intro j fr S hIj;obtain⟨i,v,hj,f1,f3,f5,hg,hv⟩:=(hI _ _ _).1 hIj;have rS:=hg.cells r0;by_cases hi:i<fs.length
  ·have hi':(i:Int)<fs.length:=by omega
   obtain⟨r,q,pv,nv1,kv1,a1,a3,a4,⟨ep,p1,p2,p3⟩,hres,⟨d5,d6⟩,d1,d2,d3,d4⟩:=Jii h3 (fun r e=>hg.same r e) hi;have hadd1:IntKind.i64.wrap ((i:Int)+1)=((i+1:Nat):Int):=by rw[Jo (by omega) (by omega)];rfl
   obtain⟨f,hf⟩:∃f,f=fs[i]:=⟨_,rfl⟩
   have htk:KU (fs.take (i+1))=KU (fs.take i)++(f.params++[f.result]):=by rw[List.take_succ_eq_append_getElem hi,Ji0,hf]
   have hfl:=hl3 f (by rw[hf];exact List.getElem_mem hi);have htl:=Jbh (fs.take i) fun g hg=>hl3 g (List.mem_of_mem_take hg);rw[List.length_take]at htl;rw[<-hf]at a4 hres p2 p3;have a5:=Jaw a4 (j:=1) (by decide) rfl;rw[Je,Jb];simp only[XY,simprocAttr,f1,f5,rS,l2,hi'];rw[Je];simp only[XY,simprocAttr];rw[Jb];simp only[XY,simprocAttr,f1,f3,f5,rS,a1,a5];refine kg (ts':=f.params) hg hv (p1.gr hg) p2 p3 (by omega) (by simp;omega) ?_;intro S2 v2 g2 h5 rv kp;have r2:=g2.cells r0;obtain⟨r',q',pv',nv2,kv2,b1,b3,b4,_,hres2,_,e1,e2,e3,e4⟩:=Jii h3 (fun r e=>g2.same r e) hi;rw[<-hf]at b4 hres2;have b6:=qT (a:=2) (b:=4) b4;have b6:ldn (S2.row r') (q'+2) 4=some (.agg [.int .i64 f.result.kind,ofL f.result.name,nv2,kv2], .no):=b6;have w2:=g2.wf;obtain⟨n2,hn2⟩:=nxE S2;simp only[XY,simprocAttr,f1,f5,r2,b1,b6,hn2,e1,e2,e3,e4];have gn:Gr S2 (S2.new fun t=> .cells t [.int .i64 f.result.kind,ofL f.result.name,nv2,kv2]):=Gr.new w2 (Ja _);refine kg (ts':=[f.result]) (g2.trans gn) (h5.gr gn) (Ja8 hn2 hres2.four) rfl (fun i a b=>by
    have:i=0:=by simpa using a
    subst this;exact hres2) (by simp) (by simp;omega) ?_
   intro S3 v3 g3 h6 _ _;have h6:TysF P S0 S3 v3 (l.map Prod.snd++[M]++KU (fs.take (i+1))):=by rw[htk];simpa using h6
   simp only[XZ,simprocAttr,f5,hadd1];exact⟨fs.length-(i+1),by omega,(hI _ _ _).2 ⟨i+1,v3,by omega,f1,rfl,rfl,g3,h6⟩⟩
  ·have hi':¬(i:Int)<fs.length:=by omega
   simp only[XZ,simprocAttr,f1,f5,rS,l2,hi'];rw[List.take_of_length_le (by omega)]at hv;exact(hJ2 _ _).2 ⟨v,f3,hg,hv⟩
 intro fr S hJf;obtain⟨v,f3,hg,hv⟩:=(hJ2 _ _).1 hJf;simp only[XZ,simprocAttr,f3];exact fin _ _ (fun r e=>(g0.trans hg).same r e) fun _=>hv.lst hg hQ hN
theorem JeS (has:Str->Bool)(t:Ty)(deep:Nat):∀(l:List Ty) (met:Nat),Jq has (l++[t]) deep met=if(Jq has l deep met).1≠0 then Jq has l deep met else mayS has t deep (Jq has l deep met).2
 | [],met=>by
   by_cases h:(mayS has t deep met).1=0
   ·simp only[List.nil_append,JT,KR,h,ne_eq,not_true_eq_false,if_false];exact Prod.ext h.symm rfl
   ·simp only[List.nil_append,JT,KR,h,ne_eq,not_true_eq_false,not_false_eq_true,if_false,if_true]
 | a::l,met=>by
   by_cases h:(mayS has a deep met).1=0
   ·simp only[List.cons_append,JT,h,ne_eq,not_true_eq_false,if_false];exact JeS has t deep l _
   ·simp only[List.cons_append,JT,h,ne_eq,not_false_eq_true,if_true]
theorem Jf8 (has:Str->Bool):∀(p:Option Str) (fs:List Sg) (met:Nat),(KN has p fs met).1=0->∀f∈fs,okOs (f.params++[f.result])=true
 |p,[],met,h=>fun f h=>by cases h
 | p,f::r,met,h=>by
   rw[Y0]at h
   split at h
   ·cases h
   split at h
   ·cases h
   split at h
   ·cases h
   split at h
   ·rename_i c4;exact absurd h c4
   rename_i c4
   intro g hg;rcases List.mem_cons.1 hg with rfl|hg
   ·exact Jav has _ _ _ (by simpa using c4)
   ·exact Jf8 has (some f.name) r _ h g hg
theorem JoD {p:Option Str}{n:Str}{r:List Str}(h1:QZ n=false)(h2:Ka p n=false):Kd p (n::r)=Kd (some n) r:=by
 rw[Kd,if_neg (by rw[h1];simp),if_neg (by rw[h2];simp)]
theorem JpO {P:Pt->Prop}{st:St}{e1:List V}{s:Sch}(hw:WF st)(h:SchC P st e1 s)(hP:∀r,P r->st.row r≠ .none):
  Does (tabT tabD) 30 [.agg e1] st fun v' st'=>Gr st st'/\v'= .int .i64 (refS s):=by
 refine Ju tabM (aT Tryz.func30 rfl) rfl hw fun K fin=> ?_;obtain⟨n,hn0⟩:=nxE st;have hev:=JfT s;have hsch:=h;obtain⟨c,tv,sv,rfl,h1,h2,h3⟩:=h;obtain⟨M,hM⟩:∃M,M=s.main:=⟨_,rfl⟩
 obtain⟨l,hll⟩:∃l,l=s.types:=⟨_,rfl⟩
 obtain⟨fs,hfs⟩:∃l,l=s.sigs:=⟨_,rfl⟩
 have hchk:refS s=
  if 12<l.length\/12<fs.length then 3 else
  if Kd none (l.map Prod.fst)≠0 then Kd none (l.map Prod.fst)else
  if(Jq (hasN l) (l.map Prod.snd) 1 0).1≠0 then(Jq (hasN l) (l.map Prod.snd) 1 0).1 else
  if(mayS (hasN l) M 1 (Jq (hasN l) (l.map Prod.snd) 1 0).2).1≠0 then(mayS (hasN l) M 1 (Jq (hasN l) (l.map Prod.snd) 1 0).2).1 else
  if(KN (hasN l) none fs (mayS (hasN l) M 1 (Jq (hasN l) (l.map Prod.snd) 1 0).2).2).1≠0 then(KN (hasN l) none fs (mayS (hasN l) M 1 (Jq (hasN l) (l.map Prod.snd) 1 0).2).2).1 else
  if(finR l (l.length+1) []).length≠l.length then 14 else
  if(Qj s).any (Yt l)then 17 else 0:=by rw[hll,hM,hfs];rfl
 rw[<-hM]at h1;rw[<-hll]at h2;rw[<-hfs]at h3;rw[<-hll,<-hM,<-hfs]at hev;have hM0:=h1;obtain⟨nv,kv,es,rfl,x1,x2,x3,x4⟩:=h1.inv;have l1:=h2.len;have l2:=h3.len;have cs1:=x1.cells;have cs2:=x1.sc;have cs3:=x2.cells;have cs4:=x2.sc;have cv1:=h2.sc;have cv2:=h3.sc;simp only[CT,Tryz.f30,XY,simprocAttr];rw[Jb];simp only[XY,simprocAttr,hn0,cs1,cs2,cs3,cs4,cv1.1,cv1.2,cv2.1,cv2.2];obtain⟨S,hS⟩:=exE (st.new fun t=> .cells t [.int .i64 M.kind,ofL M.name,nv,kv,tv,sv]);have g0:Gr st S:=by rw[hS];exact Gr.new hw (Ja _)
 obtain⟨t0,r0⟩:∃t,S.row (up 0 n)= .cells t [.int .i64 M.kind,ofL M.name,nv,kv,tv,sv]:=⟨_,by rw[hS];simp only[XZ,simprocAttr,hn0];rfl⟩
 rw[<-hS];clear hS;by_cases b1:12<l.length
 ·have b1':(12:Int)<l.length:=by omega
  rw[Je,Jb];simp only[XZ,simprocAttr,r0,l1,b1'];refine fin _ _ (fun r e=>g0.same r e) fun _=> ?_;rw[hchk,if_pos (.inl b1)]
 have b1':¬(12:Int)<l.length:=by omega
 by_cases b2:12<fs.length
 ·have b2':(12:Int)<fs.length:=by omega
  rw[Je,Jb];simp only[XZ,simprocAttr,r0,l1,l2,b1',b2'];refine fin _ _ (fun r e=>g0.same r e) fun _=> ?_;rw[hchk,if_pos (.inr b2)]
 have b2':¬(12:Int)<fs.length:=by omega
 rw[if_neg (fun h=>by rcases h with h|h;exact b1 h;exact b2 h)]at hchk;rw[Je,Jb];simp only[XY,simprocAttr,r0,l1,l2,b1',b2'];obtain⟨J0,hJ0⟩:=opE fun fr S'=>(S=S'/\fr 1= .ptr (up 0 n) 0/\Kd none (l.map Prod.fst)=0)
 refine JM J0 ?_ ?_
 ·rw[Jb];simp only[XY,simprocAttr];obtain⟨I,hI⟩:=loE fun j fr S'=>∃(i:Nat) (p:Option Str),j+i=l.length/\fr 1= .ptr (up 0 n) 0/\fr 3= .int .i64 i/\S=S'/\Kd none (l.map Prod.fst)=Kd p ((l.map Prod.fst).drop i)/\(p=if i=0 then none else(l.map Prod.fst)[i-1]?);refine Jn I l.length (by omega) ((hI _ _ _).2 ⟨0,none,by omega,rfl,by simp only[XZ,simprocAttr]<;>rfl,rfl,rfl,rfl⟩) ?_;intro j fr S' hIj;obtain⟨i,p,hj,f1,f3,rfl,hrec,hp⟩:=(hI _ _ _).1 hIj;have kS:∀r,st.row r≠ .none->S.row r=st.row r:=fun r e=>g0.same r e;by_cases hi:i<l.length
  ·have hi':(i:Int)<l.length:=by omega
   obtain⟨r,q,nv1,kv1,a1,a3,a4,_⟩:=JcW h2 kS hi;have a5:=Jaw a4 (j:=0) (by decide) rfl;have a5:ld1 (S.row r) q=some (ofL l[i].1, .no):=a5;obtain⟨N,hN⟩:∃N,N=l[i].1:=⟨_,rfl⟩
   rw[<-hN]at a5;have hd:(l.map Prod.fst).drop i=N::(l.map Prod.fst).drop (i+1):=by
    rw[List.drop_eq_getElem_cons (by simpa using hi),List.getElem_map,<-hN]
   rw[hd]at hrec;have hadd1:IntKind.i64.wrap ((i:Int)+1)=((i+1:Nat):Int):=by rw[Jo (by omega) (by omega)];rfl
   have bad:QZ N=true->Kd none (l.map Prod.fst)=15:=fun hb=>by rw[hrec,Kd,if_pos hb]
   have hbl:=Jpu N;simp only[XZ,simprocAttr,f1,f3,r0,l1,hi',a1,a5];refine Jd (JgT N _) ?_;rintro _ _ ⟨rfl,rfl⟩
   cases hid:Kb N with
   | false=>
     have hv:=bad (by rw[hbl,hid];rfl);simp only[XZ,simprocAttr];refine fin _ _ (fun r e=>g0.same r e) fun _=> ?_;rw[hchk,hv];rfl
   | true=>
     simp only[XZ,simprocAttr,f1,f3,r0,a1,a5];refine Jd (Jrw N _) ?_;rintro _ _ ⟨rfl,rfl⟩
     cases hwd:Jev.contains N with
     | true=>
       have hv:=bad (by rw[hbl,hid,hwd];rfl);simp only[XZ,simprocAttr];refine fin _ _ (fun r e=>g0.same r e) fun _=> ?_;rw[hchk,hv];rfl
     | false=>
       have hbn:QZ N=false:=by rw[hbl,hid,hwd];rfl
       have next:∀{fr':Fr},Ka p N=false->fr' 1= .ptr (up 0 n) 0->fr' 3= .int .i64 ((i+1:Nat):Int)->∃j',j'<j/\I j' fr' S:=fun{fr'} hl e1 e3=>
        ⟨l.length-(i+1),by omega,(hI _ _ _).2 ⟨i+1,some N,by omega,e1,e3,rfl,by rw[hrec,JoD hbn hl],by rw[if_neg (by omega)];simp[hi,hN]⟩⟩
       by_cases h0:i=0
       ·have h0':¬(0:Int)<(i:Int):=by omega
        simp only[XZ,simprocAttr,f3,h0',hadd1,Jj];exact next (by rw[hp,if_pos h0];rfl) f1 rfl
       ·have h0':(0:Int)<(i:Int):=by omega
        have hsub:IntKind.i64.wrap ((i:Int)-1)=((i-1:Nat):Int):=by rw[Jo (by omega) (by omega)];omega
        have hi1:i-1<l.length:=by omega
        obtain⟨r',q',nv2,kv2,b1,b3,b4,_⟩:=JcW h2 kS hi1;have b5:=Jaw b4 (j:=0) (by decide) rfl;have b5:ld1 (S.row r') q'=some (ofL l[i-1].1, .no):=b5;have hp':p=some l[i-1].1:=by rw[hp,if_neg h0,List.getElem?_map,List.getElem?_eq_getElem hi1];rfl
        cases hl:Op.bytesLess l[i-1].1 N with
        | false=>
          have hv:Kd none (l.map Prod.fst)=6:=by rw[hrec,Kd,if_neg (by rw[hbn];simp),if_pos (by rw[hp',Ka,hl];rfl)]
          simp only[XZ,simprocAttr,f1,f3,r0,h0',hsub,a1,a5,b1,b5,kA,hl,Jj];refine fin _ _ (fun r e=>g0.same r e) fun _=> ?_;rw[hchk,hv];rfl
        | true=>
          simp only[XZ,simprocAttr,f1,f3,r0,h0',hsub,a1,a5,b1,b5,kA,hl,Jj,hadd1];exact next (by rw[hp',Ka,hl];rfl) f1 rfl
  ·have hi':¬(i:Int)<l.length:=by omega
   have hv:Kd none (l.map Prod.fst)=0:=by rw[hrec,List.drop_eq_nil_of_le (by simp;omega),Kd]
   simp only[XZ,simprocAttr,f1,f3,r0,l1,hi'];exact(hJ0 _ _).2 ⟨rfl,f1,hv⟩
 intro fr S' hJf;obtain⟨rfl,f1,ht0⟩:=(hJ0 _ _).1 hJf;rw[if_neg (fun h=>h ht0)]at hchk;have w0:=g0.wf;obtain⟨n2,hn2⟩:=nxE S;rw[Jb];simp only[XY,simprocAttr,f1,r0,hn2,cs1,cs2,cs3,cs4,cv1.1,cv1.2,cv2.1,cv2.2];obtain⟨S3,hS3⟩:=exE (S.new fun t=> .cells t [.int .i64 M.kind,ofL M.name,nv,kv,tv,sv, .int .i64 0]);have g3:Gr S S3:=by rw[hS3];exact Gr.new w0 (Ja _)
 obtain⟨kr,hkr⟩:=exE (up 0 n2);obtain⟨tk,rk⟩:∃u,S3.row kr= .cells u [.int .i64 M.kind,ofL M.name,nv,kv,tv,sv, .int .i64 ((0:Nat):Int)]:=⟨_,by rw[hS3,hkr];simp only[XZ,simprocAttr,hn2];rfl⟩
 have qk2:S.row kr= .none:=by rw[hkr];exact nx0 w0 hn2 0
 rw[<-hS3,<-hkr];clear hS3;have G3:=g0.trans g3;have n0k:up 0 n≠kr:=fun h=>by rw[h,qk2]at r0;cases r0
 have r0:=g3.cells r0;have qk:st.row kr= .none:=Ch.fresh (Ch.of (fun _=>False) g0) qk2;have old_k:∀r,st.row r≠ .none->r≠kr:=fun r e h=>e (by rw[h];exact qk);have sep:∀r,P r->r≠kr:=fun r p=>old_k r (hP r p);have keep:∀{S':St},Ch (fun r=>r=kr) S3 S'->∀r,st.row r≠ .none->S'.row r=st.row r:=fun c r e=>by rw[c.same r (by rw[G3.same r e];exact e) (old_k r e),G3.same r e]
 have kcell:∀{S':St} {p:Pt} {u:Nat} {x:List V},Ch (fun r=>r=kr) S3 S'->S3.row p= .cells u x->p≠kr->S'.row p= .cells u x:=fun c e n=>by rw[c.same _ (Jc e) n,e]
 have hschM:∀{S':St},Ch (fun r=>r=kr) S3 S'->SchC P S' ([.int .i64 M.kind,ofL M.name,nv,kv]++[tv,sv]) s:=fun c=>hsch.imp fun r p e=>⟨p,keep c r e⟩
 have may:∀{S':St} {E:List V} {t:Ty} {met:Nat},Ch (fun r=>r=kr) S3 S'->TyC P S' E t->(∃u,S'.row kr= .cells u [.int .i64 M.kind,ofL M.name,nv,kv,tv,sv, .int .i64 (met:Int)])->met<=400->
   Does (tabT tabD) 60 [.ptr kr 0, .agg E, .int .i64 1] S' fun v st'=>Ch (fun r=>r=kr) S' st'/\(∃u,st'.row kr= .cells u [.int .i64 M.kind,ofL M.name,nv,kv,tv,sv, .int .i64 ((mayS (hasN l) t 1 met).2:Nat)])/\v= .int .i64 (mayS (hasN l) t 1 met).1:=fun{S' E t met} c ht hk hm=>by
  rw[hll];exact JqI _ t (Nat.lt_succ_self _) P S' kr s met _ E 1 c.wf (hschM c) ht sep hk (by decide) hm (by rw[<-hll];omega) (.inr trivial)
 rw[Jb];simp only[XY,simprocAttr];obtain⟨J1,hJ1⟩:=opE fun fr S'=>(fr 1= .ptr (up 0 n) 0/\fr 4= .ptr kr 0/\fr 5= .int .i64 (Jq (hasN l) (l.map Prod.snd) 1 0).1/\Ch (fun r=>r=kr) S3 S'/\∃u,S'.row kr= .cells u [.int .i64 M.kind,ofL M.name,nv,kv,tv,sv, .int .i64 ((Jq (hasN l) (l.map Prod.snd) 1 0).2:Nat)])
 refine JM J1 ?_ ?_
 ·rw[Jb];simp only[XY,simprocAttr];obtain⟨I,hI⟩:=loE fun j fr S'=>∃(i mi:Nat) (x:Int),j+i=l.length/\fr 1= .ptr (up 0 n) 0/\fr 4= .ptr kr 0/\fr 5= .int .i64 x/\fr 6= .int .i64 i/\Ch (fun r=>r=kr) S3 S'/\(∃u,S'.row kr= .cells u [.int .i64 M.kind,ofL M.name,nv,kv,tv,sv, .int .i64 (mi:Int)])/\Jq (hasN l) (l.map Prod.snd) 1 0=(if x≠0 then(x,mi)else Jq (hasN l) ((l.map Prod.snd).drop i) 1 mi)/\(x=0->mi<=400);refine Jn I l.length (by omega) ((hI _ _ _).2 ⟨0,0,0,by omega,f1,rfl,rfl,by simp only[XZ,simprocAttr]<;>rfl,Ch.refl _ g3.wf,⟨tk,rk⟩,by rw[if_neg (fun h=>h rfl)];rfl,fun _=>by omega⟩) ?_;clear f1;intro j fr S2 hIj;obtain⟨i,mi,x,hj,f1,f4,f5,f6,C2,⟨ub,rk2⟩,hrc,hmi⟩:=(hI _ _ _).1 hIj;have r02:=kcell C2 r0 n0k;by_cases hi:i<l.length
  ·have hi':(i:Int)<l.length:=by omega
   by_cases hx:x=0
   ·rw[if_neg (fun h=>h hx),List.drop_eq_getElem_cons (by simpa using hi),JT,List.getElem_map]at hrc;obtain⟨r,q,nv1,kv1,a1,a3,a4,hty,d1,d2,d3,d4⟩:=JcW h2 (keep C2) hi;have a6:=qT (a:=1) (b:=4) a4;have a6:ldn (S2.row r) (q+1) 4=some (.agg [.int .i64 l[i].2.kind,ofL l[i].2.name,nv1,kv1], .no):=a6;have hadd1:IntKind.i64.wrap ((i:Int)+1)=((i+1:Nat):Int):=by rw[Jo (by omega) (by omega)];rfl
    simp only[XZ,simprocAttr,f1,f4,f5,f6,r02,l1,hi',hx,a1,a6];refine Jd (may C2 (hty.imp fun r p e=>⟨p,keep C2 r e⟩) ⟨ub,rk2⟩ (hmi hx)) ?_;rintro _ S4 ⟨c4,⟨u4,rk4⟩,rfl⟩;have C4:=C2.trans c4 fun r w=> .inl w;have hm4:=K7 (hasN l) l[i].2 1 mi (hmi hx);simp only[XZ,simprocAttr,f6,hadd1];exact⟨l.length-(i+1),by omega,(hI _ _ _).2 ⟨i+1,_,_,by omega,f1,f4,rfl,rfl,C4,⟨u4,rk4⟩,hrc,hm4.2⟩⟩
   ·rw[if_pos hx]at hrc;simp only[XZ,simprocAttr,f1,f5,f6,r02,l1,hi',hx];exact(hJ1 _ _).2 ⟨f1,f4,by simp only[XZ,simprocAttr,f5,hrc],C2,ub,by rw[hrc];exact rk2⟩
  ·have hi':¬(i:Int)<l.length:=by omega
   have hrc2:Jq (hasN l) (l.map Prod.snd) 1 0=(x,mi):=by
    rw[hrc,List.drop_eq_nil_of_le (by simp;omega),KR];by_cases hx:x=0
    ·rw[if_neg (fun h=>h hx),hx]
    ·rw[if_pos hx]
   simp only[XZ,simprocAttr,f1,f5,f6,r02,l1,hi'];exact(hJ1 _ _).2 ⟨f1,f4,by simp only[XZ,simprocAttr,f5,hrc2],C2,ub,by rw[hrc2];exact rk2⟩
 clear f1;intro fr S2 hJf;obtain⟨f1,f4,f5,C2,⟨u2,rk2⟩⟩:=(hJ1 _ _).1 hJf;by_cases hm0:(Jq (hasN l) (l.map Prod.snd) 1 0).1=0;rotate_left
 ·rw[Je,Jb];simp only[XY,simprocAttr,f5,hm0];rw[Je,Jb];simp only[XZ,simprocAttr,f5,hm0];refine fin _ _ (keep C2) fun _=> ?_;rw[hchk,if_pos hm0]
 rw[if_neg (fun h=>h hm0)]at hchk;rw[hm0]at f5;have hcn:=ku (hasN l) (l.map Prod.snd) 1 0 hm0;have hmt:=(QJ (hasN l) (l.map Prod.snd) 1 0 (by decide)).2 hm0;have hokT:=Jav (hasN l) (l.map Prod.snd) 1 0 hm0;obtain⟨m1,hm1⟩:∃m,m=(Jq (hasN l) (l.map Prod.snd) 1 0).2:=⟨_,rfl⟩
 rw[<-hm1]at hchk rk2 hmt hcn;have r02:=kcell C2 r0 n0k;rw[Je,Jb];simp only[XY,simprocAttr,f5];simp only[XZ,simprocAttr,f1,f4,r02,cs1,cs2,cs3,cs4];refine Jd (may C2 (hM0.imp fun r p e=>⟨p,keep C2 r e⟩) ⟨u2,rk2⟩ hmt) ?_;rintro _ S4 ⟨c4,⟨u4,rk4⟩,rfl⟩;have C4:=C2.trans c4 fun r w=> .inl w;by_cases he:(mayS (hasN l) M 1 m1).1=0;rotate_left
 ·simp only[XZ,simprocAttr,he];refine fin _ _ (keep C4) fun _=> ?_;rw[hchk,if_pos he]
 rw[if_neg (fun h=>h he)]at hchk;have hcnM:=qO (hasN l) M 1 m1 he;have hmM:=(K7 (hasN l) M 1 m1 hmt).2 he;have hokM:=Jez (hasN l) M 1 m1 he;obtain⟨m2,hm2⟩:∃m,m=(mayS (hasN l) M 1 m1).2:=⟨_,rfl⟩
 rw[<-hm2]at hchk rk4 hmM hcnM;simp only[XY,simprocAttr];rw[Je,Jb];simp only[XY,simprocAttr,he];obtain⟨J2,hJ2⟩:=opE fun fr S'=>(fr 1= .ptr (up 0 n) 0/\Ch (fun r=>r=kr) S3 S'/\(KN (hasN l) none fs m2).1=0)
 refine JM J2 ?_ ?_
 ·rw[Jb];simp only[XY,simprocAttr];obtain⟨I,hI⟩:=loE fun j fr S'=>∃(i mi:Nat) (p:Option Str),j+i=fs.length/\fr 1= .ptr (up 0 n) 0/\fr 4= .ptr kr 0/\fr 5= .int .i64 0/\fr 7= .int .i64 i/\Ch (fun r=>r=kr) S3 S'/\(∃u,S'.row kr= .cells u [.int .i64 M.kind,ofL M.name,nv,kv,tv,sv, .int .i64 (mi:Int)])/\mi<=400/\KN (hasN l) none fs m2=KN (hasN l) p (fs.drop i) mi/\(p=if i=0 then none else(fs.map Sg.name)[i-1]?);refine Jn I fs.length (by omega) ((hI _ _ _).2 ⟨0,m2,none,by omega,f1,f4,by simp only[XZ,simprocAttr,he],by simp only[XZ,simprocAttr]<;>rfl,C4,⟨u4,rk4⟩,hmM,rfl,rfl⟩) ?_;clear f1 f4 f5;intro j fr S5 hIj;obtain⟨i,mi,p,hj,f1,f4,f5,f7,C5,⟨u5,rk5⟩,hmi,hrec,hp⟩:=(hI _ _ _).1 hIj;have r05:=kcell C5 r0 n0k;by_cases hi:i<fs.length
  ·have hi':(i:Int)<fs.length:=by omega
   obtain⟨r,q,pv,nv1,kv1,a1,a3,a4,⟨ep,p1,p2,p3⟩,hres,⟨d5,d6⟩,d1,d2,d3,d4⟩:=Jii h3 (keep C5) hi;obtain⟨f,hf⟩:∃f,f=fs[i]:=⟨_,rfl⟩
   have hd:fs.drop i=f::fs.drop (i+1):=by rw[List.drop_eq_getElem_cons hi,<-hf]
   rw[hd,Y0]at hrec;rw[<-hf]at a4 hres p2 p3;have w5:=C5.wf;obtain⟨nS,hnS⟩:=nxE S5;have oq:=fun k=>nes (Jz w5 hnS a3 k);have hadd1:IntKind.i64.wrap ((i:Int)+1)=((i+1:Nat):Int):=by rw[Jo (by omega) (by omega)];rfl
   have lp:=p1.len;rw[p2]at lp;rw[Je,Jb];simp only[XY,simprocAttr,f1,f7,r05,l2,hi'];rw[Je];simp only[XY,simprocAttr];rw[Jb];simp only[XY,simprocAttr,f1,f7,r05,a1,a4,hnS,oq,d1,d2,d3,d4,d5,d6];obtain⟨S6,hS6⟩:=exE ((S5.new fun t=> .cells t [ofL [], .snil, .int .i64 0,ofL [], .snil, .snil]).wr (up 0 nS) S5.t fun u=> .cells u [ofL f.name,pv, .int .i64 f.result.kind,ofL f.result.name,nv1,kv1]);have g6:Gr S5 S6:=by rw[hS6];exact(Gr.refl w5).nw hnS (Ja _) (Ja _)
   obtain⟨t6,r6⟩:∃t,S6.row (up 0 nS)= .cells t [ofL f.name,pv, .int .i64 f.result.kind,ofL f.result.name,nv1,kv1]:=⟨_,by rw[hS6];simp only[XZ,simprocAttr,hnS];rfl⟩
   have n6k:up 0 nS≠kr:=fun h=>by have:=nx0 w5 hnS 0;rw[h,rk5]at this;cases this
   rw[<-hS6];have C6:=C5.gr g6;have rk6:=g6.cells rk5;have r06:=g6.cells r05;have bad:∀S',Ch (fun r=>r=kr) S3 S'->∀x,(KN (hasN l) none fs m2).1=x->x≠0->K (.int .i64 x) S':=fun S' c x hx h0=>fin _ _ (keep c) fun _=>by rw[hchk,hx,if_pos h0]
   have hbi:=JlW f.name;rw[Je,Jb];simp only[XY,simprocAttr,r6];refine Jd (JgT f.name _) ?_;rintro _ _ ⟨rfl,rfl⟩
   cases hid:Kb f.name with
   | false=>
     simp only[XZ,simprocAttr];exact bad _ C6 15 (by rw[hrec,if_pos (by rw[hid];rfl)]) (by decide)
   |true=>
   simp only[XY,simprocAttr,r6];refine Jd (Jl8 f.name _) ?_;rintro _ _ ⟨rfl,rfl⟩;rw[<-hbi]
   cases hbb:Qq f.name with
   | true=>
     simp only[XZ,simprocAttr];exact bad _ C6 15 (by rw[hrec,if_pos (by rw[hbb];simp)]) (by decide)
   |false=>
   rw[if_neg (by rw[hid,hbb];simp)]at hrec;simp only[XY,simprocAttr];obtain⟨J3,hJ3⟩:=opE fun fr S'=>(S6=S'/\fr 1= .ptr (up 0 n) 0/\fr 4= .ptr kr 0/\fr 5= .int .i64 0/\fr 7= .int .i64 i/\fr 8= .ptr (up 0 nS) 0/\Ka p f.name=false)
   refine JM J3 ?_ ?_
   ·by_cases h0:i=0
    ·have h0':¬(0:Int)<(i:Int):=by omega
     rw[Jb];simp only[XZ,simprocAttr,f7,h0',Jj];exact(hJ3 _ _).2 ⟨rfl,f1,f4,f5,f7,rfl,by rw[hp,if_pos h0];rfl⟩
    ·have h0':(0:Int)<(i:Int):=by omega
     have hsub:IntKind.i64.wrap ((i:Int)-1)=((i-1:Nat):Int):=by rw[Jo (by omega) (by omega)];omega
     have hi1:i-1<fs.length:=by omega
     obtain⟨r',q',pv',nv2,kv2,b1,b3,b4,_⟩:=Jii h3 (keep C6) hi1;have b5:=Jaw b4 (j:=0) (by decide) rfl;have b5:ld1 (S6.row r') q'=some (ofL fs[i-1].name, .no):=b5;have hp':p=some fs[i-1].name:=by rw[hp,if_neg h0,List.getElem?_map,List.getElem?_eq_getElem hi1];rfl
     cases hl2:Op.bytesLess fs[i-1].name f.name with
     | false=>
       rw[Jb];simp only[XZ,simprocAttr,f1,f7,r06,r6,h0',hsub,b1,b5,kA,hl2,Jj];exact bad _ C6 6 (by rw[hrec,if_pos (by rw[hp',Ka,hl2];rfl)]) (by decide)
     | true=>
       rw[Jb];simp only[XZ,simprocAttr,f1,f7,r06,r6,h0',hsub,b1,b5,kA,hl2,Jj];exact(hJ3 _ _).2 ⟨rfl,f1,f4,f5,f7,rfl,by rw[hp',Ka,hl2];rfl⟩
   clear f1 f4 f5 f7;intro fr S' hJf;obtain⟨rfl,f1,f4,f5,f7,f8,hnl⟩:=(hJ3 _ _).1 hJf;rw[if_neg (by rw[hnl];simp)]at hrec;by_cases h4:4<f.params.length
   ·have h4':(4:Int)<f.params.length:=by omega
    rw[Je,Jb];simp only[XZ,simprocAttr,f8,r6,lp,h4'];exact bad _ C6 18 (by rw[hrec,if_pos h4]) (by decide)
   have h4':¬(4:Int)<f.params.length:=by omega
   rw[if_neg h4]at hrec;rw[Je,Jb];simp only[XY,simprocAttr,f8,r6,lp,h4'];have hlst:∀{S':St},Ch (fun r=>r=kr) S3 S'->LstAt (TyC P S') P S' pv 4 f.params:=fun c=>⟨ep,p1.imp fun r p e=>⟨p,keep c r e⟩,p2,fun i a b=>(p3 i a b).imp fun r p e=>⟨p,keep c r e⟩⟩
   obtain⟨J4,hJ4⟩:=opE fun fr S'=>(fr 1= .ptr (up 0 n) 0/\fr 4= .ptr kr 0/\fr 5= .int .i64 (Jq (hasN l) f.params 1 mi).1/\fr 7= .int .i64 i/\fr 8= .ptr (up 0 nS) 0/\Ch (fun r=>r=kr) S3 S'/\(∃u,S'.row (up 0 nS)= .cells u [ofL f.name,pv, .int .i64 f.result.kind,ofL f.result.name,nv1,kv1])/\∃u,S'.row kr= .cells u [.int .i64 M.kind,ofL M.name,nv,kv,tv,sv, .int .i64 ((Jq (hasN l) f.params 1 mi).2:Nat)])
   refine JM J4 ?_ ?_
   ·rw[Jb];simp only[XY,simprocAttr];obtain⟨I2,hI2⟩:=loE fun j fr S'=>∃(k mk:Nat) (x:Int),j+k=f.params.length/\fr 1= .ptr (up 0 n) 0/\fr 4= .ptr kr 0/\fr 5= .int .i64 x/\fr 7= .int .i64 i/\fr 8= .ptr (up 0 nS) 0/\fr 9= .int .i64 k/\Ch (fun r=>r=kr) S3 S'/\(∃u,S'.row (up 0 nS)= .cells u [ofL f.name,pv, .int .i64 f.result.kind,ofL f.result.name,nv1,kv1])/\(∃u,S'.row kr= .cells u [.int .i64 M.kind,ofL M.name,nv,kv,tv,sv, .int .i64 (mk:Int)])/\Jq (hasN l) f.params 1 mi=(if x≠0 then(x,mk)else Jq (hasN l) (f.params.drop k) 1 mk)/\(x=0->mk<=400);refine Jn I2 f.params.length (by omega) ((hI2 _ _ _).2 ⟨0,mi,0,by omega,f1,f4,f5,f7,f8,by simp only[XZ,simprocAttr]<;>rfl,C6,⟨t6,r6⟩,⟨u5,rk6⟩,by rw[if_neg (fun h=>h rfl)];rfl,fun _=>hmi⟩) ?_;clear f1 f4 f5 f7 f8;intro j2 fr S7 hIj;obtain⟨k,mk,x,hjk,f1,f4,f5,f7,f8,f9,C7,⟨t7,r7⟩,⟨u7,rk7⟩,hrc,hmk⟩:=(hI2 _ _ _).1 hIj;by_cases hk:k<f.params.length
    ·have hk':(k:Int)<f.params.length:=by omega
     by_cases hx:x=0
     ·rw[if_neg (fun h=>h hx),List.drop_eq_getElem_cons hk,JT]at hrc;obtain⟨q2,qo,E',c1,c2,c3,c4,hE,e4,c5⟩:=(hlst C7).elem hk;have haddk:IntKind.i64.wrap ((k:Int)+1)=((k+1:Nat):Int):=by rw[Jo (by omega) (by omega)];rfl
      simp only[XZ,simprocAttr,f4,f5,f8,f9,r7,lp,hk',hx,c1,c4];refine Jd (may C7 hE ⟨u7,rk7⟩ (hmk hx)) ?_;rintro _ S8 ⟨c8,⟨u8,rk8⟩,rfl⟩;have C8:=C7.trans c8 fun r w=> .inl w;have r8:S8.row (up 0 nS)= .cells t7 [ofL f.name,pv, .int .i64 f.result.kind,ofL f.result.name,nv1,kv1]:=by rw[c8.same _ (Jc r7) n6k,r7]
      have hm8:=K7 (hasN l) f.params[k] 1 mk (hmk hx);simp only[XZ,simprocAttr,f9,haddk];exact⟨f.params.length-(k+1),by omega,(hI2 _ _ _).2 ⟨k+1,_,_,by omega,f1,f4,rfl,f7,f8,rfl,C8,⟨t7,r8⟩,⟨u8,rk8⟩,hrc,hm8.2⟩⟩
     ·rw[if_pos hx]at hrc;simp only[XZ,simprocAttr,f5,f8,f9,r7,lp,hk',hx];exact(hJ4 _ _).2 ⟨f1,f4,by simp only[XZ,simprocAttr,f5,hrc],f7,f8,C7,⟨t7,r7⟩,u7,by rw[hrc];exact rk7⟩
    ·have hk':¬(k:Int)<f.params.length:=by omega
     have hrc2:Jq (hasN l) f.params 1 mi=(x,mk):=by
      rw[hrc,List.drop_eq_nil_of_le (by omega),KR];by_cases hx:x=0
      ·rw[if_neg (fun h=>h hx),hx]
      ·rw[if_pos hx]
     simp only[XZ,simprocAttr,f5,f8,f9,r7,lp,hk'];exact(hJ4 _ _).2 ⟨f1,f4,by simp only[XZ,simprocAttr,f5,hrc2],f7,f8,C7,⟨t7,r7⟩,u7,by rw[hrc2];exact rk7⟩
   clear f1 f4 f5 f7 f8;intro fr S7 hJf;obtain⟨f1,f4,f5,f7,f8,C7,⟨t7,r7⟩,⟨u7,rk7⟩⟩:=(hJ4 _ _).1 hJf;rw[JeS]at hrec;have hmp:=QJ (hasN l) f.params 1 mi hmi;by_cases hp0:(Jq (hasN l) f.params 1 mi).1=0
   ·rw[hp0]at f5;rw[if_neg (show¬(Jq (hasN l) f.params 1 mi).1≠0 from fun h=>h hp0)]at hrec;have hmp2:=hmp.2 hp0;obtain⟨mq,hmq⟩:∃m,m=(Jq (hasN l) f.params 1 mi).2:=⟨_,rfl⟩
    rw[<-hmq]at hrec rk7 hmp2;rw[Je,Jb];simp only[XY,simprocAttr,f5];simp only[XZ,simprocAttr,f4,f8,r7,d1,d2,d3,d4];refine Jd (may C7 (hres.imp fun r p e=>⟨p,keep C7 r e⟩) ⟨u7,rk7⟩ hmp2) ?_;rintro _ S8 ⟨c8,⟨u8,rk8⟩,rfl⟩;have C8:=C7.trans c8 fun r w=> .inl w;have hm8:=K7 (hasN l) f.result 1 mq hmp2;by_cases hr0:(mayS (hasN l) f.result 1 mq).1=0
    ·rw[if_neg (fun h=>h hr0)]at hrec;simp only[XZ,simprocAttr,hr0,f7,hadd1];exact⟨fs.length-(i+1),by omega,(hI _ _ _).2 ⟨i+1,_,some f.name,by omega,f1,f4,by simp only[XZ,simprocAttr,hr0],rfl,C8,⟨u8,rk8⟩,hm8.2 hr0,hrec,by rw[if_neg (by omega)];simp[hi,hf]⟩⟩
    ·rw[if_pos hr0]at hrec;simp only[XZ,simprocAttr,hr0];exact bad _ C8 _ (by rw[hrec]) hr0
   ·rw[if_pos (show(Jq (hasN l) f.params 1 mi).1≠0 from hp0),if_pos hp0]at hrec;rw[Je,Jb];simp only[XZ,simprocAttr,f5,hp0];exact bad _ C7 _ (by rw[hrec]) hp0
  ·have hi':¬(i:Int)<fs.length:=by omega
   rw[List.drop_eq_nil_of_le (by omega),KN]at hrec;simp only[XZ,simprocAttr,f1,f7,r05,l2,hi'];exact(hJ2 _ _).2 ⟨f1,C5,by rw[hrec]⟩
 clear f1 f4 f5;intro fr S5 hJf;obtain⟨f1,C5,hs0⟩:=(hJ2 _ _).1 hJf;rw[if_neg (fun h=>h hs0)]at hchk;obtain⟨hp4,hpc,hms⟩:=JbN (hasN l) none fs m2 hmM hs0;have hokS:=Jf8 (hasN l) none fs m2 hs0;have r05:=kcell C5 r0 n0k;have w5:=C5.wf;rw[Je,Jb];simp only[XY,simprocAttr,f1,r05,cs1,cs2,cs3,cs4,cv1.1,cv1.2,cv2.1,cv2.2];refine Ji (JoB (P:=P) (s:=s) (JD w5 S5.t) ((hschM C5).low S5.t) (by rw[<-hll];omega) (by rw[<-hll];omega)) ?_;rw[<-hll];rintro fv S6 g6 hfv;have lf:=hfv.len;rw[JW]at lf;have C6:=C5.gr g6;have r06:=g6.cells r05;obtain⟨F,hF⟩:∃F,F=(finR l (l.length+1) []).length:=⟨_,rfl⟩
 rw[<-hF]at lf hchk;by_cases hfl:F=l.length;rotate_left
 ·have hfl':¬(F:Int)=(l.length:Int):=by omega
  simp only[XZ,simprocAttr,f1,lf,r06,l1,hfl',Jj];refine fin _ _ (keep C6) fun _=> ?_;rw[hchk,if_pos hfl]
 have hfl':(F:Int)=(l.length:Int):=by omega
 rw[if_neg (fun h=>h hfl)]at hchk;simp only[XY,simprocAttr,f1,lf,r06,l1,hfl',Jj];rw[Jb];simp only[XY,simprocAttr,f1,r06,cs1,cs2,cs3,cs4,cv1.1,cv1.2,cv2.1,cv2.2];refine Jd (Jsr (P:=P) (Q:=fun r=>P r\/S6.row r= .none) (s:=s) C6.wf (hschM C6) (by rw[<-hll];omega) (by rw[<-hfs];omega) (fun f hf=>by have:=hp4 f (by rw[hfs];exact hf);omega) (fun r p=> .inl p) fun r p=> .inr p) ?_;rintro ev S7 ⟨g7,hevl⟩;have C7:=C6.gr g7;have r07:=g7.cells r06;have hok:∀t∈Qj s,cntT t<1000000/\okO t=true:=fun t ht=>by
  rw[hev]at ht;rcases List.mem_append.1 ht with ht|ht
  ·rcases List.mem_append.1 ht with ht|ht
   ·exact⟨by have:=Jdm ht;omega,JbV hokT t ht⟩
   ·rw[List.mem_singleton.1 ht];exact⟨by omega,hokM⟩
  ·unfold KU at ht;obtain⟨x,hx,htx⟩:=List.mem_flatten.1 ht;obtain⟨f,hf,rfl⟩:=List.mem_map.1 hx;have h5:=Jdm htx;have h6:=hpc f hf;exact⟨by omega,JbV (hokS f hf) t htx⟩
 have hlenE:(Qj s).length<1000000:=by
  have hk:=Jbh fs fun f hf=>by have:=hp4 f hf;omega
  rw[hev];simp only[List.length_append,List.length_map,List.length_singleton];omega
 have le:=hevl.len;simp only[XY,simprocAttr];rw[Je,Jb];simp only[XY,simprocAttr];obtain⟨A,hA⟩:∃A,A=Qj s:=⟨_,rfl⟩
 rw[<-hA]at hevl le hlenE hok hchk;obtain⟨I,hI⟩:=loE fun j fr S'=>∃(i:Nat),j+i=A.length/\fr 1= .ptr (up 0 n) 0/\fr 10=ev/\fr 11= .int .i64 i/\Gr S7 S'/\A.any (Yt l)=(A.drop i).any (Yt l);refine Jn I A.length (by omega) ((hI _ _ _).2 ⟨0,by omega,f1,rfl,by simp only[XZ,simprocAttr]<;>rfl,Gr.refl g7.wf,rfl⟩) ?_;clear f1;intro j fr S8 hIj;obtain⟨i,hj,f1,f10,f11,g8,hrec⟩:=(hI _ _ _).1 hIj;have C8:=C7.gr g8;have r08:=g8.cells r07;by_cases hi:i<A.length
 ·have hi':(i:Int)<A.length:=by omega
  obtain⟨q2,qo,E',c1,c2,c3,c4,hE,e4,c5⟩:=(hevl.imp (fun e x h=>h.gr g8) fun r p e=>⟨p,g8.same r e⟩:LstAt (TyC (fun r=>P r\/S6.row r= .none) S8) (fun r=>P r\/S6.row r= .none) S8 ev 4 A).elem hi;have hadd1:IntKind.i64.wrap ((i:Int)+1)=((i+1:Nat):Int):=by rw[Jo (by omega) (by omega)];rfl
  rw[List.drop_eq_getElem_cons hi,List.any_cons]at hrec;obtain⟨hk1,hk2⟩:=hok _ (List.getElem_mem hi);simp only[XZ,simprocAttr,f1,f10,f11,r08,le,hi',c1,c4,cs1,cs2,cs3,cs4,cv1.1,cv1.2,cv2.1,cv2.2];refine Ji (JoC _ A[i] (Nat.lt_succ_self _) (fun r=>S8.row r≠ .none) _ s _ E' (JD C8.wf S8.t) (((hschM C8).imp fun r p e=>⟨e,rfl⟩).low S8.t) ((hE.imp fun r p e=>⟨e,rfl⟩:TyC (fun r=>S8.row r≠ .none) S8 E' A[i]).low S8.t) (fun r p=>p) (by rw[<-hll];omega) hk1 hk2) ?_;rw[<-hll];rintro _ S9 g9 rfl
  cases hb:Yt l A[i]with
  | true=>
    rw[hb,Bool.true_or]at hrec;simp only[XZ,simprocAttr,Jj];refine fin _ _ (keep (C8.gr g9)) fun _=> ?_;rw[hchk,hrec];rfl
  | false=>
    rw[hb,Bool.false_or]at hrec;simp only[XZ,simprocAttr,Jj,f11,hadd1];exact⟨A.length-(i+1),by omega,(hI _ _ _).2 ⟨i+1,by omega,f1,f10,rfl,g8.trans g9,hrec⟩⟩
 ·have hi':¬(i:Int)<A.length:=by omega
  rw[List.drop_eq_nil_of_le (by omega)]at hrec;simp only[XZ,simprocAttr,f10,f11,le,hi'];refine fin _ _ (keep C8) fun _=> ?_;rw[hchk,hrec];rfl
theorem Jlv {P:Pt->Prop}{st:St}{e1:List V}{s:Sch}(hw:WF st)(h:SchC P st e1 s):
  Does (tabT tabD) 30 [.agg e1] st fun v' st'=>Gr st st'/\v'= .int .i64 (refS s):=
 JpO (P:=fun r=>P r/\st.row r≠ .none) hw (h.imp fun r p e=>⟨⟨p,e⟩,rfl⟩) fun r p=>p.2
theorem JoE {R:Row}{q:Nat}{x:V}{c:List V}(h:ldn R q 5=some (.agg (x::c), .no)):ldn R (q+1) 4=some (.agg c, .no):=by
 have key:∀l:List V,(if q+5<=l.length then some (V.agg ((l.drop q).take 5),Eff.no)else none)=some (V.agg (x::c),Eff.no)->(if q+1+4<=l.length then some (V.agg ((l.drop (q+1)).take 4),Eff.no)else none)=some (V.agg c,Eff.no):=fun l e=>by
  by_cases hq:q+5<=l.length
  ·rw[if_pos hq]at e;injection e with e;injection e with e;injection e with e;have hd:l.drop (q+1)=(l.drop q).drop 1:=by rw[List.drop_drop]
   rw[if_pos (by omega),hd];generalize l.drop q=D at e
   cases D with
   |nil=>cases e
   | cons a r=>
     simp only[List.take_succ_cons]at e;injection e with _ e;simp[e]
  ·rw[if_neg hq]at e;cases e
 cases R with
 |cells t l=>rw[ko]at h⊢;exact key l h
 |ro l=>rw[JdV]at h⊢;exact key l h
 |_=>cases h
theorem _root_.Eva.RT.rest {Sb S S':St}{ru:Pt}{lv tv:V}{rest rest':List V}{O:Pt->Prop}{nodes:List Nd}{trees:List Ty}(h:RT Sb S ru lv tv rest O nodes trees)(g:Gr Sb S')(hc:∃t,S'.row ru= .cells t (lv::tv::rest'))(k:∀r,Bt ru lv tv O r->r≠ru->S'.row r=S.row r):RT Sb S' ru lv tv rest' O nodes trees:=by
 obtain⟨es,l1,l2,l3⟩:=h.l;obtain⟨ts,t1,t2,t3⟩:=h.t;refine⟨g,h.ru0,hc,⟨es,l1.keep fun r e=>k r (.inr (.inl e)) (h.apl r e).2,l2,fun i a b=>(l3 i a b).imp fun r p _=>⟨p,k r (.inr (.inr (.inr p))) (h.o r p).2.2.1⟩⟩,⟨ts,t1.keep fun r e=>k r (.inr (.inr (.inl e))) (h.apt r e),t2,fun i a b=>(t3 i a b).imp fun r p _=>⟨p,by rw[g.same r p,h.g.same r p]⟩⟩,h.apl,h.apt,fun r p=> ?_⟩;obtain⟨a,b⟩:=h.o r p;exact⟨by rw[k r (.inr (.inr (.inr p))) b.2.1];exact a,b⟩
structure RN (S1 S:St) (s:Sch) (tb:Tb) (ru:Pt) (lv tv dv nv kv sv tyv:V) (O:Pt->Prop) (tr:List Ty) (ids:List Nat) (mn:Nat):Prop where
 rt:RT S1 S ru lv tv [.int .i64 s.main.kind,ofL s.main.name,nv,kv,tyv,sv,dv, .int .i64 (mn:Nat), .snil] O tb.nodes tr
 t:Qa tb.nodes tr
 d:SlF S1 S dv 1 (ints ids)
 dn:∀r,rowOf dv=some r->¬Bt ru lv tv O r
 len:ids.length<=s.types.length
 at_:∀k (h:k<ids.length) (h':k<s.types.length),Ki tb.nodes s.types[k].2=some ids[k]
def JaR (st S:St)(s:Sch)(v:V):Prop:=match newS s with
 |(none,e)=>v= .tup [.pnil, .int .i64 e]
 |(some tb,_)=>∃S1 ru lv tv dv nv kv sv tyv O tr ids,Gr st S1/\v= .tup [.ptr ru 0, .int .i64 0]/\RN S1 S s tb ru lv tv dv nv kv sv tyv O tr ids tb.main/\ids.length=s.types.length/\LstAt (NmC (fun r=>S1.row r≠ .none) S1) (fun r=>S1.row r≠ .none) S1 tyv 5 s.types
theorem JoF {s:Sch}(hs:s.sigs=[]):newS s=if Qv s≠0 then(none,Qv s)else if(Jr s.types JC).2≠0 then(none,(Jr s.types JC).2)else if(addT s.main 400 (Jr s.types JC).1).2.2.1≠0 then(none,(addT s.main 400 (Jr s.types JC).1).2.2.1)else(some {(addT s.main 400 (Jr s.types JC).1).1 with main:=(addT s.main 400 (Jr s.types JC).1).2.1},0):=by
 rw[JbR,hs];simp[Kl]
theorem Ji1 {st:St}{e1:List V}{s:Sch}(hw:WF st)(h:SchC (fun r=>st.row r≠ .none) st e1 s)(hs:s.sigs=[]):
  Does (tabT tabD) 12 [.agg e1] st fun v S=>Gr st S/\JaR st S s v:=by
 refine Ju tabM (aT Tryz.func12 rfl) rfl hw fun K fin=> ?_;have hnew:=JoF hs;obtain⟨n0,hn0⟩:=nxE st;have hsch:=h;obtain⟨c,tyv,sv,rfl,h1,h2,h3⟩:=h;rw[hs]at h3;obtain⟨M,hM⟩:=exE (s.main);rw[<-hM]at h1;obtain⟨nv,kv,es,rfl,x1,x2,x3,x4⟩:=h1.inv;have l2:=h2.len;have l3:Kf sv=some (.int .i64 0, .no):=h3.nil_len;have cs1:=x1.cells;have cs2:=x1.sc;have cs3:=x2.cells;have cs4:=x2.sc;have cv1:=h2.sc;have cv2:=h3.sc;simp only[CT,Tryz.f12,XY,simprocAttr];rw[Jb];simp only[XY,simprocAttr,hn0,cs1,cs2,cs3,cs4,cv1.1,cv1.2,cv2.1,cv2.2];refine Js ?_;intro S0 hS0;have g0:Gr st S0:=by rw[hS0];exact Gr.new hw (Ja _)
 obtain⟨p1,hp1⟩:=exE (up 0 n0);obtain⟨t0,r0⟩:∃t,S0.row p1= .cells t [.int .i64 M.kind,ofL M.name,nv,kv,tyv,sv]:=⟨_,by rw[hS0,hp1];simp only[XZ,simprocAttr,hn0];rfl⟩
 rw[<-hp1];clear hS0;have hs0:∀{S:St},Gr st S->SchC (fun r=>S.row r≠ .none) S [.int .i64 M.kind,ofL M.name,nv,kv,tyv,sv] s:=fun g=>hsch.imp fun r p _=>⟨by rw[g.same r p];exact p,g.same r p⟩
 rw[Je,Jb];simp only[XY,simprocAttr,r0];refine Jd (Jlv g0.wf (hs0 g0)) ?_;rintro _ S1 ⟨g1,rfl⟩;have r1:=g1.cells r0;have g01:=g0.trans g1;rw[Jn4];by_cases hc:Qv s=0;rotate_left
 ·rw[if_pos hc]at hnew;simp only[XY,simprocAttr,hc];rw[Jb];simp only[XY,simprocAttr,r1];refine Jd (Jlv g01.wf (hs0 g01)) ?_;rintro _ S2 ⟨g2,rfl⟩;rw[Jn4];simp only[XZ,simprocAttr];refine fin _ _ (fun r e=>(g01.trans g2).same r e) fun _=> ?_;unfold JaR;rw[hnew]
 rw[if_neg fun k=>k hc]at hnew;obtain⟨room1,room2,room3⟩:=JjN hc;obtain⟨hl12,_⟩:=jJ hc;simp only[XY,simprocAttr,hc];obtain⟨n1,hn1⟩:=nxE S1;have w1:=g01.wf;obtain⟨ru,hru⟩:=exE (up 0 n1);rw[Jb];simp only[XY,simprocAttr,r1,hn1,cs2,cs4,cv1.1,cv2.1];rw[<-hru];obtain⟨S2,hS2⟩:=exE (S1.new fun t=> .cells t [.snil, .snil, .int .i64 M.kind,ofL M.name,nv,kv,tyv,sv, .snil, .int .i64 0, .snil]);have g2:Gr S1 S2:=by rw[hS2];exact Gr.new w1 (Ja _)
 obtain⟨t2,r2⟩:∃t,S2.row ru= .cells t [.snil, .snil, .int .i64 M.kind,ofL M.name,nv,kv,tyv,sv, .snil, .int .i64 0, .snil]:=⟨_,by rw[hS2,hru];simp only[XZ,simprocAttr,hn1];rfl⟩
 have run:S1.row ru= .none:=by rw[hru];exact nx0 w1 hn1 0
 rw[<-hS2];clear hS2;have R2:RT S1 S2 ru .snil .snil [.int .i64 M.kind,ofL M.name,nv,kv,tyv,sv, .snil, .int .i64 0, .snil] (fun _=>False) JC.nodes []:=⟨g2,run,⟨t2,r2⟩,⟨[],SlF.nil _ _ _,rfl,fun i h=>absurd h (Nat.not_lt_zero _)⟩,⟨[],SlF.nil _ _ _,rfl,fun i h=>absurd h (Nat.not_lt_zero _)⟩,fun r e=>(nomatch e),fun r e=>(nomatch e),fun r (e:False)=>e.elim⟩
 have N2:RN S1 S2 s JC ru .snil .snil .snil nv kv sv tyv (fun _=>False) [] [] 0:=⟨by rw[<-hM];exact R2,Qa.nil,SlF.nil _ _ _,(fun r e=>by cases e),Nat.zero_le _,fun k h=>absurd h (Nat.not_lt_zero _)⟩
 have kp1:∀{S:St},Gr S1 S->S.row p1= .cells t0 [.int .i64 M.kind,ofL M.name,nv,kv,tyv,sv]:=fun g=>g.cells r1;have hty:∀{S:St},Gr S1 S->LstAt (NmC (fun r=>S1.row r≠ .none) S) (fun r=>S1.row r≠ .none) S tyv 5 s.types:=fun g=>h2.imp (fun _ _ x=>x.imp fun r p e=>⟨by rw[g01.same r p];exact p,(g01.trans g).same r p⟩) fun r p _=>⟨by rw[g01.same r p];exact p,(g01.trans g).same r p⟩
 rw[Je,Jb];simp only[XY,simprocAttr];obtain⟨J,hJ⟩:=opE fun fr S=>∃(lv tv dv:V) (O:Pt->Prop) (tr:List Ty) (ids:List Nat),fr 1= .ptr p1 0/\fr 4= .ptr ru 0/\RN S1 S s (Jr s.types JC).1 ru lv tv dv nv kv sv tyv O tr ids 0/\ids.length=s.types.length/\(Jr s.types JC).2=0;obtain⟨L,hL⟩:=loE fun j fr S=>∃(i:Nat) (lv tv dv:V) (O:Pt->Prop) (tr:List Ty) (ids:List Nat) (tbi:Tb),j+i=s.types.length/\fr 1= .ptr p1 0/\fr 4= .ptr ru 0/\fr 5= .int .i64 (i:Nat)/\RN S1 S s tbi ru lv tv dv nv kv sv tyv O tr ids 0/\ids.length=i/\Jr s.types JC=Jr (s.types.drop i) tbi;refine Jn L s.types.length (by omega) ((hL _ _ _).2 ⟨0, .snil, .snil, .snil,_,[],[],JC,by omega,rfl,rfl,by simp only[XZ,simprocAttr]<;>rfl,N2,rfl,rfl⟩) ?_;intro j fr S3 hLj;obtain⟨i,lv,tv,dv,O,tr,ids,tbi,hj,f1,f4,f5,N,hidl,hrec⟩:=(hL _ _ _).1 hLj;have g3:=N.rt.g;by_cases hi:i<s.types.length
 ·have hi':(i:Int)<s.types.length:=by omega
  have hadd1:IntKind.i64.wrap ((i:Int)+1)=((i+1:Nat):Int):=by rw[Jo (by omega) (by omega)];rfl
  obtain⟨q,o,e,a1,a2,a3,a4,⟨ce,he,hte⟩,he5,a5⟩:=(hty g3).elem hi;obtain⟨hf,hsz⟩:=room1 _ (List.getElem_mem hi);rw[List.drop_eq_getElem_cons hi]at hrec;obtain⟨X,hX⟩:=exE (s.types[i]);rw[<-hX]at hte hf hsz hrec he;obtain⟨nv1,kv1,es1,rfl,y1,y2,_,_⟩:=hte.inv;subst he;have d0:=a5 1 (by simp);have d14:ldn (S3.row q) (o+1) 4=some (.agg [.int .i64 X.2.kind,ofL X.2.name,nv1,kv1], .no):=JoE a4;rw[Je,Jb];simp only[XY,simprocAttr,f1,f5,kp1 g3,l2,hi'];rw[Je];simp only[XY,simprocAttr];rw[Jb];simp only[XY,simprocAttr,f1,f4,f5,kp1 g3,a1,d14];by_cases hok:(addT X.2 400 tbi).2.2.1=0;rotate_left
  ·refine Jd (JqG _ X.2 (Nat.lt_succ_self _) N.rt N.t hte hok hf hsz ⟨_,_,_,_,_,_,_,_,_,rfl⟩) ?_;rintro _ S4 ⟨g4,rfl⟩;have hz:(Jr s.types JC).2=20:=by
    rw[hrec,show X=(X.1,X.2)from rfl,JiF hok];exact(Jen X.2 400 tbi).resolve_left hok
   simp only[XZ,simprocAttr];refine fin _ _ (fun r e=>by rw[g4.same r (by rw[g01.same r e];exact e),g01.same r e]) fun _=> ?_;unfold JaR;rw[hnew,if_pos (by rw[hz];decide),hz]
  refine Jd (Jox _ X.2 (Nat.lt_succ_self _) N.rt N.t hte hok ⟨_,_,_,_,_,_,_,_,_,rfl⟩) ?_;rintro _ S4 ⟨lv4,tv4,O4,tr4,R4,T4,K4,rfl⟩;obtain⟨t4,r4⟩:=R4.cell;obtain⟨_,_,hlook,_⟩:=QL X.2 hok;obtain⟨rn,hrn⟩:=JeC hok;obtain⟨tb4,htb4⟩:=exE ((addT X.2 400 tbi).1);obtain⟨id,hid⟩:=exE ((addT X.2 400 tbi).2.1);rw[<-htb4]at R4 T4 hlook hrn;rw[<-hid]at hlook⊢;have hrec':Jr s.types JC=Jr (s.types.drop (i+1)) {tb4 with named:=setI X.1 id tb4.named}:=by rw[hrec,show X=(X.1,X.2)from rfl,JjO hok,htb4,hid]
  have dal:∀r,rowOf dv=some r->S3.row r≠ .none:=fun r e=>N.d.some e;have hd4:SlF S1 S4 dv 1 (ints ids):=N.d.keep fun r hr=>K4.same r (dal r hr) (N.dn r hr);have dn4:∀r,rowOf dv=some r->¬Bt ru lv4 tv4 O4 r:=fun r hr b=>by
   rcases K4.sub r b with x|x
   ·exact N.dn r hr x
   ·exact dal r hr x
  have w4:=R4.g.wf;obtain⟨n4,hn4⟩:=nxE S4;have oru:=fun k=>nes (Jz w4 hn4 (Jc r4) k);simp only[XY,simprocAttr];rw[Je,Jb];simp only[XY,simprocAttr];simp only[XY,simprocAttr,f4,r4,hn4,oru];obtain⟨A5,hA5⟩:=exE (S4.new fun t=>Row.cells t [V.int .i64 (id:Nat)]);have ga5:Gr S4 A5:=by rw[hA5];exact Gr.new w4 (Ja _)
  have hone:SlAt (fun r=>r=up 0 n4) A5 (.slx (up 0 n4) 0 1 1 1) 1 [[.int .i64 (id:Nat)]]:=by
   have:=Qd (st:=S4) (z:=1) (e:=[.int .i64 (id:Nat)]) rfl
   rwa [hn4,<-hA5]at this
  rw[<-hA5];clear hA5;have r5:=ga5.cells r4;refine Qw (S0:=S1) (R4.g.trans ga5) (hd4.gr ga5) hone (fun e he=>by rw[List.mem_singleton.1 he];rfl) (by simp) (by simp) (by rw[Yo];simp;omega) ?_;intro A6 dv6 g6 h6 rv6 kp6;have r6:A6.row ru= .cells t4 [lv4,tv4, .int .i64 s.main.kind,ofL s.main.name,nv,kv,tyv,sv,dv, .int .i64 ((0:Nat):Int), .snil]:=(kp6 ru (Jc r5) fun e=>dn4 ru e (.inl rfl)).trans r5;have sc6:=h6.at.sc;have cl6:=h6.at.cells;simp only[XZ,simprocAttr,f1,f4,f5,r6,sc6,cl6,hadd1];have nnx:∀r,A5.row r≠ .none->r≠A5.nx:=fun r e c=>e (by rw[c];exact Kj ga5.wf);have k7:∀r,Bt ru lv4 tv4 O4 r->r≠ru->(A6.wr ru t4 fun u=>Row.cells u [lv4,tv4, .int .i64 s.main.kind,ofL s.main.name,nv,kv,tyv,sv,dv6, .int .i64 ((0:Nat):Int), .snil]).row r=S4.row r:=fun r b hr=>by
   have al:=R4.alive r b;rw[Jk,if_neg hr,kp6 r (by rw[ga5.same r al];exact al) fun e=>dn4 r e b,ga5.same r al]
  have g7:Gr S1 (A6.wr ru t4 fun u=>Row.cells u [lv4,tv4, .int .i64 s.main.kind,ofL s.main.name,nv,kv,tyv,sv,dv6, .int .i64 ((0:Nat):Int), .snil]):=g6.wr run (Jc r6) (by rw[r6];rfl) (Ja _);have d6ru:∀r,rowOf dv6=some r->¬Bt ru lv4 tv4 O4 r:=fun r e b=>by
   rw[rv6]at e;injection e with e;have al:=R4.alive r b;exact nnx r (by rw[ga5.same r al];exact al) e.symm
  have hrt:=R4.rest (rest':=[.int .i64 s.main.kind,ofL s.main.name,nv,kv,tyv,sv,dv6, .int .i64 ((0:Nat):Int), .snil]) g7 ⟨_,Jm _ _ _ _⟩ k7;have hd7:SlF S1 (A6.wr ru t4 fun u=>Row.cells u [lv4,tv4, .int .i64 s.main.kind,ofL s.main.name,nv,kv,tyv,sv,dv6, .int .i64 ((0:Nat):Int), .snil]) dv6 1 (ints (ids++[id])):=by
   have e:ints (ids++[id])=ints ids++[[.int .i64 (id:Nat)]]:=by simp[ints]
   rw[e];exact h6.keep fun r hr=>by rw[Jk,if_neg fun c=>d6ru r hr (.inl c)]
  refine⟨s.types.length-(i+1),by omega,(hL _ _ _).2 ⟨i+1,lv4,tv4,dv6,O4,tr4,ids++[id],{tb4 with named:=setI X.1 id tb4.named},by omega,f1,f4,rfl,⟨hrt,T4,hd7,d6ru,by simp;omega,fun k hk hk'=> ?_⟩,by simp[hidl],hrec'⟩⟩;by_cases e:k<ids.length
  ·rw[List.getElem_append_left e];have:=N.at_ k e hk';rw[hrn];exact QT _ this
  ·have e2:k=ids.length:=by simp at hk;omega
   subst e2;rw[List.getElem_append_right (Nat.le_refl _)];simp only[Nat.sub_self,List.getElem_cons_zero];have hXi:s.types[ids.length]=X:=by rw[hX];congr 1
   rw[hXi];exact hlook
 ·have hi':¬(i:Int)<s.types.length:=by omega
  rw[List.drop_eq_nil_of_le (by omega),Jr]at hrec;rw[hrec,if_neg fun k=>k rfl,<-hM]at hnew;have hnew:newS s=if(addT M 400 tbi).2.2.1≠0 then(none,(addT M 400 tbi).2.2.1)else(some {(addT M 400 tbi).1 with main:=(addT M 400 tbi).2.1},0):=hnew;rw[<-hM]at room2 room3;have h1':TyC (fun r=>S1.row r≠ .none) S3 [.int .i64 M.kind,ofL M.name,nv,kv] M:=h1.imp fun r p _=>⟨by rw[g01.same r p];exact p,(g01.trans g3).same r p⟩
  have d04:ldn (S3.row p1) 0 4=some (.agg [.int .i64 M.kind,ofL M.name,nv,kv], .no):=by rw[kp1 g3];rfl
  rw[Je,Jb];simp only[XY,simprocAttr,f1,f5,kp1 g3,l2,hi'];rw[Jb];simp only[XY,simprocAttr,f1,f4,d04];by_cases hok:(addT M 400 tbi).2.2.1=0;rotate_left
  ·refine Jd (JqG _ M (Nat.lt_succ_self _) N.rt N.t h1' hok room2 room3 ⟨_,_,_,_,_,_,_,_,_,rfl⟩) ?_;rintro _ S4 ⟨g4,rfl⟩;simp only[XZ,simprocAttr];refine fin _ _ (fun r e=>by rw[g4.same r (by rw[g01.same r e];exact e),g01.same r e]) fun _=> ?_;unfold JaR;rw[hnew,if_pos hok,(Jen M 400 tbi).resolve_left hok]
  rw[if_neg fun k=>k hok]at hnew;refine Jd (Jox _ M (Nat.lt_succ_self _) N.rt N.t h1' hok ⟨_,_,_,_,_,_,_,_,_,rfl⟩) ?_;rintro _ S4 ⟨lv4,tv4,O4,tr4,R4,T4,K4,rfl⟩;obtain⟨t4,r4⟩:=R4.cell;obtain⟨rn,hrn⟩:=JeC hok;obtain⟨tb4,htb4⟩:=exE ((addT M 400 tbi).1);obtain⟨id,hid⟩:=exE ((addT M 400 tbi).2.1);rw[<-htb4]at R4 T4 hrn hnew;rw[<-hid]at hnew⊢;have dal:∀r,rowOf dv=some r->S3.row r≠ .none:=fun r e=>N.d.some e;have hd4:SlF S1 S4 dv 1 (ints ids):=N.d.keep fun r hr=>K4.same r (dal r hr) (N.dn r hr);have dn4:∀r,rowOf dv=some r->¬Bt ru lv4 tv4 O4 r:=fun r hr b=>by
   rcases K4.sub r b with x|x
   ·exact N.dn r hr x
   ·exact dal r hr x
  simp only[XY,simprocAttr];rw[Je,Jb];simp only[XY,simprocAttr];rw[Jb];simp only[XY,simprocAttr,f4,r4];obtain⟨S5,hS5⟩:=exE (S4.wr ru t4 fun u=> .cells u [lv4,tv4, .int .i64 s.main.kind,ofL s.main.name,nv,kv,tyv,sv,dv, .int .i64 (id:Nat), .snil]);have g5:Gr S1 S5:=by rw[hS5];exact R4.g.wr run (Jc r4) (by rw[r4];rfl) (Ja _)
  have k5:∀r,r≠ru->S5.row r=S4.row r:=fun r e=>by rw[hS5,Jk,if_neg e]
  have r5:∃t,S5.row ru= .cells t [lv4,tv4, .int .i64 s.main.kind,ofL s.main.name,nv,kv,tyv,sv,dv, .int .i64 (id:Nat), .snil]:=⟨_,by rw[hS5,Jk,if_pos rfl]⟩
  rw[<-hS5];clear hS5;have n0':¬(0:Int)<0:=by omega
  rw[Je,Jb];simp only[XY,simprocAttr];refine YY (by omega) ?_;simp only[XZ,simprocAttr,f1,f4,kp1 g5,l3,n0'];refine fin _ _ (fun r e=>by rw[g5.same r (by rw[g01.same r e];exact e),g01.same r e]) fun _=> ?_;unfold JaR;rw[hnew];refine⟨S1,ru,lv4,tv4,dv,nv,kv,sv,tyv,O4,tr4,ids,g01,rfl,⟨R4.rest g5 r5 fun r _ e=>k5 r e,T4,hd4.keep fun r hr=>k5 r fun e=>dn4 r hr (.inl e),dn4,by omega,fun k hk hk'=> ?_⟩,by omega,hty (Gr.refl w1)⟩;show Ki tb4.nodes _=_;rw[hrn];exact QT _ (N.at_ k hk hk')
theorem Jl9 {nodes:List Nd}{trees:List Ty}(h:Qa nodes trees){i:Nat}(hi:i<nodes.length)(hi':i<trees.length):nodes[i].name=trees[i].name:=by
 have hl:=h.look i hi';generalize trees[i]=X at hl;obtain⟨k,n,ns,ks⟩:=X;rw[Ki]at hl
 cases e:JS nodes ks with
 |none=>rw[e]at hl;cases hl
 | some ids=>
   rw[e]at hl;obtain⟨_,b⟩:=Jar hl;rw[Nat.sub_zero]at b;obtain⟨_,b⟩:=List.getElem?_eq_some_iff.1 b;rw[b];rfl
structure RD (S1 S:St) (s:Sch) (tb:Tb) (ru:Pt):Prop where
 ex:∃lv tv dv nv kv sv tyv O tr ids,RN S1 S s tb ru lv tv dv nv kv sv tyv O tr ids tb.main/\ids.length=s.types.length/\LstAt (NmC (fun r=>S1.row r≠ .none) S1) (fun r=>S1.row r≠ .none) S1 tyv 5 s.types
 of:Yy s tb
theorem RD.fz {S1 S S':St}{s:Sch}{tb:Tb}{ru:Pt}(h:RD S1 S s tb ru)(g:Gr S S'):RD S1 S' s tb ru:=by
 obtain⟨lv,tv,dv,nv,kv,sv,tyv,O,tr,ids,N,a,b⟩:=h.ex;exact⟨⟨lv,tv,dv,nv,kv,sv,tyv,O,tr,ids,⟨N.rt.gr g,N.t,N.d.gr g,N.dn,N.len,N.at_⟩,a,b⟩,h.of⟩
theorem Jrz {S1 S:St}{s:Sch}{tb:Tb}{ru:Pt}{id o:Nat}(hD:RD S1 S s tb ru)(ho:Kh tb (tb.nodes.length+1) id=(o,true)):
  Does (tabT tabD) 156 [.ptr ru 0, .int .i64 (id:Nat)] S fun v S'=>v= .tup [.int .i64 (o:Nat), .bool true]/\S=S':=by
 refine Jy (aT Tryz.func156 rfl) rfl ?_;have hof:=hD.of;obtain⟨lv,tv,dv,nv,kv,sv,tyv,O,tr,ids,N,hids,hty⟩:=hD.ex;obtain⟨t,hc⟩:=N.rt.cell;obtain⟨es,l1,l2,l3⟩:=N.rt.l;obtain⟨ts,u1,u2,u3⟩:=N.rt.t;have ll:=l1.at.len;rw[l2]at ll;have few:=N.t.few;have hl12:=(jJ hof.chk).1;have hty':LstAt (NmC (fun r=>S1.row r≠ .none) S) (fun r=>S1.row r≠ .none) S tyv 5 s.types:=hty.imp (fun _ _ x=>x.imp fun r p _=>⟨p,N.rt.g.same r p⟩) fun r p _=>⟨p,N.rt.g.same r p⟩
 have lty:=hty'.len;have hid:id<tb.nodes.length:=Classical.byContradiction fun c=>by rw[YK (by omega)]at ho;cases ho
 have n0:¬((id:Nat):Int)<0:=by omega
 have n1:¬((tb.nodes.length:Nat):Int)<=((id:Nat):Int):=by omega
 simp only[CT,Tryz.f156,XY,simprocAttr];rw[Jb];simp only[XY,simprocAttr];rw[Je,Jb];simp only[XY,simprocAttr,hc,ll,n0,n1];obtain⟨L,hL⟩:=loE fun f fr S'=>∃i:Nat,fr 0= .ptr ru 0/\fr 1= .int .i64 (i:Nat)/\Kh tb f i=(o,true)/\S'=S;rw[Je];simp only[XY,simprocAttr];refine Jn L (tb.nodes.length+1) (by omega) ((hL _ _ _).2 ⟨id,rfl,rfl,ho,rfl⟩) ?_;intro f fr S' hLj;obtain⟨i,f0,f1,hop,rfl⟩:=(hL _ _ _).1 hLj
 cases f with
 |zero=>cases hop
 |succ f=>
 have hi:i<tb.nodes.length:=Classical.byContradiction fun c=>by rw[YK (by omega)]at hop;cases hop
 obtain⟨r,q,a1,_,_,_,a5⟩:=l1.at.elem (i:=i) (by omega);obtain⟨xv,yv,he,_,_⟩:=l3 i (by omega) hi;have d0:ld1 (S'.row r) q=some (.int .i64 tb.nodes[i].kind, .no):=by
  have:=a5 0 (by rw[he];simp);rw[show q=q+0 from rfl,this];simp only[he,List.getElem_cons_zero]
 by_cases h9:tb.nodes[i].kind=9;rotate_left
 ·rw[Qm hi h9]at hop;injection hop with hop;subst hop;rw[Je,Jb];simp only[XZ,simprocAttr,f0,f1,hc,a1,d0,h9]
 have hnm:hasN s.types tb.nodes[i].name=true:=hof.inv.name i _ (List.getElem?_eq_getElem hi) h9;obtain⟨T,hT⟩:=JbS hnm;have htl:=N.t.len;have hit:i<tr.length:=by omega
 have htn:=Jl9 N.t hi hit;obtain⟨r',q',b1,_,_,_,b5⟩:=u1.at.elem (i:=i) (by omega);obtain⟨xv',yv',es',he',_,_,_,_⟩:=(u3 i (by omega) hit).inv;have d1:ld1 (S'.row r') (q'+1)=some (ofL tb.nodes[i].name, .no):=by
  have:=b5 1 (by rw[he'];simp);rw[this,htn];simp only[he',List.getElem_cons_succ,List.getElem_cons_zero]
 rw[Je,Jb];simp only[XY,simprocAttr,f0,f1,hc,a1,d0,h9];rw[Jb];simp only[XY,simprocAttr];obtain⟨M,hM⟩:=loE fun j fr S2=>∃k:Nat,j+k=s.types.length/\fr 0= .ptr ru 0/\fr 1= .int .i64 (i:Nat)/\fr 6= .int .i64 (k:Nat)/\(∀k' (h:k'<s.types.length),k'<k->s.types[k'].1≠tb.nodes[i].name)/\S2=S';refine Jn M s.types.length (by omega) ((hM _ _ _).2 ⟨0,by omega,f0,f1,by simp only[XZ,simprocAttr]<;>rfl,fun k' _ h=>absurd h (Nat.not_lt_zero _),rfl⟩) ?_;intro j fr S2 hMj;obtain⟨k,hj,f0,f1,f6,hno,rfl⟩:=(hM _ _ _).1 hMj;by_cases hk:k<s.types.length;rotate_left
 ·obtain⟨k',hk',e⟩:=List.getElem_of_mem hT;exact absurd (by rw[e]) (hno k' hk' (by omega))
 have hk':(k:Int)<s.types.length:=by omega
 have hadd1:IntKind.i64.wrap ((k:Int)+1)=((k+1:Nat):Int):=by rw[Jo (by omega) (by omega)];rfl
 obtain⟨r2,q2,e2,c1,_,_,_,⟨ce,hce,_⟩,c5,c6⟩:=hty'.elem hk;have d2:ld1 (S2.row r2) q2=some (ofL s.types[k].1, .no):=by
  have:=c6 0 (by omega);rw[show q2=q2+0 from rfl,this];simp only[hce,List.getElem_cons_zero]
 rw[Je,Jb];simp only[XY,simprocAttr,f0,f6,hc,lty,hk'];rw[Je];simp only[XY,simprocAttr];by_cases hkn:s.types[k].1=tb.nodes[i].name
 ·have hkk:k<ids.length:=by omega
  obtain⟨jj,g1,g2⟩:=hof.named _ (List.getElem_mem hk);have hjj:jj=ids[k]:=by
   have:=N.at_ k hkk hk;rw[g2]at this;injection this
  subst hjj;rw[hkn]at g1;rw[kq hi h9 g1]at hop;obtain⟨r3,q3,p1,_,_,_,p5⟩:=N.d.at.elem (i:=k) (by rw[Yo];exact hkk);have d3:ld1 (S2.row r3) q3=some (.int .i64 (ids[k]:Nat), .no):=by
   have:=p5 0 (by simp[ints]);rw[show q3=q3+0 from rfl,this];simp[ints]
  rw[Jb];simp only[XY,simprocAttr,f0,f1,f6,hc,c1,d2,b1,d1,hkn];simp only[XZ,simprocAttr,f0,f6,hc,p1,d3];exact⟨f,by omega,(hL _ _ _).2 ⟨ids[k],f0,rfl,hop,rfl⟩⟩
 ·rw[Jb];simp only[XY,simprocAttr,f0,f1,f6,hc,c1,d2,b1,d1,hkn];simp only[XZ,simprocAttr,f0,f6,hadd1];exact⟨s.types.length-(k+1),by omega,(hM _ _ _).2 ⟨k+1,by omega,f0,f1,rfl,fun k2 h2 h3=>by
   by_cases e:k2=k
   ·subst e;exact hkn
   ·exact hno k2 h2 (by omega),rfl⟩⟩
theorem Jf9 {P Q:Pt->Prop}{st:St}{v:V}{es:List (List V)}(hw:WF st)(h:SlAt P st v 1 es)(hok:okC es)(hn:es.length<2^20)(hQ:∀r,st.row r= .none->Q r):
  Does (tabT tabD) 136 [v] st fun v' st'=>Gr st st'/\SlAt Q st' v' 1 es:=by
 refine Does.gr tabM hw (Jy (aT Tryz.func136 rfl) rfl ?_);obtain⟨n,hn0⟩:=nxE st;have hold:=fun r (h:st.row r≠ .none)=>YJ hw hn0 h;rcases h.2 with⟨rfl,rfl⟩|⟨r,o,hp,hv,l,hl,h1,h2⟩
 ·have e1:eqV (.one .l) false .snil .snil=some (.bool true, .no):=rfl;simp only[CT,Tryz.f136,XZ,simprocAttr,e1];exact⟨fun _ _=>trivial,SlAt.nil _ _ _⟩
 ·have e1:eqV (.one .l) false v .snil=some (.bool false, .no):=by rcases hv with rfl|⟨c,_,rfl⟩<;>rfl
  have h':SlAt P (st.new fun t=> .cells t []) v 1 es:=h.imp fun r p e=>⟨p,Ko hw _ e⟩
  have r0:=JG st fun t=> .cells t [];have ha:appV (st.new fun t=> .cells t []) 1 (.slx st.nx 0 0 1 0) v=if 0<es.length then some (.sl (st.new fun t=> .cells t []).nx 0 es.length 1, .new fun u=> .cells u es.flatten)else some (.slx st.nx 0 0 1 0, .no):=by
   by_cases h0:0<es.length
   ·rw[if_pos h0];exact Jao h' hok hn h0 r0
   ·rw[if_neg h0];have:es=[]:=List.length_eq_zero_iff.1 (by omega);subst this;exact jZ h'
  rw[hn0]at ha;by_cases h0:0<es.length
  ·simp only[h0]at ha;simp only[CT,Tryz.f136,XZ,simprocAttr,e1,hn0,JaN,ha];refine⟨fun r hr=>by simp only[hold r hr,if_false], ?_⟩;refine SlAt.fresh (t:=(st.new fun t=> .cells t []).t) (by simp only[XZ,simprocAttr,hn0]) (hQ _ ?_) h.1;exact nx0 hw hn0 1
  ·simp only[h0]at ha;simp only[CT,Tryz.f136,XZ,simprocAttr,e1,hn0,JaN,ha];refine⟨fun r hr=>by simp only[hold r hr,if_false], ?_⟩;have:es=[]:=List.length_eq_zero_iff.1 (by omega);subst this;exact SlAt.freshx (t:=st.t) (by simp only[XZ,simprocAttr,hn0,List.flatten_nil]) (hQ _ (nx0 hw hn0 0)) h.1
theorem qr {P Q:Pt->Prop}{st:St}{v:V}{es:List (List V)}(hw:WF st)(h:SlAt P st v 1 es)(hok:okC es)(hn:es.length<2^20)(hQ:∀r,st.row r= .none->Q r):
  Does (tabT tabD) 83 [v] st fun v' st'=>Gr st st'/\SlAt Q st' v' 1 es:=by
 refine Does.gr tabM hw (Jy (aT Tryz.func83 rfl) rfl ?_);obtain⟨n,hn0⟩:=nxE st;have hold:=fun r (h:st.row r≠ .none)=>YJ hw hn0 h;rcases h.2 with⟨rfl,rfl⟩|⟨r,o,hp,hv,l,hl,h1,h2⟩
 ·have e1:eqV (.one .l) false .snil .snil=some (.bool true, .no):=rfl;simp only[CT,Tryz.f83,XZ,simprocAttr,e1];exact⟨fun _ _=>trivial,SlAt.nil _ _ _⟩
 ·have e1:eqV (.one .l) false v .snil=some (.bool false, .no):=by rcases hv with rfl|⟨c,_,rfl⟩<;>rfl
  have h':SlAt P (st.new fun t=> .cells t []) v 1 es:=h.imp fun r p e=>⟨p,Ko hw _ e⟩
  have r0:=JG st fun t=> .cells t [];have ha:appV (st.new fun t=> .cells t []) 1 (.slx st.nx 0 0 1 0) v=if 0<es.length then some (.sl (st.new fun t=> .cells t []).nx 0 es.length 1, .new fun u=> .cells u es.flatten)else some (.slx st.nx 0 0 1 0, .no):=by
   by_cases h0:0<es.length
   ·rw[if_pos h0];exact Jao h' hok hn h0 r0
   ·rw[if_neg h0];have:es=[]:=List.length_eq_zero_iff.1 (by omega);subst this;exact jZ h'
  rw[hn0]at ha;by_cases h0:0<es.length
  ·simp only[h0]at ha;simp only[CT,Tryz.f83,XZ,simprocAttr,e1,hn0,JaN,ha];refine⟨fun r hr=>by simp only[hold r hr,if_false], ?_⟩;refine SlAt.fresh (t:=(st.new fun t=> .cells t []).t) (by simp only[XZ,simprocAttr,hn0]) (hQ _ ?_) h.1;exact nx0 hw hn0 1
  ·simp only[h0]at ha;simp only[CT,Tryz.f83,XZ,simprocAttr,e1,hn0,JaN,ha];refine⟨fun r hr=>by simp only[hold r hr,if_false], ?_⟩;have:es=[]:=List.length_eq_zero_iff.1 (by omega);subst this;exact SlAt.freshx (t:=st.t) (by simp only[XZ,simprocAttr,hn0,List.flatten_nil]) (hQ _ (nx0 hw hn0 0)) h.1
theorem keyed {P:Pt->Prop}{st:St}{e:List V}{nd:Nd}(hw:WF st)(h:NdC P st e nd)(hf:nd.fit):
  Does (tabT tabD) 135 [.agg e] st fun v st'=>Gr st st'/\v= .agg (keyL nd):=by
 refine Does.gr tabM hw (Jy (aT Tryz.func135 rfl) rfl ?_);obtain⟨n,hn0⟩:=nxE st;have hold:=fun r (h:st.row r≠ .none)=>YJ hw hn0 h;obtain⟨nv,kv,rfl,h1,h2⟩:=h;have l1:=h1.len;have l2:=h2.len;rw[JW]at l1;rw[Yo]at l2;simp only[CT,Tryz.f135,XZ,simprocAttr,hn0,h1.cells,h2.cells,h1.sc,h2.sc,l1,l2,List.getElem?_cons_zero,List.getElem?_cons_succ];have hS:=fun(r:Pt) (hr:st.row r≠ .none)=>hold r hr;refine Jk4 (st0:=st) (t:= ?t) (l:= ?l) h1 ?hS (kf _) ?hr ?hle ?hn ?k
 case hr=>simp only[XZ,simprocAttr,hn0];rfl
 case hS=>intro r hr;simp only[XZ,simprocAttr,hn0,hold r hr]
 case hle=>simp only[XZ,simprocAttr]
 case hn=>rw[JW];exact hf.1
 intro S1 t1 r1 o1 n1;have q0:S1.row (up 0 n)= .cells _ _:=(o1 _ (by simp only[jE];decide)).trans (by simp only[XZ,simprocAttr,hn0];rfl);have q1:S1.row (up 1 n)= .cells _ _:=(o1 _ (by simp only[jE];decide)).trans (by simp only[XZ,simprocAttr,hn0];rfl);have eo:∀r,st.row r≠ .none->S1.row r=st.row r:=fun r hr=>(o1 r (Jz hw hn0 hr 2)).trans (by simp only[XZ,simprocAttr,hn0,hold r hr]);have m1:S1.nx=up 3 n:=n1.trans (by simp only[XZ,simprocAttr,hn0]);clear o1 n1;rw[JfJ,Jsd _ _ _ _ _ _ _ (by simpa using hf.1)]at r1;obtain⟨L1,hL1⟩:∃L,L=[V.int IntKind.i64 nd.kind,V.int IntKind.i64 ↑nd.names.length,V.int IntKind.i64 ↑nd.kids.length,ofL nd.name]++(pad (nd.names.map ofL) (ofL [])++List.replicate 8 (V.int IntKind.i64 0)):=⟨_,rfl⟩
 rw[<-hL1]at r1;have h12:20<=L1.length:=by
  rw[hL1,List.length_append,List.length_append,Jdj (by simpa using hf.1),List.length_replicate];exact Nat.le_refl _
 simp only[XZ,simprocAttr,r1,q0,q1,h12];refine Jk4 (st0:=st) h2 eo (Jgv _) r1 h12 (by rw[Yo];exact hf.2) ?_;intro S2 t2 r2 o2 n2;have q1:S2.row (up 1 n)= .cells _ _:=(o2 _ (by simp only[jE];decide)).trans q1;have eo:∀r,st.row r≠ .none->S2.row r=st.row r:=fun r hr=>(o2 r (Jz hw hn0 hr 2)).trans (eo r hr);have m1:S2.nx=up 3 n:=n2.trans m1;clear o2 n2;rw[Jcb,hL1,Jse _ _ _ _ _ _ _ _ (by simpa using hf.1) (by simpa using hf.2)]at r2;have r2:S2.row (up 2 n)= .cells t2 (keyL nd):=r2;have k1:=JbI hf;have k2:20<=(keyL nd).length:=by rw[k1];decide
 have k3:(keyL nd).take 20=keyL nd:=by rw[<-k1,List.take_length]
 simp only[XZ,simprocAttr,r2,q1,k2,k3,k1,Jgw];exact fun r hr=>by simp only[hold r hr,if_false];exact eo r hr
theorem lay {W F P:Pt->Prop}{st:St}{rt:Pt}{tb:Tb}{e:List V}{nd:Nd}(hw:WF st)(hT:Tab W F st rt tb)(hn:NdC P st e nd)(hf:nd.fit):
  Does (tabT tabD) 108 [.ptr rt 0, .agg e] st fun v st'=>Ch W st st'/\(∃W' F':Pt->Prop,(∀r,W r->W' r)/\(∀r,W' r->W r\/st.row r= .none)/\(∀r,F' r->F r\/st.row r= .none)/\Tab W' F' st' rt (layS tb nd).1)/\v= .tup [.int .i64 ((layS tb nd).2.1:Nat), .int .i64 (layS tb nd).2.2]:=by
 refine Does.ch tabM hw (Jy (aT Tryz.func108 rfl) rfl ?_);obtain⟨lv,ra,rn,rs,es,sv,hT⟩:=hT.live;obtain⟨n,hn0⟩:=nxE st;have hnd:=hn;obtain⟨nv,kv,rfl,h1,h2⟩:=hn;have g0:Gr st (st.new fun t=> .cells t [.int .i64 nd.kind,ofL nd.name,nv,kv]):=Gr.new hw fun u=>⟨rfl,fun e=>by cases e⟩
 simp only[CT,Tryz.f108,XZ,simprocAttr,hn0,h1.cells,h2.cells,h1.sc,h2.sc];refine Jd (keyed (P:=P) g0.wf (hnd.gr g0) hf) ?_;rintro _ st1 ⟨g1,rfl⟩;have G1:=g0.trans g1;have w1:=G1.wf;have b0:st1.row (up 0 n)= .cells st.t [.int .i64 nd.kind,ofL nd.name,nv,kv]:=g1.cells (by simp only[XZ,simprocAttr,hn0]);have hT1:=hT.gr G1;have hnd1:=hnd.gr G1;obtain⟨n1,hn1⟩:=nxE st1;have hold1:=fun r (h:st1.row r≠ .none)=>YJ w1 hn1 h;have o0:=hold1 (up 0 n) (by rw[b0];exact fun e=>by cases e);obtain⟨tt,c1⟩:=hT1.cell;have ort:=hold1 rt hT1.rt_ne;have k1:=JbI hf;have k2:20<=(keyL nd).length:=by rw[k1];decide
 have k3:(keyL nd).take 20=keyL nd:=by rw[<-k1,List.take_length]
 have hfit:ekN.fit (encN nd)=true:=by
  have:(keyL nd).length==20:=by rw[k1];rfl
  exact this
 have heq:∀p∈(tb.nodes.zipIdx.map fun p=>(p.1,V.int .i64 (p.2:Int))),ekN.eq (encN nd) (encN p.1)=some (decide (nd=p.1)):=fun p hp=>by
  obtain⟨q,hq,rfl⟩:=List.mem_map.1 hp;exact Jrg hf (hT1.fit _ (List.fst_mem_of_mem_zipIdx hq))
 have hlk:∀S:St,S.row ra=st1.row ra->QX S ekN (.int .i64 0) true (.map ra) (.agg (keyL nd))=some (ansL (.int .i64 0) true (at_ nd (tb.nodes.zipIdx.map fun p=>(p.1,V.int .i64 (p.2:Int)))), .no):=fun S hS=>
  Qi (enc:=encN) (hT1.key.of hS) _ _ nd heq hfit
 have ora:=hold1 ra hT1.key.ne;have k4:JI [V.int .i64 0,V.int .i64 0,V.int .i64 0,ofL [],ofL [],ofL [],ofL [],ofL [],ofL [],ofL [],ofL [],ofL [],V.int .i64 0,V.int .i64 0,V.int .i64 0,V.int .i64 0,V.int .i64 0,V.int .i64 0,V.int .i64 0,V.int .i64 0] 0 (keyL nd)=keyL nd:=Q1 (by rw[k1];rfl);have hlay:layS tb nd=match idx nd tb.nodes 0 with
  |some i=>(tb,i,0)
  |none=>if 120<=tb.nodes.length then(tb,0,20)else({tb with nodes:=tb.nodes++[nd]},tb.nodes.length,0):=rfl
 have g2:Gr st1 ((st1.new fun t=> .cells t zk).wr (up 0 n1) st1.t fun u=> .cells u (keyL nd)):=(Gr.refl w1).nw hn1 (Ja _) (Ja _);have hz:=Jgx nd tb.nodes 0
 cases hi:idx nd tb.nodes 0 with
 | some i=>
   simp only[hi]at hlay hz;obtain⟨_,i1,i2⟩:=JnC hi;simp only[Nat.sub_zero]at i1 i2;have i3:i<es.length:=by rw[hT.len];exact i1
   obtain⟨q,qo,a1,a2,a3,a4,a5,a6⟩:=hT1.elem i3;have oq:=hold1 q a2;simp only[XM,simprocAttr,b0,hn1,o0,ort,c1,k1,k2,k3,Jgw,k4,hlk,ora,hz,Option.map_some,ansL,a1,oq,a5];refine Ji (keyed (JD g2.wf _) (((hT1.nd i i3 i1).gr g2).low _) (hT1.fit _ (List.getElem_mem i1))) ?_;rintro _ st3 g3 rfl;rw[i2];have kk:st3.row (up 0 n1)= .cells _ (keyL nd):=g3.cells (by simp only[XZ,simprocAttr,hn1];rfl);have l1:(padI nd.kids).length=8:=by have:=hf.2;simp[padI];omega
   simp only[XZ,simprocAttr,k1,k2,JlN hf,kk,Jpj l1];rw[hlay];have G3:=G1.trans (g2.trans g3);exact⟨fun r h _=>G3.same r h,⟨W,_,fun _ h=>h,fun _ h=> .inl h,fun _ h=> .inl h.1,lv,ra,rn,rs,es,sv,hT.gr G3⟩,rfl⟩
 | none=>
   simp only[hi]at hlay hz;simp only[XM,simprocAttr,b0,hn1,o0,ort,c1,k1,k2,k3,Jgw,k4,hlk,ora,hz,Option.map_none,ansL,hT1.l.len];by_cases h120:120<=tb.nodes.length
   ·have h120':(120:Int)<=(tb.nodes.length:Int):=by omega
    simp only[XZ,simprocAttr,h120'];rw[hlay,if_pos h120];have G3:=G1.trans g2;exact⟨fun r h _=>by have:=G3.same r h;simpa only[Kg,Jk,hn1]using this,⟨W,_,fun _ h=>h,fun _ h=> .inl h,fun _ h=> .inl h.1,lv,ra,rn,rs,es,sv,hT.gr G3⟩,rfl⟩
   have h120':¬(120:Int)<=(tb.nodes.length:Int):=by omega
   simp only[XZ,simprocAttr,h120',b0,o0,hn1];refine Ji (qr (Q:=fun r=>st.row r= .none/\¬W r/\r≠up 0 n) (JD g2.wf _) (((h1.gr G1).gr g2).low _) (kf _) (by rw[JW];have:=hf.1;omega) ?_) ?_
   ·exact fun r hr=>⟨Ch.fresh (Ch.of W (G1.trans g2)) hr,fun w=>hT.own r w (by rw[<-(G1.trans g2).same r (hT.own r w)];exact hr),fun e=>Jc (g2.cells b0) (by rw[<-e];exact hr)⟩
   rintro nv' st3 g3 c3;have c3:=c3.unlow;have b3:st3.row (up 0 n)= .cells _ _:=g3.cells (g2.cells b0);simp only[XZ,simprocAttr,b3];refine Ji (Jf9 (Q:=fun r=>st.row r= .none/\¬W r/\r≠up 0 n) (JD g3.wf _) ((((h2.gr G1).gr g2).gr g3).low _) (Jgv _) (by rw[Yo];have:=hf.2;omega) ?_) ?_
   ·exact fun r hr=>⟨Ch.fresh (Ch.of W ((G1.trans g2).trans g3)) hr,fun w=>hT.own r w (by rw[<-((G1.trans g2).trans g3).same r (hT.own r w)];exact hr),fun e=>Jc b3 (by rw[<-e];exact hr)⟩
   rintro kv' st4 g4 c4;have c4:=c4.unlow;have c3:=c3.gr g4;have b4:st4.row (up 0 n)= .cells _ _:=g4.cells b3;have kk:st4.row (up 0 n1)= .cells _ (keyL nd):=g4.cells (g3.cells (by simp only[XZ,simprocAttr,hn1];rfl));have G4:Gr st st4:=((G1.trans g2).trans g3).trans g4;have hT4:=hT.gr G4;obtain⟨t4,d4⟩:=hT4.cell;obtain⟨t5,m5⟩:=hT4.key;have hne1:=nes (Jz hw hn0 hT.rt_ne 0);have hne2:=nes (Jz w1 hn1 hT1.rt_ne 0);have hne3:=nes (Jz hw hn0 hT.key.ne 0);have hne4:=nes (Jz w1 hn1 (Jc b0) 0);have hne5:=nes (show rt≠ra from fun e=>by rw[e,m5]at d4;cases d4);have hne6:=nes (Jz w1 hn1 hT1.key.ne 0);have hmu:∀(S:St) (v:V),S.row ra=st4.row ra->JbA S ekN (.map ra) (.agg (keyL nd)) v=_:=fun S v hS=>jd (enc:=encN) (hS.trans m5) nd v heq hfit;obtain⟨n4,hn4⟩:=nxE st4;have w4:=g4.wf;have hold4:=fun r (h:st4.row r≠ .none)=>YJ w4 hn4 h;have o4a:=nes (Jz w4 hn4 hT4.rt_ne 0);have o4b:=nes (Jz w4 hn4 (Jc b4) 0);have o4c:=nes (Jz w4 hn4 hT4.key.ne 0);have o4d:=nes (Jz w4 hn4 hT4.rt_ne 1);have gw:Gr st1 st1:=Gr.refl w1;have wS:WF ((((st4.wr (up 0 n) st.t fun u=>Row.cells u [V.int IntKind.i64 nd.kind,ofL nd.name,nv',kv]).wr (up 0 n) st4.t fun u=>Row.cells u [V.int IntKind.i64 nd.kind,ofL nd.name,nv',kv']).wr ra t5 fun u=>Row.mob u
        (List.map (fun p=>(encN p.fst,p.snd)) (Qy nd (V.int IntKind.i64 ↑tb.nodes.length) (List.map (fun p=>(p.fst,V.int IntKind.i64 ↑p.snd)) tb.nodes.zipIdx)))).new fun u=>Row.cells u [V.int IntKind.i64 nd.kind,ofL nd.name,nv',kv']):=by
    refine(YV (QW (QW (QW w4 (Jc b4) (by rw[b4];rfl) (Ja _)).wf ?_ ?_ (Ja _)).wf ?_ ?_ (K1 _)).wf (Ja _)).wf
    all_goals simp only[Jk,hne3,if_true,if_false,m5]
    ·exact fun e=>by cases e
    ·rfl
    ·exact fun e=>by cases e
    ·rfl
   have hm5:st4.row ra≠ .none:=hT4.key.ne;simp only[XZ,simprocAttr,b4,kk,d4,c3.cells,c4.cells,c3.sc,c4.sc,hne1,hne2,hne3,hne4,hne5,hne6,k2,k3,hT4.l.len,hmu,hn4];refine JnD (rt:=rt) (hT4.l.imp fun r t hr1 hr2 hr3=> ?_) (tq:= ?tq) (new:=[V.int IntKind.i64 nd.kind,ofL nd.name,nv',kv']) ?hq rfl ?hsc (by omega) wS ?_
   ·have e1:=nes (Jz w4 hn4 (Jc hr3) 0);have e2:=nes (Jz hw hn0 (hT.own r hr1) 0);have e3:=nes (show r≠ra from fun e=>by rw[e,m5]at hr3;cases hr3);simp only[Kg,Jk,YX,hn4,e1,e2,e3,if_false]
   case hq=>simp only[Kg,Jk,YX,hn4,if_true];rfl
   case hsc=>simp only[XZ,simprocAttr,c3.sc,c4.sc]
   intro S5 t6 r5 n5 s5 x5 _;simp only[YI,YX,hn4,Yn,Nat.reduceAdd,Nat.zero_add]at r5 n5;have f5:∀r,r≠up 1 n4->rowOf lv≠some r->r≠up 0 n4->r≠ra->r≠up 0 n->S5.row r=st4.row r:=fun r a1 a2 a3 a4 a5=>by
    rw[s5 r (by simp only[YI,YX,hn4,Yn];exact a1) a2];simp only[Kg,Jk,YX,hn4,a3,a4,a5,if_false]
   have hlr:rowOf lv≠some rt:=fun e=>(hT.l.row e).2.1 rfl;have d5:S5.row rt= .cells t4 [lv, .map ra, .map rn, .int .i64 tb.main, .map rs]:=by
    rw[f5 rt (Jz w4 hn4 hT4.rt_ne 1) hlr (Jz w4 hn4 hT4.rt_ne 0) (by have:=hne5.1;simpa using this) (Jz hw hn0 hT.rt_ne 0),d4]
   simp only[XZ,simprocAttr,d5,hn4,Jgo];rw[hlay,if_neg h120];have q1:st4.row (up 1 n4)= .none:=nx0 w4 hn4 1;have q2:st.row (up 1 n4)= .none:=Classical.byContradiction fun e=>by rw[G4.same _ e]at q1;exact e q1
   refine⟨fun r hr hW=> ?_,⟨fun r=>W r\/r=up 1 n4,fun r=>(F r/\st.row r≠ .none)\/(st.row r= .none/\¬W r/\r≠up 1 n4),fun r w=> .inl w, ?_, ?_, .sl (up 1 n4) 0 (tb.nodes.length+1) 4,ra,rn,rs,es++[[.int .i64 nd.kind,ofL nd.name,nv',kv']],sv,hT.push q2 ⟨S5.t, ?_⟩ ⟨t6, ?_⟩ ⟨(((st4.wr (up 0 n) st.t fun u=>Row.cells u [V.int IntKind.i64 nd.kind,ofL nd.name,nv',kv]).wr (up 0 n) st4.t fun u=>Row.cells u [V.int IntKind.i64 nd.kind,ofL nd.name,nv',kv'])).t, ?_⟩ ?_ ?_ (fun r f=> .inl f) ?_ ?_ hf hi (by omega)⟩, ?_⟩
   ·have e1:r≠rt:=fun e=>hW (by rw[e];exact hT.w.1);have e4:st4.row r≠ .none:=by rw[G4.same r hr];exact hr
    simp only[e1,if_false];rw[f5 r (Jz w4 hn4 e4 1) (fun e=>hW (hT.l.row e).1) (Jz w4 hn4 e4 0) (fun e=>hW (by rw[e];exact hT.w.2.1)) (Jz hw hn0 hr 0),G4.same r hr]
   ·rintro r (w|rfl)
    ·exact .inl w
    ·exact .inr q2
   ·rintro r (f|f)
    ·exact .inl f.1
    ·exact .inr f.1
   ·simp only[Jk,if_true]
   ·simp only[Jk,o4d,if_false];exact r5
   ·simp only[Jk,hne5,if_false];rw[s5 ra (by simp only[YI,YX,hn4,Yn];exact Jz w4 hn4 hm5 1) (fun e=>by obtain⟨_,_,t2,h2⟩:=hT4.l.row e;rw[h2]at m5;cases m5)];simp only[Kg,Jk,YX,hn4,o4c,if_true,if_false]
   ·intro r hr a1 a2 a3;have hr4:st4.row r≠ .none:=by rw[G4.same r hr];exact hr
    simp only[Jk,a1,if_false];rw[f5 r (Jz w4 hn4 hr4 1) a3 (Jz w4 hn4 hr4 0) a2 (Jz hw hn0 hr 0),G4.same r hr]
   ·intro r hr;have hr4:st4.row r≠ .none:=by rw[G4.same r hr];exact hr
    simp only[Jk]
    split
    ·exact fun e=>by cases e
    ·refine x5 r ?_;simp only[Kg,Jk,YX,hn4]
     repeat' split
     all_goals first|exact hr4|exact fun e=>by cases e
   ·rintro r (f|f)
    ·exact⟨hT.fw r f,fun e=>f.2 (by rw[e];exact q2)⟩
    ·exact f.2
   ·refine⟨nv',kv',rfl,c3.imp fun r p e=> ?_,c4.imp fun r p e=> ?_⟩
    all_goals
     refine⟨.inr ⟨p.1,p.2.1,Jz w4 hn4 e 1⟩, ?_⟩;have e1:r≠rt:=fun k=>p.2.1 (by rw[k];exact hT.w.1);simp only[Jk,e1,if_false];exact f5 r (Jz w4 hn4 e 1) (fun k=>p.2.1 (hT.l.row k).1) (Jz w4 hn4 e 0) (fun k=>p.2.1 (by rw[k];exact hT.w.2.1)) p.2.2
   ·rw[Jo (by omega) (by omega)];simp
end Go.Proofs.YtgmmjcgkklgeeaaGreat
