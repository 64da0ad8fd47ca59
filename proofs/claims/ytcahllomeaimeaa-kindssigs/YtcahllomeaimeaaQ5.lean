/- The document's way to tell Opts in Opts. All types of a schema: the document's. The document's check of a schema. Types told apart. The document's Add. The document's table of a schema of one function. No condition. -/
import Derived.Test.YtcahllomeaimeaaQ4
set_option linter.unusedVariables false
set_option linter.unusedSimpArgs false
set_option maxRecDepth 100000
namespace Go.Proofs.Ytcahllomeaimeaa
open Eva Go.RowKit
theorem Jeh (l:List (Str×Ty))(t:Ty){i:Nat}(h:(openT l i t).kind≠9):∀j,openT l (i+j) t=openT l i t
 |0=>rfl
 | j+1=>by
   rw[<-Nat.add_assoc,Y4,Jeh l t h j,if_neg h]
set_option maxHeartbeats 4000000 in
theorem ropenC {P:Pt->Prop}{st:St}{E e:List V}{s:Sch}{t:Ty}(hw:WF st)(h:SchC P st E s)(ht:TyC P st e t)(hP:∀r,P r->st.row r≠ .none)(hl:s.types.length<=100):
  Does (tabT tabD) Jci [.agg E, .agg e] st fun v S=>Gr st S/\∃e',v= .agg e'/\TyC P st e' (openT s.types (s.types.length+1) t):=by
 refine Jw tabM JbD rfl hw fun K fin=> ?_
 obtain⟨n0,hn0⟩:∃n,st.nx=up 0 n:=⟨_,up0 _⟩
 have hsch:=h
 obtain⟨c,tv,sv,rfl,h1,h2,h3⟩:=h
 obtain⟨l,hll⟩:∃l,l=s.types:=⟨_,rfl⟩
 rw[<-hll]at h2 hl fin
 obtain⟨nv0,kv0,es0,rfl,x1,x2,x3,x4⟩:=h1.inv
 have ht0:=ht
 obtain⟨nv,kv,es,rfl,y1,y2,y3,y4⟩:=ht.inv
 have l1:=h2.len
 have cs1:=x1.cells
 have cs2:=x1.sc
 have cs3:=x2.cells
 have cs4:=x2.sc
 have cv1:=h2.sc
 have cv2:=h3.sc
 have ct1:=y1.cells
 have ct2:=y1.sc
 have ct3:=y2.cells
 have ct4:=y2.sc
 obtain⟨I,hI⟩:∃I:Fr->St->Prop,∀fr S,I fr S<->(Gr st S/\fr 2= .ptr (up 0 n0) 0/\fr 3= .ptr (up 1 n0) 0/\fr 4= .ptr (up 2 n0) 0/\(∃u,S.row (up 0 n0)= .cells u [.int .i64 s.main.kind,ofL s.main.name,nv0,kv0,tv,sv])/\(∃u,S.row (up 1 n0)= .cells u [.int .i64 t.kind,ofL t.name,nv,kv])/\(∃u,S.row (up 2 n0)= .cells u [.int .i64 0,ofL [], .snil, .snil])):=⟨_,fun _ _=>Iff.rfl⟩
 simp only[Qe,XY,simprocAttr]
 refine Q8 I ?_ ?_
 ·simp only[XZ,simprocAttr,hn0,cs1,cs2,cs3,cs4,cv1.1,cv1.2,cv2.1,cv2.2,ct1,ct2,ct3,ct4]
  exact(hI _ _).2 ⟨((Gr.new hw (Ja _)).nn (Ja _)).nn (Ja _),by simp only[XZ,simprocAttr],by simp only[XZ,simprocAttr],by simp only[XZ,simprocAttr],⟨_,by simp only[XZ,simprocAttr,hn0];rfl⟩,⟨_,by simp only[XZ,simprocAttr,hn0];rfl⟩,⟨_,by simp only[XZ,simprocAttr,hn0];rfl⟩⟩
 intro fr S hIf
 obtain⟨g0,f2,f3,f4,⟨t0,r0⟩,⟨t1,r1⟩,⟨t2,r2⟩⟩:=(hI _ _).1 hIf
 rw[Jf,Jc];simp only[XY,simprocAttr]
 have kne:=fun r (e:st.row r≠ .none) (k:Nat)=>Js hw hn0 e k
 have o01:up 0 n0≠up 1 n0:=by rw[kM];decide
 have o21:up 2 n0≠up 1 n0:=by rw[kM];decide
 obtain⟨L,hL⟩:∃L:Nat->Fr->St->Prop,∀j fr S',L j fr S'<->∃(i:Nat) (c:List V),j+i=l.length+1/\fr 2= .ptr (up 0 n0) 0/\fr 3= .ptr (up 1 n0) 0/\fr 4= .ptr (up 2 n0) 0/\fr 5= .int .i64 i/\Gr st S'/\(∃u,S'.row (up 0 n0)= .cells u [.int .i64 s.main.kind,ofL s.main.name,nv0,kv0,tv,sv])/\(∃u,S'.row (up 1 n0)= .cells u c)/\(∃u,S'.row (up 2 n0)= .cells u [.int .i64 0,ofL [], .snil, .snil])/\TyC P st c (openT l i t):=⟨_,fun _ _ _=>Iff.rfl⟩
 refine Jq L (l.length+1) (by omega) ((hL _ _ _).2 ⟨0,_,by omega,by simp only[XZ,simprocAttr,f2],by simp only[XZ,simprocAttr,f3],by simp only[XZ,simprocAttr,f4],by simp only[XZ,simprocAttr]<;>rfl,g0,⟨_,r0⟩,⟨_,r1⟩,⟨_,r2⟩,ht0⟩) ?_
 clear f2 f3 f4 r0 r1 r2
 intro j fr S' hLj
 obtain⟨i,c,hj,f2,f3,f4,f5,hg,⟨u0,r0⟩,⟨u1,r1⟩,⟨u2,r2⟩,hc⟩:=(hL _ _ _).1 hLj
 obtain⟨T,hT⟩:∃T,T=openT l i t:=⟨_,rfl⟩
 rw[<-hT]at hc
 have hlast:=Y4 l i t
 rw[<-hT]at hlast
 have hc0:=hc
 obtain⟨nv1,kv1,es1,rfl,z1,z2,z3,z4⟩:=hc.inv
 have d1:=z1.cells
 have d2:=z1.sc
 have d3:=z2.cells
 have d4:=z2.sc
 have done:openT l (l.length+1) t=T->K (.agg [.int .i64 T.kind,ofL T.name,nv1,kv1]) (S'.wr (up 2 n0) u2 fun u=> .cells u [.int .i64 T.kind,ofL T.name,nv1,kv1]):=fun hh=>by
  refine fin _ _ (fun r e=> ?_) fun _=>⟨_,rfl,by rw[hh];exact hc0⟩
  rw[Jm _ _ _ (kne r e 2),hg.same r e]
 by_cases hi:i<=l.length
 ·have hi':(i:Int)<=l.length:=by omega
  by_cases k9:T.kind=9
  ·have hadd1:IntKind.i64.wrap ((i:Int)+1)=((i+1:Nat):Int):=by rw[Jp (by omega) (by omega)];rfl
   simp only[XZ,simprocAttr,f2,f3,f5,r0,l1,hi',r1,k9,cs1,cs2,cs3,cs4,cv1.1,cv1.2,cv2.1,cv2.2]
   refine Jb (rdefC (P:=P) (s:=s) T.name hg.wf (hsch.imp fun r p e=>⟨p,hg.same r e⟩) (by rw[<-hll];omega)) ?_
   rw[<-hll]
   rintro _ S2 ⟨g2,E',rfl,hE⟩
   have hE:TyC P st E' ((defN l T.name).getD zeroTy):=hE.imp fun r p e=>⟨p,(hg.same r (hP r p)).symm⟩
   have r02:=g2.cells r0
   have r12:=g2.cells r1
   have r22:=g2.cells r2
   obtain⟨nv2,kv2,es2,rfl,w1,w2,w3,w4⟩:=hE.inv
   have e1:=w1.cells
   have e2:=w1.sc
   have e3:=w2.cells
   have e4:=w2.sc
   have G2:=hg.trans g2
   have g3:=G2.wr (p:=up 1 n0) (t:=u1) (f:=fun u=> .cells u [.int .i64 ((defN l T.name).getD zeroTy).kind,ofL ((defN l T.name).getD zeroTy).name,nv2,kv2]) (nx0 hw hn0 1) (Je r12) (by rw[r12];rfl) (Ja _)
   simp only[XZ,simprocAttr,f3,f5,r12,e1,e2,e3,e4,hadd1]
   exact⟨l.length+1-(i+1),by omega,(hL _ _ _).2 ⟨i+1,_,by omega,by simp only[XZ,simprocAttr,f2],by simp only[XZ,simprocAttr,f3],by simp only[XZ,simprocAttr,f4],by simp only[XZ,simprocAttr],g3,⟨u0,by rw[Jm _ _ _ o01,r02]⟩,⟨_,Jl _ _ _ _⟩,⟨u2,by rw[Jm _ _ _ o21,r22]⟩,by rw[hlast,if_pos k9];exact hE⟩⟩
  ·have hst:openT l (l.length+1) t=T:=by
    have:=Jeh l t (i:=i) (by rw[<-hT];exact k9) (l.length+1-i)
    rw[show i+(l.length+1-i)=l.length+1 by omega]at this
    rw[this,hT]
   simp only[XZ,simprocAttr,f2,f3,f4,f5,r0,l1,hi',r1,r2,k9,d1,d2,d3,d4]
   exact done hst
 ·have hi':¬(i:Int)<=l.length:=by omega
  have hie:i=l.length+1:=by omega
  simp only[XZ,simprocAttr,f2,f3,f4,f5,r0,l1,hi',r1,r2,d1,d2,d3,d4]
  exact done (by rw[hT,hie])
set_option maxHeartbeats 4000000 in
theorem roptsC :∀(m:Nat) (ty:Ty),tsz ty<m->∀(P:Pt->Prop) (st:St) (s:Sch) (E e:List V),WF st->SchC P st E s->TyC P st e ty->(∀r,P r->st.row r≠ .none)->s.types.length<=100->cntT ty<1000000->okO ty=true->
  Does (tabT tabD) Jcd [.agg E, .agg e] st fun v st'=>Gr st st'/\v= .bool (optsR s.types ty)
 |0,_,h=>absurd h (by omega)
 | m+1, .mk k nm ns ks,hm=>by
   intro P st s E e hw hsch hx hP hl hsz hok
   refine Jw tabM Jbv rfl hw fun K fin=> ?_
   obtain⟨n0,hn0⟩:∃n,st.nx=up 0 n:=⟨_,up0 _⟩
   have hsch0:=hsch
   obtain⟨c,tv,sv,rfl,h1,h2,h3⟩:=hsch
   obtain⟨nv0,kv0,es0,rfl,x1,x2,x3,x4⟩:=h1.inv
   obtain⟨nv,kv,es,rfl,y1,y2,y3,y4⟩:=hx.inv'
   have l2:=y2.len
   rw[y3]at l2
   have cs1:=x1.cells
   have cs2:=x1.sc
   have cs3:=x2.cells
   have cs4:=x2.sc
   have cv1:=h2.sc
   have cv2:=h3.sc
   have ct1:=y1.cells
   have ct2:=y1.sc
   have ct3:=y2.cells
   have ct4:=y2.sc
   have hS:=JhN s.types k nm ns ks
   rw[Jd2]at hS
   rw[Jmf,Bool.and_eq_true,Bool.or_eq_true,decide_eq_true_eq,decide_eq_true_eq]at hok
   have hlen:ks.length<1000000:=by have h1:=Ja6 ks;rw[Yw]at hsz;omega
   obtain⟨I,hI⟩:∃I:Fr->St->Prop,∀fr S,I fr S<->(Gr st S/\fr 2= .ptr (up 0 n0) 0/\fr 3= .ptr (up 1 n0) 0/\(∃u,S.row (up 0 n0)= .cells u [.int .i64 s.main.kind,ofL s.main.name,nv0,kv0,tv,sv])/\(∃u,S.row (up 1 n0)= .cells u [.int .i64 k,ofL nm,nv,kv])):=⟨_,fun _ _=>Iff.rfl⟩
   simp only[Qd,XY,simprocAttr]
   refine Q8 I ?_ ?_
   ·simp only[XZ,simprocAttr,hn0,cs1,cs2,cs3,cs4,cv1.1,cv1.2,cv2.1,cv2.2,ct1,ct2,ct3,ct4]
    exact(hI _ _).2 ⟨(Gr.new hw (Ja _)).nn (Ja _),by simp only[XZ,simprocAttr],by simp only[XZ,simprocAttr],⟨_,by simp only[XZ,simprocAttr,hn0];rfl⟩,⟨_,by simp only[XZ,simprocAttr,hn0];rfl⟩⟩
   intro fr S hIf
   obtain⟨g0,f2,f3,⟨t0,r0⟩,⟨t1,r1⟩⟩:=(hI _ _).1 hIf
   have out:∀b,optsR s.types (.mk k nm ns ks)=b->∀S',Gr S S'->K (.bool b) S':=fun b hb S' g=>fin _ _ (fun r e=>(g0.trans g).same r e) fun _=>by rw[hb]
   have kid:∀{S':St} {i:Nat} (hi:i<ks.length),Gr S S'->∃q o E,iaddrSV 4 kv (.int .i64 i)=some (.ptr q o, .no)/\ldn (S'.row q) o 4=some (.agg E, .no)/\TyC P S' E ks[i]:=fun{S' i} hi g=>by
    have G:=g0.trans g
    have hx2:LstAt (TyC P S') P S' kv 4 ks:=⟨es,y2.gr G,y3,fun i a b=>(y4 i a b).gr G⟩
    obtain⟨q,qo,E',a1,a2,a3,a4,hE,e4,a5⟩:=hx2.elem hi
    exact⟨q,qo,E',a1,a4,hE⟩
   have PS:∀{S':St},Gr S S'->∀r,P r->S'.row r≠ .none:=fun g r p=>by rw[(g0.trans g).same r (hP r p)];exact hP r p
   obtain⟨J,hJ⟩:∃J:Fr->St->Prop,∀fr S',J fr S'<->(Gr S S'/\fr 2= .ptr (up 0 n0) 0/\fr 3= .ptr (up 1 n0) 0/\optsR s.types (.mk k nm ns ks)=ks.any (optsR s.types)):=⟨_,fun _ _=>Iff.rfl⟩
   refine JJ J ?_ ?_
   ·by_cases k6:k=6
    ·have h0:0<ks.length:=hok.1.resolve_left fun h=>h k6
     obtain⟨q,o,E',a1,a2,a3⟩:=kid h0 (Gr.refl g0.wf)
     have a1:iaddrSV 4 kv (.int .i64 0)=some (.ptr q o, .no):=a1
     have hd:ks.headD zeroTy=ks[0]:=by cases ks with
      |nil=>simp at h0
      |cons a r=>rfl
     rw[if_pos k6,hd]at hS
     rw[Jc];simp only[XY,simprocAttr,f2,f3,r0,r1,k6,cs1,cs2,cs3,cs4,cv1.1,cv1.2,cv2.1,cv2.2,a1,a2]
     refine Jn (ropenC (P:=P) (s:=s) (JB g0.wf S.t) ((hsch0.imp fun r p e=>⟨p,g0.same r e⟩).low S.t) (a3.low S.t) (fun r p=>PS (Gr.refl g0.wf) r p) hl) ?_
     rintro _ S2 g2 ⟨e',rfl,he'⟩
     obtain⟨nv2,kv2,es2,rfl,w1,w2,w3,w4⟩:=he'.inv
     obtain⟨T,hT⟩:∃T,T=openT s.types (s.types.length+1) ks[0]:=⟨_,rfl⟩
     rw[<-hT]at hS⊢
     by_cases t6:T.kind=6
     ·rw[decide_eq_true t6,Bool.true_or]at hS
      simp only[XZ,simprocAttr,t6,Jk]
      exact out _ hS _ g2
     ·rw[decide_eq_false t6,Bool.false_or]at hS
      simp only[XZ,simprocAttr,t6,Jk]
      exact(hJ _ _).2 ⟨g2,by simp only[XZ,simprocAttr,f2],by simp only[XZ,simprocAttr,f3],hS⟩
    ·rw[if_neg k6,Bool.false_or]at hS
     rw[Jc];simp only[XZ,simprocAttr,f3,r1,k6,Jk]
     exact(hJ _ _).2 ⟨Gr.refl g0.wf,by simp only[XZ,simprocAttr,f2],by simp only[XZ,simprocAttr,f3],hS⟩
   clear f2 f3 hIf hI
   intro fr S1 hJf
   obtain⟨g1,f2,f3,hS⟩:=(hJ _ _).1 hJf
   rw[Jf,Jc];simp only[XY,simprocAttr]
   obtain⟨L,hL⟩:∃L:Nat->Fr->St->Prop,∀j fr S',L j fr S'<->∃(i:Nat),j+i=ks.length/\fr 2= .ptr (up 0 n0) 0/\fr 3= .ptr (up 1 n0) 0/\fr 5= .int .i64 i/\Gr S S'/\ks.any (optsR s.types)=(ks.drop i).any (optsR s.types):=⟨_,fun _ _ _=>Iff.rfl⟩
   refine Jq L ks.length (by omega) ((hL _ _ _).2 ⟨0,by omega,by simp only[XZ,simprocAttr,f2],by simp only[XZ,simprocAttr,f3],by simp only[XZ,simprocAttr]<;>rfl,g1,rfl⟩) ?_
   clear f2 f3
   intro j fr S' hLj
   obtain⟨i,hj,f2,f3,f5,hg,hrec⟩:=(hL _ _ _).1 hLj
   have r0:=hg.cells r0
   have r1:=hg.cells r1
   by_cases hi:i<ks.length
   ·have hi':(i:Int)<ks.length:=by omega
    have hadd1:IntKind.i64.wrap ((i:Int)+1)=((i+1:Nat):Int):=by rw[Jp (by omega) (by omega)];rfl
    obtain⟨q,o,E',a1,a2,a3⟩:=kid hi hg
    have hc1:=kq hi
    have hc2:=Yw k nm ns ks
    rw[List.drop_eq_getElem_cons hi,List.any_cons]at hrec
    simp only[XZ,simprocAttr,f2,f3,f5,r0,r1,l2,hi',cs1,cs2,cs3,cs4,cv1.1,cv1.2,cv2.1,cv2.2,a1,a2]
    refine Jn (roptsC m ks[i] (by have:=YN (k:=k) (n:=nm) (ns:=ns) hi;omega) P _ s _ E' (JB hg.wf S'.t) ((hsch0.imp fun r p e=>⟨p,(g0.trans hg).same r e⟩).low S'.t) (a3.low S'.t) (fun r p=>PS hg r p) hl (by omega) (Jbh hok.2 _ (List.getElem_mem hi))) ?_
    rintro _ S2 g2 rfl
    cases hb:optsR s.types ks[i]with
    | true=>
      rw[hb,Bool.true_or]at hrec
      simp only[XZ,simprocAttr,Jk]
      exact out _ (by rw[hS,hrec]) _ (hg.trans g2)
    | false=>
      rw[hb,Bool.false_or]at hrec
      simp only[XZ,simprocAttr,Jk,f5,hadd1]
      exact⟨ks.length-(i+1),by omega,(hL _ _ _).2 ⟨i+1,by omega,by simp only[XZ,simprocAttr,f2],by simp only[XZ,simprocAttr,f3],by simp only[XZ,simprocAttr],hg.trans g2,hrec⟩⟩
   ·have hi':¬(i:Int)<ks.length:=by omega
    rw[List.drop_eq_nil_of_le (by omega)]at hrec
    simp only[XZ,simprocAttr,f3,f5,r1,l2,hi']
    exact out _ (by rw[hS,hrec];rfl) _ hg
theorem Jh9 (l:List Sg)(f:Sg):sgTys (l++[f])=sgTys l++(f.params++[f.result]):=by unfold sgTys;simp
theorem Jat :∀(l:List Sg),(∀f∈l,f.params.length<=100)->(sgTys l).length<=101*l.length
 |[],_=>Nat.zero_le _
 | f::l,h=>by
   have ih:=Jat l fun g hg=>h g (List.mem_cons_of_mem _ hg)
   have:=h f (by simp)
   have e:(sgTys (f::l)).length=f.params.length+1+(sgTys l).length:=by unfold sgTys;simp;omega
   rw[e,List.length_cons]
   omega
set_option maxHeartbeats 4000000 in
theorem rallC {P Q:Pt->Prop}{st:St}{e:List V}{s:Sch}(hw:WF st)(h:SchC P st e s)(hl1:s.types.length<=1000)(hl2:s.sigs.length<=1000)(hl3:∀f∈s.sigs,f.params.length<=100)(hQ:∀r,P r->Q r)(hN:∀r,st.row r= .none->Q r):
  Does (tabT tabD) JcX [.agg e] st fun v' st'=>Gr st st'/\LstAt (TyC Q st') Q st' v' 4 (everyS s):=by
 refine Jw tabM Jcc rfl hw fun K fin=> ?_
 obtain⟨n,hn0⟩:∃n,st.nx=up 0 n:=⟨_,up0 _⟩
 obtain⟨c,tv,sv,rfl,h1,h2,h3⟩:=h
 obtain⟨M,hM⟩:∃M,M=s.main:=⟨_,rfl⟩
 obtain⟨l,hl⟩:∃l,l=s.types:=⟨_,rfl⟩
 obtain⟨fs,hfs⟩:∃l,l=s.sigs:=⟨_,rfl⟩
 have hev:everyS s=l.map Prod.snd++[M]++sgTys fs:=by rw[hM,hl,hfs];rfl
 rw[hev]at fin
 rw[<-hM]at h1
 rw[<-hl]at h2 hl1
 rw[<-hfs]at h3 hl2 hl3
 obtain⟨nv,kv,es,rfl,x1,x2,x3,x4⟩:=h1.inv
 have h1':TyC P st [.int .i64 M.kind,ofL M.name,nv,kv] M:=h1
 have l1:=h2.len
 have l2:=h3.len
 simp only[Qv,XY,simprocAttr]
 rw[Jc];simp only[XY,simprocAttr,hn0,x1.sc,x2.sc,x1.cells,x2.cells,h2.sc.1,h3.sc.1]
 obtain⟨S0,hS0⟩:∃S0,S0=(st.new fun t=> .cells t [.int .i64 M.kind,ofL M.name,nv,kv,tv,sv]):=⟨_,rfl⟩
 have g0:Gr st S0:=by rw[hS0];exact Gr.new hw (Ja _)
 obtain⟨t0,r0⟩:∃t,S0.row (up 0 n)= .cells t [.int .i64 M.kind,ofL M.name,nv,kv,tv,sv]:=⟨_,by rw[hS0];simp only[XZ,simprocAttr,hn0];rfl⟩
 rw[<-hS0]
 clear hS0
 have hM0:TyC P S0 [.int .i64 M.kind,ofL M.name,nv,kv] M:=h1'.gr g0
 have h2:LstAt (NmC P S0) P S0 tv 5 l:=h2.imp (fun e x h=>h.imp fun r p e=>⟨p,g0.same r e⟩) fun r p e=>⟨p,g0.same r e⟩
 have h3:LstAt (SgC P S0) P S0 sv 6 fs:=h3.imp (fun e x h=>h.imp fun r p e=>⟨p,g0.same r e⟩) fun r p e=>⟨p,g0.same r e⟩
 have hN:∀r,S0.row r= .none->Q r:=fun r h=>hN r (Ch.fresh (Ch.of (fun _=>False) g0) h)
 have c1:=x1.cells
 have c2:=x1.sc
 have c3:=x2.cells
 have c4:=x2.sc
 rw[Jc];simp only[XY,simprocAttr]
 obtain⟨J,hJ⟩:∃J:Fr->St->Prop,∀fr S,J fr S<->(∃v,fr 1= .ptr (up 0 n) 0/\fr 3=v/\Gr S0 S/\TysF P S0 S v (l.map Prod.snd)):=⟨_,fun _ _=>Iff.rfl⟩
 refine JJ J ?_ ?_
 ·rw[Jc];simp only[XY,simprocAttr]
  obtain⟨I,hI⟩:∃I:Nat->Fr->St->Prop,∀j fr S,I j fr S<->∃(i:Nat) (v:V),j+i=l.length/\fr 1= .ptr (up 0 n) 0/\fr 3=v/\fr 4= .int .i64 i/\Gr S0 S/\TysF P S0 S v ((l.take i).map Prod.snd):=⟨_,fun _ _ _=>Iff.rfl⟩
  refine Jq I l.length (by omega) ((hI _ _ _).2 ⟨0, .snil,by omega,by simp only[XZ,simprocAttr],by simp only[XZ,simprocAttr],by simp only[XZ,simprocAttr]<;>rfl,Gr.refl g0.wf,TysF.nil _ _ _⟩) ?_
  intro j fr S hIj
  obtain⟨i,v,hj,f1,f3,f4,hg,hv⟩:=(hI _ _ _).1 hIj
  have rS:=hg.cells r0
  by_cases hi:i<l.length
  ·have hi':(i:Int)<l.length:=by omega
   obtain⟨r,q,nv1,kv1,a1,a3,a4,hty,d1,d2,d3,d4⟩:=JcC h2 (fun r e=>hg.same r e) hi
   have a6:=kT (a:=1) (b:=4) a4
   have a6:ldn (S.row r) (q+1) 4=some (.agg [.int .i64 l[i].2.kind,ofL l[i].2.name,nv1,kv1], .no):=a6
   have wS:=hg.wf
   obtain⟨nS,hnS⟩:∃n,S.nx=up 0 n:=⟨_,up0 _⟩
   have hadd1:IntKind.i64.wrap ((i:Int)+1)=((i+1:Nat):Int):=by rw[Jp (by omega) (by omega)];rfl
   have htk:(l.take (i+1)).map Prod.snd=(l.take i).map Prod.snd++[l[i].2]:=by rw[List.take_succ_eq_append_getElem hi,List.map_append];rfl
   obtain⟨T,hT⟩:∃T,T=l[i].2:=⟨_,rfl⟩
   rw[<-hT]at hty htk a6
   simp only[XZ,simprocAttr,f1,f3,f4,rS,l1,hi',a1,a6,hnS,d1,d2,d3,d4]
   have gn:Gr S (S.new fun t=> .cells t [.int .i64 T.kind,ofL T.name,nv1,kv1]):=Gr.new wS (Ja _)
   refine YP (ts':=[T]) (hg.trans gn) (hv.gr gn) (Jap hnS hty.four) rfl (fun i a b=>by
    have:i=0:=by simpa using a
    subst this;exact hty) (by simp) (by simp;omega) ?_
   intro S2 v2 g2 h5 rv kp
   rw[<-htk]at h5
   simp only[XZ,simprocAttr,f4,hadd1]
   exact⟨l.length-(i+1),by omega,(hI _ _ _).2 ⟨i+1,v2,by omega,by simp only[XZ,simprocAttr,f1],by simp only[XZ,simprocAttr],by simp only[XZ,simprocAttr],g2,h5⟩⟩
  ·have hi':¬(i:Int)<l.length:=by omega
   simp only[XZ,simprocAttr,f1,f4,rS,l1,hi']
   rw[List.take_of_length_le (by omega)]at hv
   exact(hJ _ _).2 ⟨v,by simp only[XZ,simprocAttr,f1],by simp only[XZ,simprocAttr,f3],hg,hv⟩
 intro fr S hJf
 obtain⟨v,f1,f3,hg,hv⟩:=(hJ _ _).1 hJf
 have r1:=hg.cells r0
 have wS:=hg.wf
 obtain⟨nS,hnS⟩:∃n,S.nx=up 0 n:=⟨_,up0 _⟩
 rw[Jc];simp only[XY,simprocAttr,f1,f3,r1,hnS,c1,c2,c3,c4]
 have gn:Gr S (S.new fun t=> .cells t [.int .i64 M.kind,ofL M.name,nv,kv]):=Gr.new wS (Ja _)
 refine YP (ts':=[M]) (hg.trans gn) (hv.gr gn) (Jap hnS hM0.four) rfl (fun i a b=>by
  have:i=0:=by simpa using a
  subst this;exact hM0) (by simp) (by simp;omega) ?_
 intro S2 v2 g2 h5 _ _
 simp only[XY,simprocAttr]
 obtain⟨J2,hJ2⟩:∃J:Fr->St->Prop,∀fr S,J fr S<->(∃v,fr 3=v/\Gr S0 S/\TysF P S0 S v (l.map Prod.snd++[M]++sgTys fs)):=⟨_,fun _ _=>Iff.rfl⟩
 refine JJ J2 ?_ ?_
 ·rw[Jc];simp only[XY,simprocAttr]
  obtain⟨I,hI⟩:∃I:Nat->Fr->St->Prop,∀j fr S,I j fr S<->∃(i:Nat) (v:V),j+i=fs.length/\fr 1= .ptr (up 0 n) 0/\fr 3=v/\fr 5= .int .i64 i/\Gr S0 S/\TysF P S0 S v (l.map Prod.snd++[M]++sgTys (fs.take i)):=⟨_,fun _ _ _=>Iff.rfl⟩
  refine Jq I fs.length (by omega) ((hI _ _ _).2 ⟨0,v2,by omega,by simp only[XZ,simprocAttr,f1],by simp only[XZ,simprocAttr],by simp only[XZ,simprocAttr]<;>rfl,g2,by rw[List.take_zero];unfold sgTys;simpa using h5⟩) ?_
  clear f1 f3
  intro j fr S hIj
  obtain⟨i,v,hj,f1,f3,f5,hg,hv⟩:=(hI _ _ _).1 hIj
  have rS:=hg.cells r0
  by_cases hi:i<fs.length
  ·have hi':(i:Int)<fs.length:=by omega
   obtain⟨r,q,pv,nv1,kv1,a1,a3,a4,⟨ep,p1,p2,p3⟩,hres,⟨d5,d6⟩,d1,d2,d3,d4⟩:=Jfx h3 (fun r e=>hg.same r e) hi
   have hadd1:IntKind.i64.wrap ((i:Int)+1)=((i+1:Nat):Int):=by rw[Jp (by omega) (by omega)];rfl
   obtain⟨f,hf⟩:∃f,f=fs[i]:=⟨_,rfl⟩
   have htk:sgTys (fs.take (i+1))=sgTys (fs.take i)++(f.params++[f.result]):=by rw[List.take_succ_eq_append_getElem hi,Jh9,hf]
   have hfl:=hl3 f (by rw[hf];exact List.getElem_mem hi)
   have htl:=Jat (fs.take i) fun g hg=>hl3 g (List.mem_of_mem_take hg)
   rw[List.length_take]at htl
   rw[<-hf]at a4 hres p2 p3
   have a5:=kA a4 (j:=1) (by decide) rfl
   rw[Jf,Jc];simp only[XY,simprocAttr,f1,f5,rS,l2,hi']
   rw[Jf];simp only[XY,simprocAttr]
   rw[Jc];simp only[XY,simprocAttr,f1,f3,f5,rS,a1,a5]
   refine YP (ts':=f.params) hg hv (p1.gr hg) p2 p3 (by omega) (by simp;omega) ?_
   intro S2 v2 g2 h5 rv kp
   have r2:=g2.cells r0
   obtain⟨r',q',pv',nv2,kv2,b1,b3,b4,_,hres2,_,e1,e2,e3,e4⟩:=Jfx h3 (fun r e=>g2.same r e) hi
   rw[<-hf]at b4 hres2
   have b6:=kT (a:=2) (b:=4) b4
   have b6:ldn (S2.row r') (q'+2) 4=some (.agg [.int .i64 f.result.kind,ofL f.result.name,nv2,kv2], .no):=b6
   have w2:=g2.wf
   obtain⟨n2,hn2⟩:∃n,S2.nx=up 0 n:=⟨_,up0 _⟩
   simp only[XY,simprocAttr,f1,f5,r2,b1,b6,hn2,e1,e2,e3,e4]
   have gn:Gr S2 (S2.new fun t=> .cells t [.int .i64 f.result.kind,ofL f.result.name,nv2,kv2]):=Gr.new w2 (Ja _)
   refine YP (ts':=[f.result]) (g2.trans gn) (h5.gr gn) (Jap hn2 hres2.four) rfl (fun i a b=>by
    have:i=0:=by simpa using a
    subst this;exact hres2) (by simp) (by simp;omega) ?_
   intro S3 v3 g3 h6 _ _
   have h6:TysF P S0 S3 v3 (l.map Prod.snd++[M]++sgTys (fs.take (i+1))):=by rw[htk];simpa using h6
   simp only[XZ,simprocAttr,f5,hadd1]
   exact⟨fs.length-(i+1),by omega,(hI _ _ _).2 ⟨i+1,v3,by omega,by simp only[XZ,simprocAttr,f1],by simp only[XZ,simprocAttr],by simp only[XZ,simprocAttr],g3,h6⟩⟩
  ·have hi':¬(i:Int)<fs.length:=by omega
   simp only[XZ,simprocAttr,f1,f5,rS,l2,hi']
   rw[List.take_of_length_le (by omega)]at hv
   exact(hJ2 _ _).2 ⟨v,by simp only[XZ,simprocAttr,f3],hg,hv⟩
 intro fr S hJf
 obtain⟨v,f3,hg,hv⟩:=(hJ2 _ _).1 hJf
 simp only[XZ,simprocAttr,f3]
 exact fin _ _ (fun r e=>(g0.trans hg).same r e) fun _=>hv.lst hg hQ hN
theorem Jei (has:Str->Bool)(t:Ty)(deep:Nat):∀(l:List Ty) (met:Nat),maysS has (l++[t]) deep met=if(maysS has l deep met).1≠0 then maysS has l deep met else mayS has t deep (maysS has l deep met).2
 | [],met=>by
   by_cases h:(mayS has t deep met).1=0
   ·simp only[List.nil_append,JE,J6,h,ne_eq,not_true_eq_false,if_false]
    exact Prod.ext h.symm rfl
   ·simp only[List.nil_append,JE,J6,h,ne_eq,not_true_eq_false,not_false_eq_true,if_false,if_true]
 | a::l,met=>by
   by_cases h:(mayS has a deep met).1=0
   ·simp only[List.cons_append,JE,h,ne_eq,not_true_eq_false,if_false]
    exact Jei has t deep l _
   ·simp only[List.cons_append,JE,h,ne_eq,not_false_eq_true,if_true]
theorem JfJ (has:Str->Bool):∀(p:Option Str) (fs:List Sg) (met:Nat),(sigsS has p fs met).1=0->∀f∈fs,okOs (f.params++[f.result])=true
 |p,[],met,h=>fun f h=>by cases h
 | p,f::r,met,h=>by
   rw[ku]at h
   split at h
   ·cases h
   split at h
   ·cases h
   split at h
   ·cases h
   split at h
   ·rename_i c4;exact absurd h c4
   rename_i c4
   intro g hg
   rcases List.mem_cons.1 hg with rfl|hg
   ·exact qD has _ _ _ (by simpa using c4)
   ·exact JfJ has (some f.name) r _ h g hg
theorem Jmq {p:Option Str}{n:Str}{r:List Str}(h1:badName n=false)(h2:notLess p n=false):typesS p (n::r)=typesS (some n) r:=by
 rw[typesS,if_neg (by rw[h1];simp),if_neg (by rw[h2];simp)]
set_option maxHeartbeats 16000000 in
theorem rcheckP {P:Pt->Prop}{st:St}{e1:List V}{s:Sch}(hw:WF st)(h:SchC P st e1 s)(hP:∀r,P r->st.row r≠ .none):
  Does (tabT tabD) kC [.agg e1] st fun v' st'=>Gr st st'/\v'= .int .i64 (refS s):=by
 refine Jw tabM Jaz rfl hw fun K fin=> ?_
 obtain⟨n,hn0⟩:∃n,st.nx=up 0 n:=⟨_,up0 _⟩
 have hev:=Jfw s
 have hsch:=h
 obtain⟨c,tv,sv,rfl,h1,h2,h3⟩:=h
 obtain⟨M,hM⟩:∃M,M=s.main:=⟨_,rfl⟩
 obtain⟨l,hll⟩:∃l,l=s.types:=⟨_,rfl⟩
 obtain⟨fs,hfs⟩:∃l,l=s.sigs:=⟨_,rfl⟩
 have hchk:refS s=
  if 12<l.length\/12<fs.length then 3 else
  if typesS none (l.map Prod.fst)≠0 then typesS none (l.map Prod.fst)else
  if(maysS (hasN l) (l.map Prod.snd) 1 0).1≠0 then(maysS (hasN l) (l.map Prod.snd) 1 0).1 else
  if(mayS (hasN l) M 1 (maysS (hasN l) (l.map Prod.snd) 1 0).2).1≠0 then(mayS (hasN l) M 1 (maysS (hasN l) (l.map Prod.snd) 1 0).2).1 else
  if(sigsS (hasN l) none fs (mayS (hasN l) M 1 (maysS (hasN l) (l.map Prod.snd) 1 0).2).2).1≠0 then(sigsS (hasN l) none fs (mayS (hasN l) M 1 (maysS (hasN l) (l.map Prod.snd) 1 0).2).2).1 else
  if(finR l (l.length+1) []).length≠l.length then 14 else
  if(everyS s).any (optsR l)then 17 else 0:=by rw[hll,hM,hfs];rfl
 rw[<-hM]at h1
 rw[<-hll]at h2
 rw[<-hfs]at h3
 rw[<-hll,<-hM,<-hfs]at hev
 have hM0:=h1
 obtain⟨nv,kv,es,rfl,x1,x2,x3,x4⟩:=h1.inv
 have l1:=h2.len
 have l2:=h3.len
 have cs1:=x1.cells
 have cs2:=x1.sc
 have cs3:=x2.cells
 have cs4:=x2.sc
 have cv1:=h2.sc
 have cv2:=h3.sc
 simp only[KP,XY,simprocAttr]
 rw[Jc];simp only[XY,simprocAttr,hn0,cs1,cs2,cs3,cs4,cv1.1,cv1.2,cv2.1,cv2.2]
 obtain⟨S,hS⟩:∃S0,S0=(st.new fun t=> .cells t [.int .i64 M.kind,ofL M.name,nv,kv,tv,sv]):=⟨_,rfl⟩
 have g0:Gr st S:=by rw[hS];exact Gr.new hw (Ja _)
 obtain⟨t0,r0⟩:∃t,S.row (up 0 n)= .cells t [.int .i64 M.kind,ofL M.name,nv,kv,tv,sv]:=⟨_,by rw[hS];simp only[XZ,simprocAttr,hn0];rfl⟩
 rw[<-hS]
 clear hS
 by_cases b1:12<l.length
 ·have b1':(12:Int)<l.length:=by omega
  rw[Jf,Jc];simp only[XZ,simprocAttr,r0,l1,b1']
  refine fin _ _ (fun r e=>g0.same r e) fun _=> ?_
  rw[hchk,if_pos (.inl b1)]
 have b1':¬(12:Int)<l.length:=by omega
 by_cases b2:12<fs.length
 ·have b2':(12:Int)<fs.length:=by omega
  rw[Jf,Jc];simp only[XZ,simprocAttr,r0,l1,l2,b1',b2']
  refine fin _ _ (fun r e=>g0.same r e) fun _=> ?_
  rw[hchk,if_pos (.inr b2)]
 have b2':¬(12:Int)<fs.length:=by omega
 rw[if_neg (fun h=>by rcases h with h|h;exact b1 h;exact b2 h)]at hchk
 rw[Jf,Jc];simp only[XY,simprocAttr,r0,l1,l2,b1',b2']
 obtain⟨J0,hJ0⟩:∃J:Fr->St->Prop,∀fr S',J fr S'<->(S=S'/\fr 1= .ptr (up 0 n) 0/\typesS none (l.map Prod.fst)=0):=⟨_,fun _ _=>Iff.rfl⟩
 refine JJ J0 ?_ ?_
 ·rw[Jc];simp only[XY,simprocAttr]
  obtain⟨I,hI⟩:∃I:Nat->Fr->St->Prop,∀j fr S',I j fr S'<->∃(i:Nat) (p:Option Str),j+i=l.length/\fr 1= .ptr (up 0 n) 0/\fr 3= .int .i64 i/\S=S'/\typesS none (l.map Prod.fst)=typesS p ((l.map Prod.fst).drop i)/\(p=if i=0 then none else(l.map Prod.fst)[i-1]?):=⟨_,fun _ _ _=>Iff.rfl⟩
  refine Jq I l.length (by omega) ((hI _ _ _).2 ⟨0,none,by omega,by simp only[XZ,simprocAttr],by simp only[XZ,simprocAttr]<;>rfl,rfl,rfl,rfl⟩) ?_
  intro j fr S' hIj
  obtain⟨i,p,hj,f1,f3,rfl,hrec,hp⟩:=(hI _ _ _).1 hIj
  have kS:∀r,st.row r≠ .none->S.row r=st.row r:=fun r e=>g0.same r e
  by_cases hi:i<l.length
  ·have hi':(i:Int)<l.length:=by omega
   obtain⟨r,q,nv1,kv1,a1,a3,a4,_⟩:=JcC h2 kS hi
   have a5:=kA a4 (j:=0) (by decide) rfl
   have a5:ld1 (S.row r) q=some (ofL l[i].1, .no):=a5
   obtain⟨N,hN⟩:∃N,N=l[i].1:=⟨_,rfl⟩
   rw[<-hN]at a5
   have hd:(l.map Prod.fst).drop i=N::(l.map Prod.fst).drop (i+1):=by
    rw[List.drop_eq_getElem_cons (by simpa using hi),List.getElem_map,<-hN]
   rw[hd]at hrec
   have hadd1:IntKind.i64.wrap ((i:Int)+1)=((i+1:Nat):Int):=by rw[Jp (by omega) (by omega)];rfl
   have bad:badName N=true->typesS none (l.map Prod.fst)=15:=fun hb=>by rw[hrec,typesS,if_pos hb]
   have hbl:=Jm2 N
   simp only[XZ,simprocAttr,f1,f3,r0,l1,hi',a1,a5]
   refine Jb (ridentC N _) ?_
   rintro _ _ ⟨rfl,rfl⟩
   cases hid:identB N with
   | false=>
     have hv:=bad (by rw[hbl,hid];rfl)
     simp only[XZ,simprocAttr]
     refine fin _ _ (fun r e=>g0.same r e) fun _=> ?_
     rw[hchk,hv];rfl
   | true=>
     simp only[XZ,simprocAttr,f1,f3,r0,a1,a5]
     refine Jb (rwordC N _) ?_
     rintro _ _ ⟨rfl,rfl⟩
     cases hwd:wordL.contains N with
     | true=>
       have hv:=bad (by rw[hbl,hid,hwd];rfl)
       simp only[XZ,simprocAttr]
       refine fin _ _ (fun r e=>g0.same r e) fun _=> ?_
       rw[hchk,hv];rfl
     | false=>
       have hbn:badName N=false:=by rw[hbl,hid,hwd];rfl
       have next:∀{fr':Fr},notLess p N=false->fr' 1= .ptr (up 0 n) 0->fr' 3= .int .i64 ((i+1:Nat):Int)->∃j',j'<j/\I j' fr' S:=fun{fr'} hl e1 e3=>
        ⟨l.length-(i+1),by omega,(hI _ _ _).2 ⟨i+1,some N,by omega,e1,e3,rfl,by rw[hrec,Jmq hbn hl],by rw[if_neg (by omega)];simp[hi,hN]⟩⟩
       by_cases h0:i=0
       ·have h0':¬(0:Int)<(i:Int):=by omega
        simp only[XZ,simprocAttr,f3,h0',hadd1,Jk]
        exact next (by rw[hp,if_pos h0];rfl) (by simp only[XZ,simprocAttr,f1]) (by simp only[XZ,simprocAttr])
       ·have h0':(0:Int)<(i:Int):=by omega
        have hsub:IntKind.i64.wrap ((i:Int)-1)=((i-1:Nat):Int):=by rw[Jp (by omega) (by omega)];omega
        have hi1:i-1<l.length:=by omega
        obtain⟨r',q',nv2,kv2,b1,b3,b4,_⟩:=JcC h2 kS hi1
        have b5:=kA b4 (j:=0) (by decide) rfl
        have b5:ld1 (S.row r') q'=some (ofL l[i-1].1, .no):=b5
        have hp':p=some l[i-1].1:=by rw[hp,if_neg h0,List.getElem?_map,List.getElem?_eq_getElem hi1];rfl
        cases hl:Op.bytesLess l[i-1].1 N with
        | false=>
          have hv:typesS none (l.map Prod.fst)=6:=by rw[hrec,typesS,if_neg (by rw[hbn];simp),if_pos (by rw[hp',notLess,hl];rfl)]
          simp only[XZ,simprocAttr,f1,f3,r0,h0',hsub,a1,a5,b1,b5,YV,hl,Jk]
          refine fin _ _ (fun r e=>g0.same r e) fun _=> ?_
          rw[hchk,hv];rfl
        | true=>
          simp only[XZ,simprocAttr,f1,f3,r0,h0',hsub,a1,a5,b1,b5,YV,hl,Jk,hadd1]
          exact next (by rw[hp',notLess,hl];rfl) (by simp only[XZ,simprocAttr,f1]) (by simp only[XZ,simprocAttr])
  ·have hi':¬(i:Int)<l.length:=by omega
   have hv:typesS none (l.map Prod.fst)=0:=by rw[hrec,List.drop_eq_nil_of_le (by simp;omega),typesS]
   simp only[XZ,simprocAttr,f1,f3,r0,l1,hi']
   exact(hJ0 _ _).2 ⟨rfl,by simp only[XZ,simprocAttr,f1],hv⟩
 intro fr S' hJf
 obtain⟨rfl,f1,ht0⟩:=(hJ0 _ _).1 hJf
 rw[if_neg (fun h=>h ht0)]at hchk
 have w0:=g0.wf
 obtain⟨n2,hn2⟩:∃n,S.nx=up 0 n:=⟨_,up0 _⟩
 rw[Jc];simp only[XY,simprocAttr,f1,r0,hn2,cs1,cs2,cs3,cs4,cv1.1,cv1.2,cv2.1,cv2.2]
 obtain⟨S3,hS3⟩:∃S3,S3=(S.new fun t=> .cells t [.int .i64 M.kind,ofL M.name,nv,kv,tv,sv, .int .i64 0]):=⟨_,rfl⟩
 have g3:Gr S S3:=by rw[hS3];exact Gr.new w0 (Ja _)
 obtain⟨kr,hkr⟩:∃p,p=up 0 n2:=⟨_,rfl⟩
 obtain⟨tk,rk⟩:∃u,S3.row kr= .cells u [.int .i64 M.kind,ofL M.name,nv,kv,tv,sv, .int .i64 ((0:Nat):Int)]:=⟨_,by rw[hS3,hkr];simp only[XZ,simprocAttr,hn2];rfl⟩
 have qk2:S.row kr= .none:=by rw[hkr];exact nx0 w0 hn2 0
 rw[<-hS3,<-hkr]
 clear hS3
 have G3:=g0.trans g3
 have n0k:up 0 n≠kr:=fun h=>by rw[h,qk2]at r0;cases r0
 have r0:=g3.cells r0
 have qk:st.row kr= .none:=Ch.fresh (Ch.of (fun _=>False) g0) qk2
 have old_k:∀r,st.row r≠ .none->r≠kr:=fun r e h=>e (by rw[h];exact qk)
 have sep:∀r,P r->r≠kr:=fun r p=>old_k r (hP r p)
 have keep:∀{S':St},Ch (fun r=>r=kr) S3 S'->∀r,st.row r≠ .none->S'.row r=st.row r:=fun c r e=>by rw[c.same r (by rw[G3.same r e];exact e) (old_k r e),G3.same r e]
 have kcell:∀{S':St} {p:Pt} {u:Nat} {x:List V},Ch (fun r=>r=kr) S3 S'->S3.row p= .cells u x->p≠kr->S'.row p= .cells u x:=fun c e n=>by rw[c.same _ (Je e) n,e]
 have hschM:∀{S':St},Ch (fun r=>r=kr) S3 S'->SchC P S' ([.int .i64 M.kind,ofL M.name,nv,kv]++[tv,sv]) s:=fun c=>hsch.imp fun r p e=>⟨p,keep c r e⟩
 have may:∀{S':St} {E:List V} {t:Ty} {met:Nat},Ch (fun r=>r=kr) S3 S'->TyC P S' E t->(∃u,S'.row kr= .cells u [.int .i64 M.kind,ofL M.name,nv,kv,tv,sv, .int .i64 (met:Int)])->met<=400->
   Does (tabT tabD) YH [.ptr kr 0, .agg E, .int .i64 1] S' fun v st'=>Ch (fun r=>r=kr) S' st'/\(∃u,st'.row kr= .cells u [.int .i64 M.kind,ofL M.name,nv,kv,tv,sv, .int .i64 ((mayS (hasN l) t 1 met).2:Nat)])/\v= .int .i64 (mayS (hasN l) t 1 met).1:=fun{S' E t met} c ht hk hm=>by
  rw[hll]
  exact rmayC _ t (Nat.lt_succ_self _) P S' kr s met _ E 1 c.wf (hschM c) ht sep hk (by decide) hm (by rw[<-hll];omega) (.inr trivial)
 rw[Jc];simp only[XY,simprocAttr]
 obtain⟨J1,hJ1⟩:∃J:Fr->St->Prop,∀fr S',J fr S'<->(fr 1= .ptr (up 0 n) 0/\fr 4= .ptr kr 0/\fr 5= .int .i64 (maysS (hasN l) (l.map Prod.snd) 1 0).1/\Ch (fun r=>r=kr) S3 S'/\∃u,S'.row kr= .cells u [.int .i64 M.kind,ofL M.name,nv,kv,tv,sv, .int .i64 ((maysS (hasN l) (l.map Prod.snd) 1 0).2:Nat)]):=⟨_,fun _ _=>Iff.rfl⟩
 refine JJ J1 ?_ ?_
 ·rw[Jc];simp only[XY,simprocAttr]
  obtain⟨I,hI⟩:∃I:Nat->Fr->St->Prop,∀j fr S',I j fr S'<->∃(i mi:Nat) (x:Int),j+i=l.length/\fr 1= .ptr (up 0 n) 0/\fr 4= .ptr kr 0/\fr 5= .int .i64 x/\fr 6= .int .i64 i/\Ch (fun r=>r=kr) S3 S'/\(∃u,S'.row kr= .cells u [.int .i64 M.kind,ofL M.name,nv,kv,tv,sv, .int .i64 (mi:Int)])/\maysS (hasN l) (l.map Prod.snd) 1 0=(if x≠0 then(x,mi)else maysS (hasN l) ((l.map Prod.snd).drop i) 1 mi)/\(x=0->mi<=400):=⟨_,fun _ _ _=>Iff.rfl⟩
  refine Jq I l.length (by omega) ((hI _ _ _).2 ⟨0,0,0,by omega,by simp only[XZ,simprocAttr,f1],by simp only[XZ,simprocAttr],by simp only[XZ,simprocAttr],by simp only[XZ,simprocAttr]<;>rfl,Ch.refl _ g3.wf,⟨tk,rk⟩,by rw[if_neg (fun h=>h rfl)];rfl,fun _=>by omega⟩) ?_
  clear f1
  intro j fr S2 hIj
  obtain⟨i,mi,x,hj,f1,f4,f5,f6,C2,⟨ub,rk2⟩,hrc,hmi⟩:=(hI _ _ _).1 hIj
  have r02:=kcell C2 r0 n0k
  by_cases hi:i<l.length
  ·have hi':(i:Int)<l.length:=by omega
   by_cases hx:x=0
   ·rw[if_neg (fun h=>h hx),List.drop_eq_getElem_cons (by simpa using hi),JE,List.getElem_map]at hrc
    obtain⟨r,q,nv1,kv1,a1,a3,a4,hty,d1,d2,d3,d4⟩:=JcC h2 (keep C2) hi
    have a6:=kT (a:=1) (b:=4) a4
    have a6:ldn (S2.row r) (q+1) 4=some (.agg [.int .i64 l[i].2.kind,ofL l[i].2.name,nv1,kv1], .no):=a6
    have hadd1:IntKind.i64.wrap ((i:Int)+1)=((i+1:Nat):Int):=by rw[Jp (by omega) (by omega)];rfl
    simp only[XZ,simprocAttr,f1,f4,f5,f6,r02,l1,hi',hx,a1,a6]
    refine Jb (may C2 (hty.imp fun r p e=>⟨p,keep C2 r e⟩) ⟨ub,rk2⟩ (hmi hx)) ?_
    rintro _ S4 ⟨c4,⟨u4,rk4⟩,rfl⟩
    have C4:=C2.trans c4 fun r w=> .inl w
    have hm4:=KV (hasN l) l[i].2 1 mi (hmi hx)
    simp only[XZ,simprocAttr,f6,hadd1]
    exact⟨l.length-(i+1),by omega,(hI _ _ _).2 ⟨i+1,_,_,by omega,by simp only[XZ,simprocAttr,f1],by simp only[XZ,simprocAttr,f4],by simp only[XZ,simprocAttr],by simp only[XZ,simprocAttr],C4,⟨u4,rk4⟩,hrc,hm4.2⟩⟩
   ·rw[if_pos hx]at hrc
    simp only[XZ,simprocAttr,f1,f5,f6,r02,l1,hi',hx]
    exact(hJ1 _ _).2 ⟨by simp only[XZ,simprocAttr,f1],by simp only[XZ,simprocAttr,f4],by simp only[XZ,simprocAttr,f5,hrc],C2,ub,by rw[hrc];exact rk2⟩
  ·have hi':¬(i:Int)<l.length:=by omega
   have hrc2:maysS (hasN l) (l.map Prod.snd) 1 0=(x,mi):=by
    rw[hrc,List.drop_eq_nil_of_le (by simp;omega),J6]
    by_cases hx:x=0
    ·rw[if_neg (fun h=>h hx),hx]
    ·rw[if_pos hx]
   simp only[XZ,simprocAttr,f1,f5,f6,r02,l1,hi']
   exact(hJ1 _ _).2 ⟨by simp only[XZ,simprocAttr,f1],by simp only[XZ,simprocAttr,f4],by simp only[XZ,simprocAttr,f5,hrc2],C2,ub,by rw[hrc2];exact rk2⟩
 clear f1
 intro fr S2 hJf
 obtain⟨f1,f4,f5,C2,⟨u2,rk2⟩⟩:=(hJ1 _ _).1 hJf
 by_cases hm0:(maysS (hasN l) (l.map Prod.snd) 1 0).1=0
 rotate_left
 ·rw[Jf,Jc];simp only[XY,simprocAttr,f5,hm0]
  rw[Jf,Jc];simp only[XZ,simprocAttr,f5,hm0]
  refine fin _ _ (keep C2) fun _=> ?_
  rw[hchk,if_pos hm0]
 rw[if_neg (fun h=>h hm0)]at hchk
 rw[hm0]at f5
 have hcn:=YU (hasN l) (l.map Prod.snd) 1 0 hm0
 have hmt:=(QW (hasN l) (l.map Prod.snd) 1 0 (by decide)).2 hm0
 have hokT:=qD (hasN l) (l.map Prod.snd) 1 0 hm0
 obtain⟨m1,hm1⟩:∃m,m=(maysS (hasN l) (l.map Prod.snd) 1 0).2:=⟨_,rfl⟩
 rw[<-hm1]at hchk rk2 hmt hcn
 have r02:=kcell C2 r0 n0k
 rw[Jf,Jc];simp only[XY,simprocAttr,f5]
 simp only[XZ,simprocAttr,f1,f4,r02,cs1,cs2,cs3,cs4]
 refine Jb (may C2 (hM0.imp fun r p e=>⟨p,keep C2 r e⟩) ⟨u2,rk2⟩ hmt) ?_
 rintro _ S4 ⟨c4,⟨u4,rk4⟩,rfl⟩
 have C4:=C2.trans c4 fun r w=> .inl w
 by_cases he:(mayS (hasN l) M 1 m1).1=0
 rotate_left
 ·simp only[XZ,simprocAttr,he]
  refine fin _ _ (keep C4) fun _=> ?_
  rw[hchk,if_pos he]
 rw[if_neg (fun h=>h he)]at hchk
 have hcnM:=kO (hasN l) M 1 m1 he
 have hmM:=(KV (hasN l) M 1 m1 hmt).2 he
 have hokM:=Jd3 (hasN l) M 1 m1 he
 obtain⟨m2,hm2⟩:∃m,m=(mayS (hasN l) M 1 m1).2:=⟨_,rfl⟩
 rw[<-hm2]at hchk rk4 hmM hcnM
 simp only[XY,simprocAttr]
 rw[Jf,Jc];simp only[XY,simprocAttr,he]
 obtain⟨J2,hJ2⟩:∃J:Fr->St->Prop,∀fr S',J fr S'<->(fr 1= .ptr (up 0 n) 0/\Ch (fun r=>r=kr) S3 S'/\(sigsS (hasN l) none fs m2).1=0):=⟨_,fun _ _=>Iff.rfl⟩
 refine JJ J2 ?_ ?_
 ·rw[Jc];simp only[XY,simprocAttr]
  obtain⟨I,hI⟩:∃I:Nat->Fr->St->Prop,∀j fr S',I j fr S'<->∃(i mi:Nat) (p:Option Str),j+i=fs.length/\fr 1= .ptr (up 0 n) 0/\fr 4= .ptr kr 0/\fr 5= .int .i64 0/\fr 7= .int .i64 i/\Ch (fun r=>r=kr) S3 S'/\(∃u,S'.row kr= .cells u [.int .i64 M.kind,ofL M.name,nv,kv,tv,sv, .int .i64 (mi:Int)])/\mi<=400/\sigsS (hasN l) none fs m2=sigsS (hasN l) p (fs.drop i) mi/\(p=if i=0 then none else(fs.map Sg.name)[i-1]?):=⟨_,fun _ _ _=>Iff.rfl⟩
  refine Jq I fs.length (by omega) ((hI _ _ _).2 ⟨0,m2,none,by omega,by simp only[XZ,simprocAttr,f1],by simp only[XZ,simprocAttr,f4],by simp only[XZ,simprocAttr,he],by simp only[XZ,simprocAttr]<;>rfl,C4,⟨u4,rk4⟩,hmM,rfl,rfl⟩) ?_
  clear f1 f4 f5
  intro j fr S5 hIj
  obtain⟨i,mi,p,hj,f1,f4,f5,f7,C5,⟨u5,rk5⟩,hmi,hrec,hp⟩:=(hI _ _ _).1 hIj
  have r05:=kcell C5 r0 n0k
  by_cases hi:i<fs.length
  ·have hi':(i:Int)<fs.length:=by omega
   obtain⟨r,q,pv,nv1,kv1,a1,a3,a4,⟨ep,p1,p2,p3⟩,hres,⟨d5,d6⟩,d1,d2,d3,d4⟩:=Jfx h3 (keep C5) hi
   obtain⟨f,hf⟩:∃f,f=fs[i]:=⟨_,rfl⟩
   have hd:fs.drop i=f::fs.drop (i+1):=by rw[List.drop_eq_getElem_cons hi,<-hf]
   rw[hd,ku]at hrec
   rw[<-hf]at a4 hres p2 p3
   have w5:=C5.wf
   obtain⟨nS,hnS⟩:∃n,S5.nx=up 0 n:=⟨_,up0 _⟩
   have oq:=fun k=>nes (Js w5 hnS a3 k)
   have hadd1:IntKind.i64.wrap ((i:Int)+1)=((i+1:Nat):Int):=by rw[Jp (by omega) (by omega)];rfl
   have lp:=p1.len
   rw[p2]at lp
   rw[Jf,Jc];simp only[XY,simprocAttr,f1,f7,r05,l2,hi']
   rw[Jf];simp only[XY,simprocAttr]
   rw[Jc];simp only[XY,simprocAttr,f1,f7,r05,a1,a4,hnS,oq,d1,d2,d3,d4,d5,d6]
   obtain⟨S6,hS6⟩:∃S1,S1=((S5.new fun t=> .cells t [ofL [], .snil, .int .i64 0,ofL [], .snil, .snil]).wr (up 0 nS) S5.t fun u=> .cells u [ofL f.name,pv, .int .i64 f.result.kind,ofL f.result.name,nv1,kv1]):=⟨_,rfl⟩
   have g6:Gr S5 S6:=by rw[hS6];exact(Gr.refl w5).nw hnS (Ja _) (Ja _)
   obtain⟨t6,r6⟩:∃t,S6.row (up 0 nS)= .cells t [ofL f.name,pv, .int .i64 f.result.kind,ofL f.result.name,nv1,kv1]:=⟨_,by rw[hS6];simp only[XZ,simprocAttr,hnS];rfl⟩
   have n6k:up 0 nS≠kr:=fun h=>by have:=nx0 w5 hnS 0;rw[h,rk5]at this;cases this
   rw[<-hS6]
   have C6:=C5.gr g6
   have rk6:=g6.cells rk5
   have r06:=g6.cells r05
   have bad:∀S',Ch (fun r=>r=kr) S3 S'->∀x,(sigsS (hasN l) none fs m2).1=x->x≠0->K (.int .i64 x) S':=fun S' c x hx h0=>fin _ _ (keep c) fun _=>by rw[hchk,hx,if_pos h0]
   have hbi:=Jkz f.name
   rw[Jf,Jc];simp only[XY,simprocAttr,r6]
   refine Jb (ridentC f.name _) ?_
   rintro _ _ ⟨rfl,rfl⟩
   cases hid:identB f.name with
   | false=>
     simp only[XZ,simprocAttr]
     exact bad _ C6 15 (by rw[hrec,if_pos (by rw[hid];rfl)]) (by decide)
   |true=>
   simp only[XY,simprocAttr,r6]
   refine Jb (JkG f.name _) ?_
   rintro _ _ ⟨rfl,rfl⟩
   rw[<-hbi]
   cases hbb:QI f.name with
   | true=>
     simp only[XZ,simprocAttr]
     exact bad _ C6 15 (by rw[hrec,if_pos (by rw[hbb];simp)]) (by decide)
   |false=>
   rw[if_neg (by rw[hid,hbb];simp)]at hrec
   simp only[XY,simprocAttr]
   obtain⟨J3,hJ3⟩:∃J:Fr->St->Prop,∀fr S',J fr S'<->(S6=S'/\fr 1= .ptr (up 0 n) 0/\fr 4= .ptr kr 0/\fr 5= .int .i64 0/\fr 7= .int .i64 i/\fr 8= .ptr (up 0 nS) 0/\notLess p f.name=false):=⟨_,fun _ _=>Iff.rfl⟩
   refine JJ J3 ?_ ?_
   ·by_cases h0:i=0
    ·have h0':¬(0:Int)<(i:Int):=by omega
     rw[Jc];simp only[XZ,simprocAttr,f7,h0',Jk]
     exact(hJ3 _ _).2 ⟨rfl,by simp only[XZ,simprocAttr,f1],by simp only[XZ,simprocAttr,f4],by simp only[XZ,simprocAttr,f5],by simp only[XZ,simprocAttr,f7],by simp only[XZ,simprocAttr],by rw[hp,if_pos h0];rfl⟩
    ·have h0':(0:Int)<(i:Int):=by omega
     have hsub:IntKind.i64.wrap ((i:Int)-1)=((i-1:Nat):Int):=by rw[Jp (by omega) (by omega)];omega
     have hi1:i-1<fs.length:=by omega
     obtain⟨r',q',pv',nv2,kv2,b1,b3,b4,_⟩:=Jfx h3 (keep C6) hi1
     have b5:=kA b4 (j:=0) (by decide) rfl
     have b5:ld1 (S6.row r') q'=some (ofL fs[i-1].name, .no):=b5
     have hp':p=some fs[i-1].name:=by rw[hp,if_neg h0,List.getElem?_map,List.getElem?_eq_getElem hi1];rfl
     cases hl2:Op.bytesLess fs[i-1].name f.name with
     | false=>
       rw[Jc];simp only[XZ,simprocAttr,f1,f7,r06,r6,h0',hsub,b1,b5,YV,hl2,Jk]
       exact bad _ C6 6 (by rw[hrec,if_pos (by rw[hp',notLess,hl2];rfl)]) (by decide)
     | true=>
       rw[Jc];simp only[XZ,simprocAttr,f1,f7,r06,r6,h0',hsub,b1,b5,YV,hl2,Jk]
       exact(hJ3 _ _).2 ⟨rfl,by simp only[XZ,simprocAttr,f1],by simp only[XZ,simprocAttr,f4],by simp only[XZ,simprocAttr,f5],by simp only[XZ,simprocAttr,f7],by simp only[XZ,simprocAttr],by rw[hp',notLess,hl2];rfl⟩
   clear f1 f4 f5 f7
   intro fr S' hJf
   obtain⟨rfl,f1,f4,f5,f7,f8,hnl⟩:=(hJ3 _ _).1 hJf
   rw[if_neg (by rw[hnl];simp)]at hrec
   by_cases h4:4<f.params.length
   ·have h4':(4:Int)<f.params.length:=by omega
    rw[Jf,Jc];simp only[XZ,simprocAttr,f8,r6,lp,h4']
    exact bad _ C6 18 (by rw[hrec,if_pos h4]) (by decide)
   have h4':¬(4:Int)<f.params.length:=by omega
   rw[if_neg h4]at hrec
   rw[Jf,Jc];simp only[XY,simprocAttr,f8,r6,lp,h4']
   have hlst:∀{S':St},Ch (fun r=>r=kr) S3 S'->LstAt (TyC P S') P S' pv 4 f.params:=fun c=>⟨ep,p1.imp fun r p e=>⟨p,keep c r e⟩,p2,fun i a b=>(p3 i a b).imp fun r p e=>⟨p,keep c r e⟩⟩
   obtain⟨J4,hJ4⟩:∃J:Fr->St->Prop,∀fr S',J fr S'<->(fr 1= .ptr (up 0 n) 0/\fr 4= .ptr kr 0/\fr 5= .int .i64 (maysS (hasN l) f.params 1 mi).1/\fr 7= .int .i64 i/\fr 8= .ptr (up 0 nS) 0/\Ch (fun r=>r=kr) S3 S'/\(∃u,S'.row (up 0 nS)= .cells u [ofL f.name,pv, .int .i64 f.result.kind,ofL f.result.name,nv1,kv1])/\∃u,S'.row kr= .cells u [.int .i64 M.kind,ofL M.name,nv,kv,tv,sv, .int .i64 ((maysS (hasN l) f.params 1 mi).2:Nat)]):=⟨_,fun _ _=>Iff.rfl⟩
   refine JJ J4 ?_ ?_
   ·rw[Jc];simp only[XY,simprocAttr]
    obtain⟨I2,hI2⟩:∃I:Nat->Fr->St->Prop,∀j fr S',I j fr S'<->∃(k mk:Nat) (x:Int),j+k=f.params.length/\fr 1= .ptr (up 0 n) 0/\fr 4= .ptr kr 0/\fr 5= .int .i64 x/\fr 7= .int .i64 i/\fr 8= .ptr (up 0 nS) 0/\fr 9= .int .i64 k/\Ch (fun r=>r=kr) S3 S'/\(∃u,S'.row (up 0 nS)= .cells u [ofL f.name,pv, .int .i64 f.result.kind,ofL f.result.name,nv1,kv1])/\(∃u,S'.row kr= .cells u [.int .i64 M.kind,ofL M.name,nv,kv,tv,sv, .int .i64 (mk:Int)])/\maysS (hasN l) f.params 1 mi=(if x≠0 then(x,mk)else maysS (hasN l) (f.params.drop k) 1 mk)/\(x=0->mk<=400):=⟨_,fun _ _ _=>Iff.rfl⟩
    refine Jq I2 f.params.length (by omega) ((hI2 _ _ _).2 ⟨0,mi,0,by omega,by simp only[XZ,simprocAttr,f1],by simp only[XZ,simprocAttr,f4],by simp only[XZ,simprocAttr,f5],by simp only[XZ,simprocAttr,f7],by simp only[XZ,simprocAttr,f8],by simp only[XZ,simprocAttr]<;>rfl,C6,⟨t6,r6⟩,⟨u5,rk6⟩,by rw[if_neg (fun h=>h rfl)];rfl,fun _=>hmi⟩) ?_
    clear f1 f4 f5 f7 f8
    intro j2 fr S7 hIj
    obtain⟨k,mk,x,hjk,f1,f4,f5,f7,f8,f9,C7,⟨t7,r7⟩,⟨u7,rk7⟩,hrc,hmk⟩:=(hI2 _ _ _).1 hIj
    by_cases hk:k<f.params.length
    ·have hk':(k:Int)<f.params.length:=by omega
     by_cases hx:x=0
     ·rw[if_neg (fun h=>h hx),List.drop_eq_getElem_cons hk,JE]at hrc
      obtain⟨q2,qo,E',c1,c2,c3,c4,hE,e4,c5⟩:=(hlst C7).elem hk
      have haddk:IntKind.i64.wrap ((k:Int)+1)=((k+1:Nat):Int):=by rw[Jp (by omega) (by omega)];rfl
      simp only[XZ,simprocAttr,f4,f5,f8,f9,r7,lp,hk',hx,c1,c4]
      refine Jb (may C7 hE ⟨u7,rk7⟩ (hmk hx)) ?_
      rintro _ S8 ⟨c8,⟨u8,rk8⟩,rfl⟩
      have C8:=C7.trans c8 fun r w=> .inl w
      have r8:S8.row (up 0 nS)= .cells t7 [ofL f.name,pv, .int .i64 f.result.kind,ofL f.result.name,nv1,kv1]:=by rw[c8.same _ (Je r7) n6k,r7]
      have hm8:=KV (hasN l) f.params[k] 1 mk (hmk hx)
      simp only[XZ,simprocAttr,f9,haddk]
      exact⟨f.params.length-(k+1),by omega,(hI2 _ _ _).2 ⟨k+1,_,_,by omega,by simp only[XZ,simprocAttr,f1],by simp only[XZ,simprocAttr,f4],by simp only[XZ,simprocAttr],by simp only[XZ,simprocAttr,f7],by simp only[XZ,simprocAttr,f8],by simp only[XZ,simprocAttr],C8,⟨t7,r8⟩,⟨u8,rk8⟩,hrc,hm8.2⟩⟩
     ·rw[if_pos hx]at hrc
      simp only[XZ,simprocAttr,f5,f8,f9,r7,lp,hk',hx]
      exact(hJ4 _ _).2 ⟨by simp only[XZ,simprocAttr,f1],by simp only[XZ,simprocAttr,f4],by simp only[XZ,simprocAttr,f5,hrc],by simp only[XZ,simprocAttr,f7],by simp only[XZ,simprocAttr,f8],C7,⟨t7,r7⟩,u7,by rw[hrc];exact rk7⟩
    ·have hk':¬(k:Int)<f.params.length:=by omega
     have hrc2:maysS (hasN l) f.params 1 mi=(x,mk):=by
      rw[hrc,List.drop_eq_nil_of_le (by omega),J6]
      by_cases hx:x=0
      ·rw[if_neg (fun h=>h hx),hx]
      ·rw[if_pos hx]
     simp only[XZ,simprocAttr,f5,f8,f9,r7,lp,hk']
     exact(hJ4 _ _).2 ⟨by simp only[XZ,simprocAttr,f1],by simp only[XZ,simprocAttr,f4],by simp only[XZ,simprocAttr,f5,hrc2],by simp only[XZ,simprocAttr,f7],by simp only[XZ,simprocAttr,f8],C7,⟨t7,r7⟩,u7,by rw[hrc2];exact rk7⟩
   clear f1 f4 f5 f7 f8
   intro fr S7 hJf
   obtain⟨f1,f4,f5,f7,f8,C7,⟨t7,r7⟩,⟨u7,rk7⟩⟩:=(hJ4 _ _).1 hJf
   rw[Jei]at hrec
   have hmp:=QW (hasN l) f.params 1 mi hmi
   by_cases hp0:(maysS (hasN l) f.params 1 mi).1=0
   ·rw[hp0]at f5
    rw[if_neg (show¬(maysS (hasN l) f.params 1 mi).1≠0 from fun h=>h hp0)]at hrec
    have hmp2:=hmp.2 hp0
    obtain⟨mq,hmq⟩:∃m,m=(maysS (hasN l) f.params 1 mi).2:=⟨_,rfl⟩
    rw[<-hmq]at hrec rk7 hmp2
    rw[Jf,Jc];simp only[XY,simprocAttr,f5]
    simp only[XZ,simprocAttr,f4,f8,r7,d1,d2,d3,d4]
    refine Jb (may C7 (hres.imp fun r p e=>⟨p,keep C7 r e⟩) ⟨u7,rk7⟩ hmp2) ?_
    rintro _ S8 ⟨c8,⟨u8,rk8⟩,rfl⟩
    have C8:=C7.trans c8 fun r w=> .inl w
    have hm8:=KV (hasN l) f.result 1 mq hmp2
    by_cases hr0:(mayS (hasN l) f.result 1 mq).1=0
    ·rw[if_neg (fun h=>h hr0)]at hrec
     simp only[XZ,simprocAttr,hr0,f7,hadd1]
     exact⟨fs.length-(i+1),by omega,(hI _ _ _).2 ⟨i+1,_,some f.name,by omega,by simp only[XZ,simprocAttr,f1],by simp only[XZ,simprocAttr,f4],by simp only[XZ,simprocAttr,hr0],by simp only[XZ,simprocAttr],C8,⟨u8,rk8⟩,hm8.2 hr0,hrec,by rw[if_neg (by omega)];simp[hi,hf]⟩⟩
    ·rw[if_pos hr0]at hrec
     simp only[XZ,simprocAttr,hr0]
     exact bad _ C8 _ (by rw[hrec]) hr0
   ·rw[if_pos (show(maysS (hasN l) f.params 1 mi).1≠0 from hp0),if_pos hp0]at hrec
    rw[Jf,Jc];simp only[XZ,simprocAttr,f5,hp0]
    exact bad _ C7 _ (by rw[hrec]) hp0
  ·have hi':¬(i:Int)<fs.length:=by omega
   rw[List.drop_eq_nil_of_le (by omega),sigsS]at hrec
   simp only[XZ,simprocAttr,f1,f7,r05,l2,hi']
   exact(hJ2 _ _).2 ⟨by simp only[XZ,simprocAttr,f1],C5,by rw[hrec]⟩
 clear f1 f4 f5
 intro fr S5 hJf
 obtain⟨f1,C5,hs0⟩:=(hJ2 _ _).1 hJf
 rw[if_neg (fun h=>h hs0)]at hchk
 obtain⟨hp4,hpc,hms⟩:=Jbb (hasN l) none fs m2 hmM hs0
 have hokS:=JfJ (hasN l) none fs m2 hs0
 have r05:=kcell C5 r0 n0k
 have w5:=C5.wf
 rw[Jf,Jc];simp only[XY,simprocAttr,f1,r05,cs1,cs2,cs3,cs4,cv1.1,cv1.2,cv2.1,cv2.2]
 refine Jn (Jmp (P:=P) (s:=s) (JB w5 S5.t) ((hschM C5).low S5.t) (by rw[<-hll];omega) (by rw[<-hll];omega)) ?_
 rw[<-hll]
 rintro fv S6 g6 hfv
 have lf:=hfv.len
 rw[JL]at lf
 have C6:=C5.gr g6
 have r06:=g6.cells r05
 obtain⟨F,hF⟩:∃F,F=(finR l (l.length+1) []).length:=⟨_,rfl⟩
 rw[<-hF]at lf hchk
 by_cases hfl:F=l.length
 rotate_left
 ·have hfl':¬(F:Int)=(l.length:Int):=by omega
  simp only[XZ,simprocAttr,f1,lf,r06,l1,hfl',Jk]
  refine fin _ _ (keep C6) fun _=> ?_
  rw[hchk,if_pos hfl]
 have hfl':(F:Int)=(l.length:Int):=by omega
 rw[if_neg (fun h=>h hfl)]at hchk
 simp only[XY,simprocAttr,f1,lf,r06,l1,hfl',Jk]
 rw[Jc];simp only[XY,simprocAttr,f1,r06,cs1,cs2,cs3,cs4,cv1.1,cv1.2,cv2.1,cv2.2]
 refine Jb (rallC (P:=P) (Q:=fun r=>P r\/S6.row r= .none) (s:=s) C6.wf (hschM C6) (by rw[<-hll];omega) (by rw[<-hfs];omega) (fun f hf=>by have:=hp4 f (by rw[hfs];exact hf);omega) (fun r p=> .inl p) fun r p=> .inr p) ?_
 rintro ev S7 ⟨g7,hevl⟩
 have C7:=C6.gr g7
 have r07:=g7.cells r06
 have hok:∀t∈everyS s,cntT t<1000000/\okO t=true:=fun t ht=>by
  rw[hev]at ht
  rcases List.mem_append.1 ht with ht|ht
  ·rcases List.mem_append.1 ht with ht|ht
   ·exact⟨by have:=Jde ht;omega,Jbh hokT t ht⟩
   ·rw[List.mem_singleton.1 ht];exact⟨by omega,hokM⟩
  ·unfold sgTys at ht
   obtain⟨x,hx,htx⟩:=List.mem_flatten.1 ht
   obtain⟨f,hf,rfl⟩:=List.mem_map.1 hx
   have h5:=Jde htx
   have h6:=hpc f hf
   exact⟨by omega,Jbh (hokS f hf) t htx⟩
 have hlenE:(everyS s).length<1000000:=by
  have hk:=Jat fs fun f hf=>by have:=hp4 f hf;omega
  rw[hev]
  simp only[List.length_append,List.length_map,List.length_singleton]
  omega
 have le:=hevl.len
 simp only[XY,simprocAttr]
 rw[Jf,Jc];simp only[XY,simprocAttr]
 obtain⟨A,hA⟩:∃A,A=everyS s:=⟨_,rfl⟩
 rw[<-hA]at hevl le hlenE hok hchk
 obtain⟨I,hI⟩:∃I:Nat->Fr->St->Prop,∀j fr S',I j fr S'<->∃(i:Nat),j+i=A.length/\fr 1= .ptr (up 0 n) 0/\fr 10=ev/\fr 11= .int .i64 i/\Gr S7 S'/\A.any (optsR l)=(A.drop i).any (optsR l):=⟨_,fun _ _ _=>Iff.rfl⟩
 refine Jq I A.length (by omega) ((hI _ _ _).2 ⟨0,by omega,by simp only[XZ,simprocAttr,f1],by simp only[XZ,simprocAttr],by simp only[XZ,simprocAttr]<;>rfl,Gr.refl g7.wf,rfl⟩) ?_
 clear f1
 intro j fr S8 hIj
 obtain⟨i,hj,f1,f10,f11,g8,hrec⟩:=(hI _ _ _).1 hIj
 have C8:=C7.gr g8
 have r08:=g8.cells r07
 by_cases hi:i<A.length
 ·have hi':(i:Int)<A.length:=by omega
  obtain⟨q2,qo,E',c1,c2,c3,c4,hE,e4,c5⟩:=(hevl.imp (fun e x h=>h.gr g8) fun r p e=>⟨p,g8.same r e⟩:LstAt (TyC (fun r=>P r\/S6.row r= .none) S8) (fun r=>P r\/S6.row r= .none) S8 ev 4 A).elem hi
  have hadd1:IntKind.i64.wrap ((i:Int)+1)=((i+1:Nat):Int):=by rw[Jp (by omega) (by omega)];rfl
  rw[List.drop_eq_getElem_cons hi,List.any_cons]at hrec
  obtain⟨hk1,hk2⟩:=hok _ (List.getElem_mem hi)
  simp only[XZ,simprocAttr,f1,f10,f11,r08,le,hi',c1,c4,cs1,cs2,cs3,cs4,cv1.1,cv1.2,cv2.1,cv2.2]
  refine Jn (roptsC _ A[i] (Nat.lt_succ_self _) (fun r=>S8.row r≠ .none) _ s _ E' (JB C8.wf S8.t) (((hschM C8).imp fun r p e=>⟨e,rfl⟩).low S8.t) ((hE.imp fun r p e=>⟨e,rfl⟩:TyC (fun r=>S8.row r≠ .none) S8 E' A[i]).low S8.t) (fun r p=>p) (by rw[<-hll];omega) hk1 hk2) ?_
  rw[<-hll]
  rintro _ S9 g9 rfl
  cases hb:optsR l A[i]with
  | true=>
    rw[hb,Bool.true_or]at hrec
    simp only[XZ,simprocAttr,Jk]
    refine fin _ _ (keep (C8.gr g9)) fun _=> ?_
    rw[hchk,hrec];rfl
  | false=>
    rw[hb,Bool.false_or]at hrec
    simp only[XZ,simprocAttr,Jk,f11,hadd1]
    exact⟨A.length-(i+1),by omega,(hI _ _ _).2 ⟨i+1,by omega,by simp only[XZ,simprocAttr,f1],by simp only[XZ,simprocAttr,f10],by simp only[XZ,simprocAttr],g8.trans g9,hrec⟩⟩
 ·have hi':¬(i:Int)<A.length:=by omega
  rw[List.drop_eq_nil_of_le (by omega)]at hrec
  simp only[XZ,simprocAttr,f10,f11,le,hi']
  refine fin _ _ (keep C8) fun _=> ?_
  rw[hchk,hrec];rfl
theorem rcheckC {P:Pt->Prop}{st:St}{e1:List V}{s:Sch}(hw:WF st)(h:SchC P st e1 s):
  Does (tabT tabD) kC [.agg e1] st fun v' st'=>Gr st st'/\v'= .int .i64 (refS s):=
 rcheckP (P:=fun r=>P r/\st.row r≠ .none) hw (h.imp fun r p e=>⟨⟨p,e⟩,rfl⟩) fun r p=>p.2
theorem Jia {P:Pt->Prop}{st:St}{v:V}{ns:List Str}(h:SlAt P st v 1 (strs ns)){i:Nat}(hi:i<ns.length):∃r o,iaddrSV 1 v (.int .i64 i)=some (.ptr r o, .no)/\ld1 (st.row r) o=some (ofL ns[i], .no):=by
 obtain⟨r,q,a,b,c,d⟩:=SlAt.one (xs:=ns.map ofL) h (i:=i) (by simpa using hi)
 exact⟨r,q,a,by rw[d];simp⟩
theorem Jnk {α:Type}{a b:List α}{i:Nat}(ha:i<a.length)(hb:i<b.length)(h:a[i]≠b[i]):a≠b:=fun e=>h (by subst e;rfl)
set_option maxHeartbeats 4000000 in
theorem sameD (m:Nat):∀(X Y:Ty),tsz X<m->fitT X=true->fitT Y=true->∀{P Q:Pt->Prop} {st:St} {e1 e2:List V},WF st->TyC P st e1 X->TyC Q st e2 Y->
  Does (tabT tabD) Jce [.agg e1, .agg e2] st fun v S=>Gr st S/\∃b,v= .bool b/\(b=true<->X=Y):=by
 induction m with
 |zero=>intro X Y h;exact absurd h (Nat.not_lt_zero _)
 |succ m ih=>
 intro X Y hX hf hf' P Q st e1 e2 hw h1 h2
 obtain⟨k,n,ns,ks⟩:=X
 obtain⟨k',n',ns',ks'⟩:=Y
 obtain⟨f1,f2,f3⟩:=Jga hf
 obtain⟨v4,v5,v6⟩:=Jga hf'
 refine Jv Jbw rfl ?_
 obtain⟨n0,hn0⟩:∃n,st.nx=up 0 n:=⟨_,up0 _⟩
 obtain⟨nv,kv,es,rfl,x1,x2,x3,x4⟩:=h1.inv'
 obtain⟨mv,lv,fs,rfl,y1,y2,y3,y4⟩:=h2.inv'
 have c1:=x1.cells
 have c2:=x1.sc
 have c3:=x2.cells
 have c4:=x2.sc
 have d1:=y1.cells
 have d2:=y1.sc
 have d3:=y2.cells
 have d4:=y2.sc
 have xl1:=x1.len
 have xl2:=x2.len
 have yl1:=y1.len
 have yl2:=y2.len
 rw[JL]at xl1 yl1
 rw[x3]at xl2
 rw[y3]at yl2
 obtain⟨p2,hp2⟩:∃b,b=up 0 n0:=⟨_,rfl⟩
 obtain⟨p3,hp3⟩:∃b,b=up 1 n0:=⟨_,rfl⟩
 simp only[Qf,XY,simprocAttr]
 rw[Jc];simp only[XY,simprocAttr,hn0,c1,c2,c3,c4,d1,d2,d3,d4]
 rw[<-hp2,<-hp3]
 obtain⟨S0,hS0⟩:∃S0,S0=((st.new fun t=> .cells t [.int .i64 k,ofL n,nv,kv]).new fun t=> .cells t [.int .i64 k',ofL n',mv,lv]):=⟨_,rfl⟩
 have G0:Gr st S0:=by rw[hS0];exact(Gr.new hw (Ja _)).nn (Ja _)
 obtain⟨t2,r2⟩:∃t,S0.row p2= .cells t [.int .i64 k,ofL n,nv,kv]:=⟨_,by rw[hS0,hp2];simp only[XZ,simprocAttr,hn0];rfl⟩
 obtain⟨t3,r3⟩:∃t,S0.row p3= .cells t [.int .i64 k',ofL n',mv,lv]:=⟨_,by rw[hS0,hp3];simp only[XZ,simprocAttr,hn0];rfl⟩
 rw[<-hS0]
 clear hS0
 have nope:∀{S:St},Gr st S->¬(Ty.mk k n ns ks=Ty.mk k' n' ns' ks')->Gr st S/\∃b,V.bool false= .bool b/\(b=true<->Ty.mk k n ns ks=Ty.mk k' n' ns' ks'):=fun g h=>⟨g,false,rfl,fun e=>(by cases e),fun e=>absurd e h⟩
 by_cases hk:k=k'
 rotate_left
 ·simp only[XZ,simprocAttr,r2,r3,hk]
  exact nope G0 fun e=>hk (by injection e)
 subst hk
 by_cases hn:n=n'
 rotate_left
 ·simp only[XZ,simprocAttr,r2,r3,hn]
  exact nope G0 fun e=>hn (by injection e)
 subst hn
 by_cases hl:ns.length=ns'.length
 rotate_left
 ·have hl':((ns.length:Int)=(ns'.length:Int))=False:=eq_false (by omega)
  simp only[XZ,simprocAttr,r2,r3,xl1,yl1,hl']
  exact nope G0 fun e=>hl (by injection e with _ _ e;rw[e])
 have hl':((ns.length:Int)=(ns'.length:Int))=True:=eq_true (by omega)
 by_cases hm:ks.length=ks'.length
 rotate_left
 ·have hm':((ks.length:Int)=(ks'.length:Int))=False:=eq_false (by omega)
  simp only[XZ,simprocAttr,r2,r3,xl1,yl1,xl2,yl2,hl',hm']
  exact nope G0 fun e=>hm (by injection e with _ _ _ e;rw[e])
 have hm':((ks.length:Int)=(ks'.length:Int))=True:=eq_true (by omega)
 rw[Jf,Jc];simp only[XY,simprocAttr,r2,r3,xl1,xl2,yl1,yl2,hl',hm']
 have x10:=x1.gr G0
 have y10:=y1.gr G0
 refine JJ (fun fr S=>S=S0/\fr 2= .ptr p2 0/\fr 3= .ptr p3 0/\ns=ns') ?_ ?_
 ·rw[Jc];simp only[XY,simprocAttr]
  obtain⟨L,hL⟩:∃L:Nat->Fr->St->Prop,∀j fr S,L j fr S<->∃(i:Nat),j+i=ns.length/\fr 2= .ptr p2 0/\fr 3= .ptr p3 0/\fr 5= .int .i64 i/\S=S0/\∀q (h:q<ns.length) (h':q<ns'.length),q<i->ns[q]=ns'[q]:=⟨_,fun _ _ _=>Iff.rfl⟩
  refine Jq L ns.length (by omega) ((hL _ _ _).2 ⟨0,by omega,by simp only[XZ,simprocAttr],by simp only[XZ,simprocAttr],by simp only[XZ,simprocAttr]<;>rfl,rfl,fun q _ _ h=>absurd h (by omega)⟩) ?_
  intro j fr S hLj
  obtain⟨i,hj,f2,f3,f5,rfl,heq⟩:=(hL _ _ _).1 hLj
  by_cases hi:i<ns.length
  ·have hi':(i:Int)<ns.length:=by omega
   have hadd1:IntKind.i64.wrap ((i:Int)+1)=((i+1:Nat):Int):=by rw[Jp (by omega) (by omega)];rfl
   obtain⟨r,q,a1,a4⟩:=Jia x10 hi
   obtain⟨r',q',b1,b4⟩:=Jia y10 (i:=i) (by omega)
   by_cases he:ns[i]=ns'[i]'(by omega)
   ·simp only[XZ,simprocAttr,f2,f3,f5,r2,r3,xl1,hi',a1,a4,b1,b4,hadd1,Jk,he]
    exact⟨j-1,by omega,(hL _ _ _).2 ⟨i+1,by omega,by simp only[XZ,simprocAttr,f2],by simp only[XZ,simprocAttr,f3],by simp only[XZ,simprocAttr],rfl,fun q h h' hq=>by
     by_cases e:q=i
     ·subst e;exact he
     ·exact heq q h h' (by omega)⟩⟩
   ·simp only[XZ,simprocAttr,f2,f3,f5,r2,r3,xl1,hi',a1,a4,b1,b4,Jk,he]
    exact nope G0 fun e=>by injection e with _ _ e;exact Jnk hi (by omega) he e
  ·have hi':¬(i:Int)<ns.length:=by omega
   simp only[XZ,simprocAttr,f2,f3,f5,r2,r3,xl1,hi']
   exact List.ext_getElem hl fun q h h'=>heq q h h' (by omega)
 rintro fr S ⟨rfl,f2,f3,hns⟩
 refine JJ (fun fr S'=>Gr S S'/\ks=ks') ?_ fun fr S' h=>by
  simp only[XZ,simprocAttr]
  exact⟨G0.trans h.1,true,rfl,fun _=>by rw[hns,h.2],fun _=>rfl⟩
 rw[Jc];simp only[XY,simprocAttr]
 obtain⟨L,hL⟩:∃L:Nat->Fr->St->Prop,∀j fr S',L j fr S'<->∃(i:Nat),j+i=ks.length/\fr 2= .ptr p2 0/\fr 3= .ptr p3 0/\fr 6= .int .i64 i/\Gr S S'/\∀q (h:q<ks.length) (h':q<ks'.length),q<i->ks[q]=ks'[q]:=⟨_,fun _ _ _=>Iff.rfl⟩
 refine Jq L ks.length (by omega) ((hL _ _ _).2 ⟨0,by omega,by simp only[XZ,simprocAttr,f2],by simp only[XZ,simprocAttr,f3],by simp only[XZ,simprocAttr]<;>rfl,Gr.refl G0.wf,fun q _ _ h=>absurd h (by omega)⟩) ?_
 intro j fr S' hLj
 obtain⟨i,hj,f2,f3,f6,g,heq⟩:=(hL _ _ _).1 hLj
 have r2:=g.cells r2
 have r3:=g.cells r3
 by_cases hi:i<ks.length
 ·have hi':(i:Int)<ks.length:=by omega
  have hadd1:IntKind.i64.wrap ((i:Int)+1)=((i+1:Nat):Int):=by rw[Jp (by omega) (by omega)];rfl
  have hie:i<es.length:=by omega
  have hif:i<fs.length:=by omega
  obtain⟨r,q,a1,a2,a3,a4,a5⟩:=((x2.gr G0).gr g).elem hie
  obtain⟨r',q',b1,b2,b3,b4,b5⟩:=((y2.gr G0).gr g).elem hif
  rw[Jf,Jc];simp only[XY,simprocAttr,f2,f6,r2,xl2,hi']
  rw[Jf];simp only[XY,simprocAttr]
  rw[Jc];simp only[XY,simprocAttr,f2,f3,f6,r2,r3,a1,a4,b1,b4]
  refine Jn (ih ks[i] (ks'[i]'(by omega)) (by have:=YN (k:=k) (n:=n) (ns:=ns) hi;omega) (JbZ (by assumption) i hi) (JbZ v6 i (by omega)) (JB g.wf _) (((x4 i hie hi).gr (G0.trans g)).low _) (((y4 i hif (by omega)).gr (G0.trans g)).low _)) ?_
  rintro _ Se ge ⟨b,rfl,hb⟩
  cases b with
  | true=>
    simp only[XZ,simprocAttr,f6,hadd1,Jk]
    exact⟨j-1,by omega,(hL _ _ _).2 ⟨i+1,by omega,by simp only[XZ,simprocAttr,f2],by simp only[XZ,simprocAttr,f3],by simp only[XZ,simprocAttr],g.trans ge,fun q h h' hq=>by
     by_cases e:q=i
     ·subst e;exact hb.1 rfl
     ·exact heq q h h' (by omega)⟩⟩
  | false=>
    simp only[XZ,simprocAttr,Jk]
    exact nope (G0.trans (g.trans ge)) fun e=>by
     injection e with _ _ _ e
     have:=hb.2 (by subst e;rfl)
     cases this
 ·have hi':¬(i:Int)<ks.length:=by omega
  simp only[XZ,simprocAttr,f2,f6,r2,xl2,hi']
  exact⟨g,List.ext_getElem hm fun q h h'=>heq q h h' (by omega)⟩
set_option maxHeartbeats 8000000 in
theorem raddC (mm:Nat):∀(X:Ty),tsz X<mm->∀{Sb st:St} {ru:Pt} {lv tv:V} {rest:List V} {O:Pt->Prop} {tb:Tb} {trees:List Ty} {e:List V} {left:Int},RT Sb st ru lv tv rest O tb.nodes trees->TreesOf tb.nodes trees->TyC (fun r=>Sb.row r≠ .none) st e X->(addT X left tb).2.2.1=0->(∃r0 r1 r2 r3 r4 r5 r6 r7 r8,rest=[r0,r1,r2,r3,r4,r5,r6,r7,r8])->
  Does (tabT tabD) jE [.ptr ru 0, .agg e] st fun v S=>∃lv' tv' O' trees',RT Sb S ru lv' tv' rest O' (addT X left tb).1.nodes trees'/\TreesOf (addT X left tb).1.nodes trees'/\Kp (Bt ru lv tv O) (Bt ru lv' tv' O') st S/\v= .tup [.int .i64 ((addT X left tb).2.1:Nat), .int .i64 0]:=by
 induction mm with
 |zero=>intro X h;exact absurd h (Nat.not_lt_zero _)
 |succ mm ih=>
 intro X hX Sb st ru lv tv rest O tb trees e left hR hI hx he hrest
 obtain⟨k,n,ns,ks⟩:=X
 obtain⟨hk8,hn8,hes,hel,ha1,ha2⟩:=Jnd he
 have hfit:=Jd9 _ he
 obtain⟨_,_,hfk⟩:=Jga hfit
 refine Jv ju rfl ?_
 have hw:=hR.g.wf
 obtain⟨n0,hn0⟩:∃n,st.nx=up 0 n:=⟨_,up0 _⟩
 obtain⟨nv,kv,es,rfl,x1,x2,x3,x4⟩:=hx.inv'
 have c1:=x1.cells
 have c2:=x1.sc
 have c3:=x2.cells
 have c4:=x2.sc
 have len2:=x2.len
 rw[x3]at len2
 obtain⟨p3,hp3⟩:∃b,b=up 0 n0:=⟨_,rfl⟩
 simp only[Kg,XY,simprocAttr]
 rw[Jc];simp only[XY,simprocAttr,hn0,c1,c2,c3,c4]
 rw[<-hp3]
 obtain⟨S0,hS0⟩:∃S0,S0=(st.new fun t=> .cells t [.int .i64 k,ofL n,nv,kv]):=⟨_,rfl⟩
 have G0:Gr st S0:=by rw[hS0];exact Gr.new hw (Ja _)
 obtain⟨t3,r3⟩:∃t,S0.row p3= .cells t [.int .i64 k,ofL n,nv,kv]:=⟨_,by rw[hS0,hp3];simp only[XZ,simprocAttr,hn0];rfl⟩
 have p3n:st.row p3= .none:=by rw[hp3];exact nx0 hw hn0 0
 rw[<-hS0]
 clear hS0
 have w0:=G0.wf
 obtain⟨n1,hn1⟩:∃n,S0.nx=up 0 n:=⟨_,up0 _⟩
 have o3:=fun k=>nes (Js w0 hn1 (Je r3) k)
 rw[Jc];simp only[XY,simprocAttr,r3,hn1,o3]
 obtain⟨x0,hx0⟩:∃b,b=up 0 n1:=⟨_,rfl⟩
 obtain⟨S1,hS1⟩:∃S',S'=(S0.new fun t=>Row.cells t []):=⟨_,rfl⟩
 have G1:Gr S0 S1:=by rw[hS1];exact Gr.new w0 (Ja _)
 obtain⟨t1,r1⟩:∃t,S1.row x0= .cells t []:=⟨_,by rw[hS1,hx0];simp only[XZ,simprocAttr,hn1];rfl⟩
 have x0n:S0.row x0= .none:=by rw[hx0];exact nx0 w0 hn1 0
 rw[<-hS1,<-hx0]
 clear hS1
 have hn3:p3≠x0:=fun e=>by rw[<-e,r3]at x0n;cases x0n
 have stD:∀r,S0.row r= .none->st.row r= .none:=fun r e=>Ch.fresh (Ch.of (fun _=>False) G0) e
 have SbD:∀r,st.row r= .none->Sb.row r= .none:=fun r e=>Ch.fresh (Ch.of (fun _=>False) hR.g) e
 have sl0:SlF st S1 (.slx x0 0 0 1 0) 1 []:=⟨by simp, .inr ⟨x0,t1,stD _ x0n,by rw[r1];rfl, .inr rfl⟩⟩
 have G01:=G0.trans G1
 refine jr (S0:=st) G01 sl0 (x1.gr G01) (jn _) (by rw[JL];omega) (by rw[JL];simp;omega) fun Sa v1 ga hSl hrow hkeep=> ?_
 simp only[List.nil_append]at hSl
 have r3a:Sa.row p3= .cells t3 [.int .i64 k,ofL n,nv,kv]:=(hkeep p3 (Je (G1.cells r3)) fun e=>hn3 (by injection e with e;exact e.symm)).trans (G1.cells r3)
 have v1a:=hSl.at.sc
 have v1b:=hSl.at.cells
 obtain⟨nA,hnA⟩:∃n,Sa.nx=up 0 n:=⟨_,up0 _⟩
 simp only[XY,simprocAttr,hnA,v1a,v1b]
 obtain⟨p6,hp6⟩:∃b,b=up 0 nA:=⟨_,rfl⟩
 obtain⟨S2,hS2⟩:∃S',S'=((Sa.new fun t=> .cells t [.int .i64 0,ofL [], .snil, .snil]).wr (up 0 nA) Sa.t fun u=> .cells u [.int .i64 k,ofL n,v1, .snil]):=⟨_,rfl⟩
 have G2:Gr Sa S2:=by rw[hS2];exact(Gr.refl ga.wf).nw hnA (Ja _) (Ja _)
 obtain⟨t6,r6⟩:∃t,S2.row p6= .cells t [.int .i64 k,ofL n,v1, .snil]:=⟨_,by rw[hS2,hp6];simp only[XZ,simprocAttr,hnA];rfl⟩
 have p6n:Sa.row p6= .none:=by rw[hp6];exact nx0 ga.wf hnA 0
 rw[<-hS2,<-hp6]
 clear hS2
 refine⟨Jfl (Kr (v:= .slx x0 0 0 1 0) (w:= .ptr p3 0) (q:=p3) ?_ ?_ rfl fun e=>hn3 (by injection e with e;exact e.symm)) (Kr (v:= .slx x0 0 0 1 0) (w:= .ptr p3 1) (q:=p3) ?_ ?_ rfl fun e=>hn3 (by injection e with e;exact e.symm)), ?_⟩
 ·simp only[XZ,simprocAttr]
 ·simp only[XZ,simprocAttr]
 ·simp only[XZ,simprocAttr]
 ·simp only[XZ,simprocAttr]
 have G02:Gr st S2:=ga.trans G2
 have p6s:st.row p6= .none:=Ch.fresh (Ch.of (fun _=>False) ga) p6n
 have v1al:∀r,rowOf v1=some r->Sa.row r≠ .none:=fun r e=>hSl.some e
 have v13:∀r,rowOf v1=some r->r≠p3/\r≠p6:=fun r e=>⟨fun x=>(by
  subst x
  rcases hrow with h|h
  ·rw[h]at e;injection e with e;exact hn3 e.symm
  ·rw[h]at e;injection e with e
   have:=KQ G1.wf
   rw[e,G1.cells r3]at this;cases this),fun x=>v1al r e (by rw[x];exact p6n)⟩
 have n36:p3≠p6:=fun x=>by rw[<-x,r3a]at p6n;cases p6n
 have ow:∀r,st.row r= .none->S2.row r≠ .none->S2.row r≠ .none/\¬Bt ru lv tv O r:=fun r e a=>⟨a,fun x=>hR.alive r x e⟩
 have r32:=G2.cells r3a
 have M0:Mid5 Sb st S2 ru p3 p6 lv tv lv tv rest O O tb.nodes trees [.int .i64 k,ofL n,nv,kv] [.int .i64 k,ofL n] v1 .snil ns []:=
  {rt:=hR.gr G02,kp:=Kp.gr G02,r3:=⟨_,r32⟩,r6:=⟨_,r6⟩,nm:=(hSl.gr G2).early SbD,kd:=SlF.nil _ _ _,fs:=fun r e=>e.elim (fun e=> .inr (hSl.row e).1) (fun e=>nomatch e),apk:=fun r e=>(nomatch e),ap1:=v13,ap6:=n36,f3:=p3n,f6:=p6s,
   own:=fun r e=>by
    rcases e with rfl|rfl|e|e
    ·exact ow _ p3n (Je r32)
    ·exact ow _ p6s (Je r6)
    ·exact ow _ (hSl.row e).1 ((hSl.gr G2).some e)
    ·cases e}
 obtain⟨q0,q1,q2,q3,q4,q5,q6,q7,q8,rfl⟩:=hrest
 clear hrow hkeep sl0 G01 r1 x0n hn3 o3 hn1 hn0 hnA v1a v1b ow r32 v1al r6 r3a t6 t1
 have kx:∀{S:St} {lv' tv' rest' O' nd tr},RT Sb S ru lv' tv' rest' O' nd tr->∀{E:List V} {T:Ty},TyC (fun r=>Sb.row r≠ .none) st E T->TyC (fun r=>Sb.row r≠ .none) S E T:=fun{_ _ _ _ _ _ _} R {_ _} h=>TyC.imp h fun q p _=>⟨p,by rw[R.g.same q p,hR.g.same q p]⟩
 obtain⟨F,hF⟩:∃F:Fr->St->Prop,∀fr S,F fr S<->∃(lv' tv' kv':V) (O':Pt->Prop) (tr:List Ty),fr 0= .ptr ru 0/\fr 3= .ptr p3 0/\fr 6= .ptr p6 0/\
   Mid5 Sb st S ru p3 p6 lv tv lv' tv' [q0,q1,q2,q3,q4,q5,q6,q7,q8] O O' (addTs ks (left-1) tb).1.nodes tr [.int .i64 k,ofL n,nv,kv] [.int .i64 k,ofL n] v1 kv' ns (addTs ks (left-1) tb).2.1/\TreesOf (addTs ks (left-1) tb).1.nodes tr:=⟨_,fun _ _=>Iff.rfl⟩
 refine JJ F ?_ ?_
 ·rw[Jc];simp only[XY,simprocAttr]
  obtain⟨L,hL⟩:∃L:Nat->Fr->St->Prop,∀j fr S,L j fr S<->∃(i:Nat) (lv' tv' kv':V) (O':Pt->Prop) (tr:List Ty) (tbi:Tb) (li:Int) (ids:List Nat),j+i=ks.length/\fr 0= .ptr ru 0/\fr 3= .ptr p3 0/\fr 6= .ptr p6 0/\fr 7= .int .i64 i/\
   Mid5 Sb st S ru p3 p6 lv tv lv' tv' [q0,q1,q2,q3,q4,q5,q6,q7,q8] O O' tbi.nodes tr [.int .i64 k,ofL n,nv,kv] [.int .i64 k,ofL n] v1 kv' ns ids/\TreesOf tbi.nodes tr/\
   (addTs (ks.drop i) li tbi).2.2.1=0/\(addTs ks (left-1) tb).1=(addTs (ks.drop i) li tbi).1/\(addTs ks (left-1) tb).2.1=ids++(addTs (ks.drop i) li tbi).2.1/\ids.length=i:=⟨_,fun _ _ _=>Iff.rfl⟩
  refine Jq L ks.length (by omega) ((hL _ _ _).2 ⟨0,lv,tv, .snil,O,trees,tb,left-1,[],by omega,by simp only[XZ,simprocAttr],by simp only[XZ,simprocAttr],by simp only[XZ,simprocAttr],by simp only[XZ,simprocAttr]<;>rfl,M0,hI,hes,rfl,rfl,rfl⟩) ?_
  intro j fr S hLj
  obtain⟨i,lv',tv',kw,O',tr,tbi,li,ids,hj,f0,f3,f6,f7,M,T,e0,e1,e2,e3⟩:=(hL _ _ _).1 hLj
  obtain⟨t3,m3⟩:=M.r3
  obtain⟨t6,m6⟩:=M.r6
  simp only[List.cons_append,List.nil_append]at m6
  by_cases hi:i<ks.length
  ·have hi':(i:Int)<ks.length:=by omega
   have hadd1:IntKind.i64.wrap ((i:Int)+1)=((i+1:Nat):Int):=by rw[Jp (by omega) (by omega)];rfl
   have hx2:LstAt (TyC (fun r=>Sb.row r≠ .none) S) (fun r=>Sb.row r≠ .none) S kv 4 ks:=⟨es,x2.imp fun r p _=>⟨p,by rw[M.rt.g.same r p,hR.g.same r p]⟩,x3,fun i a b=>kx M.rt (x4 i a b)⟩
   obtain⟨q,qo,E,a1,a2,a3,a4,hE,e4,a5⟩:=hx2.elem hi
   rw[List.drop_eq_getElem_cons hi]at e0 e1 e2
   obtain⟨s1,s2,s3,s4⟩:=Jmj e0
   rw[s3]at e1
   rw[s4]at e2
   simp only[XZ,simprocAttr,f0,f3,f7,m3,len2,hi',a1,a4]
   refine Jb (ih ks[i] (by have:=YN (k:=k) (n:=n) (ns:=ns) hi;omega) M.rt T hE s1 ⟨_,_,_,_,_,_,_,_,_,rfl⟩) ?_
   rintro _ S3 ⟨lv2,tv2,O2,tr2,R2,T2,K2,rfl⟩
   have M2:=M.call R2 K2
   obtain⟨u6,m62⟩:=M2.r6
   simp only[List.cons_append,List.nil_append]at m62
   obtain⟨id,hid⟩:∃id,id=(addT ks[i] li tbi).2.1:=⟨_,rfl⟩
   rw[<-hid]at e2⊢
   have w3:=R2.g.wf
   obtain⟨n3,hn3⟩:∃n,S3.nx=up 0 n:=⟨_,up0 _⟩
   simp only[XZ,simprocAttr,f6,m62,hn3]
   have gn:Gr S3 (S3.new fun t=> .cells t [.int .i64 id]):=Gr.new w3 (Ja _)
   have hone:SlAt (fun r=>r=up 0 n3) (S3.new fun t=> .cells t [.int .i64 id]) (.slx (up 0 n3) 0 1 1 1) 1 [[.int .i64 id]]:=by
    have:=YI (st:=S3) (z:=1) (e:=[.int .i64 id]) rfl
    rwa [hn3]at this
   have M3:=M2.gr gn
   refine YO (S0:=Sb) M3.rt.g M3.kd hone (fun e he=>by rw[List.mem_singleton.1 he];rfl) (by simp) (by simp) (by rw[Kq];simp;omega) ?_
   intro S4 v4 g4 h4 rv4 kp4
   have r64:S4.row p6= .cells u6 [.int .i64 k,ofL n,v1,kw]:=(kp4 p6 (Je (gn.cells m62)) fun e=>(M3.apk _ e).2.1 rfl).trans (gn.cells m62)
   have hsc:=h4.at.sc
   have hcl:=h4.at.cells
   simp only[XZ,simprocAttr,f6,f7,r64,hsc,hcl,hadd1]
   refine⟨ks.length-(i+1),by omega,(hL _ _ _).2 ⟨i+1,lv2,tv2,v4,O2,tr2,(addT ks[i] li tbi).1,(addT ks[i] li tbi).2.2.2,ids++[id],by omega,by simp only[XZ,simprocAttr,f0],by simp only[XZ,simprocAttr,f3],by simp only[XZ,simprocAttr,f6],by simp only[XZ,simprocAttr], ?_,T2,s2,e1,by rw[e2];simp,by simp[e3]⟩⟩
   refine M3.push (S1:=S4) (by unfold ints at h4⊢;simpa using h4) rv4 kp4 (fun r e=>by simp only[Jx,e,if_false]) ⟨_,by simp only[XZ,simprocAttr];rfl⟩ (g4.wr ?_ (Je r64) (by rw[r64];rfl) (Ja _))
   exact SbD _ p6s
  ·have hi':¬(i:Int)<ks.length:=by omega
   rw[List.drop_eq_nil_of_le (by omega),Kv]at e1 e2
   simp only[XZ,simprocAttr,f3,f7,m3,len2,hi']
   refine(hF _ _).2 ⟨lv',tv',kw,O',tr,by simp only[XZ,simprocAttr,f0],by simp only[XZ,simprocAttr,f3],by simp only[XZ,simprocAttr,f6], ?_⟩
   rw[e1,e2,List.append_nil]
   exact⟨M,T⟩
 clear M0 hI
 intro fr S hFf
 obtain⟨lv',tv',kw,O',tr,f0,f3,f6,M,T⟩:=(hF _ _).1 hFf
 obtain⟨_,_,hlk,_⟩:=kQ ks hes
 generalize hA:addTs ks (left-1) tb=A at hes hel ha1 ha2 M T hlk
 obtain⟨tbE,ids,eA,lA⟩:=A
 simp only at hes hel ha1 ha2 M T hlk
 clear hF hFf F hes hA
 rw[ha1,ha2]
 clear ha1 ha2 he
 have hlay:layS tbE ⟨k,n,ns,ids⟩=match idx ⟨k,n,ns,ids⟩ tbE.nodes 0 with
  |some i=>(tbE,i,0)
  |none=>if 120<=tbE.nodes.length then(tbE,0,20)else({tbE with nodes:=tbE.nodes++[⟨k,n,ns,ids⟩]},tbE.nodes.length,0):=rfl
 have hidx:lookT tbE.nodes (.mk k n ns ks)=idx ⟨k,n,ns,ids⟩ tbE.nodes 0:=by rw[lookT,hlk]
 obtain⟨t3,m3⟩:=M.r3
 obtain⟨t6,m6⟩:=M.r6
 simp only[List.cons_append,List.nil_append]at m6
 obtain⟨tc,rc⟩:=M.rt.cell
 obtain⟨es1,l1,l2,l3⟩:=M.rt.l
 obtain⟨ts1,u1,u2,u3⟩:=M.rt.t
 have ll:=l1.at.len
 have lt:=u1.at.len
 have hXS:=kx M.rt hx
 obtain⟨F,hF⟩:∃F:Fr->St->Prop,∀fr S',F fr S'<->fr 0= .ptr ru 0/\fr 3= .ptr p3 0/\fr 6= .ptr p6 0/\Gr S S'/\idx ⟨k,n,ns,ids⟩ tbE.nodes 0=none:=⟨_,fun _ _=>Iff.rfl⟩
 refine JJ F ?_ ?_
 ·rw[Jc];simp only[XY,simprocAttr]
  obtain⟨L,hL⟩:∃L:Nat->Fr->St->Prop,∀j fr S',L j fr S'<->∃(i:Nat),j+i=tr.length/\fr 0= .ptr ru 0/\fr 3= .ptr p3 0/\fr 6= .ptr p6 0/\fr 10= .int .i64 i/\Gr S S'/\∀q (a:q<tr.length),q<i->tr[q]≠ .mk k n ns ks:=⟨_,fun _ _ _=>Iff.rfl⟩
  have trl:tr.length<1000000:=by
   have:=T.len
   have:=T.few
   omega
  refine Jq L tr.length (by omega) ((hL _ _ _).2 ⟨0,by omega,by simp only[XZ,simprocAttr,f0],by simp only[XZ,simprocAttr,f3],by simp only[XZ,simprocAttr,f6],by simp only[XZ,simprocAttr]<;>rfl,Gr.refl M.rt.g.wf,fun q _ h=>absurd h (Nat.not_lt_zero _)⟩) ?_
  clear f0 f3 f6
  intro j fr S' hLj
  obtain⟨i,hj,f0,f3,f6,f10,g,hne⟩:=(hL _ _ _).1 hLj
  have rc':=g.cells rc
  have m3':=g.cells m3
  by_cases hi:i<tr.length
  ·have hi':(i:Int)<ts1.length:=by omega
   have hadd1:IntKind.i64.wrap ((i:Int)+1)=((i+1:Nat):Int):=by rw[Jp (by omega) (by omega)];rfl
   have hl2:LstAt (TyC (fun r=>Sb.row r≠ .none) S') (fun r=>Sb.row r= .none) S' tv' 4 tr:=⟨ts1,(u1.gr g).at,u2,fun i a b=>(u3 i a b).gr g⟩
   obtain⟨q,qo,E,a1,a2,a3,a4,hE,e4,a5⟩:=hl2.elem hi
   simp only[XZ,simprocAttr,f0,f3,f10,rc',m3',lt,hi',a1,a4]
   have ft:=T.fit _ (List.getElem_mem hi)
   refine Jn (sameD _ tr[i] (.mk k n ns ks) (Nat.lt_succ_self _) ft hfit (JB g.wf _) (hE.low _) ((hXS.gr g).low _)) ?_
   rintro _ S2 g2 ⟨b,rfl,hb⟩
   cases b with
   | true=>
     have e:=hb.1 rfl
     rw[T.at hi,hidx]at e
     have e2:layS tbE ⟨k,n,ns,ids⟩=(tbE,i,0):=by rw[hlay,e]
     simp only[XZ,simprocAttr,f10]
     rw[e2]
     exact⟨lv',tv',O',tr,M.rt.gr (g.trans g2),T,M.kp.trans (Kp.gr (g.trans g2)),rfl⟩
   | false=>
     simp only[XZ,simprocAttr,f10,hadd1]
     exact⟨tr.length-(i+1),by omega,(hL _ _ _).2 ⟨i+1,by omega,by simp only[XZ,simprocAttr,f0],by simp only[XZ,simprocAttr,f3],by simp only[XZ,simprocAttr,f6],by simp only[XZ,simprocAttr],g.trans g2,fun q a h=>by
      by_cases x:q=i
      ·subst x;exact fun e=>(by cases hb.2 e)
      ·exact hne q a (by omega)⟩⟩
  ·have hi':¬(i:Int)<ts1.length:=by omega
   simp only[XZ,simprocAttr,f0,f10,rc',lt,hi']
   refine(hF _ _).2 ⟨by simp only[XZ,simprocAttr,f0],by simp only[XZ,simprocAttr,f3],by simp only[XZ,simprocAttr,f6],g, ?_⟩
   cases e:idx ⟨k,n,ns,ids⟩ tbE.nodes 0 with
   |none=>rfl
   | some q=>
     obtain⟨_,b⟩:=Jdd e
     have hq:q<tr.length:=by
      rw[T.len]
      exact(List.getElem?_eq_some_iff.1 b).1
     exact absurd ((T.at hq).2 (hidx.trans e)) (hne q hq (by omega))
 clear f0 f3 f6
 intro fr S' hFf
 obtain⟨f0,f3,f6,g,hno⟩:=(hF _ _).1 hFf
 obtain⟨h120,hl2⟩:tbE.nodes.length<120/\layS tbE ⟨k,n,ns,ids⟩=({tbE with nodes:=tbE.nodes++[⟨k,n,ns,ids⟩]},tbE.nodes.length,0):=by
  rw[hno]at hlay
  by_cases c:120<=tbE.nodes.length
  ·rw[if_pos c]at hlay;rw[hlay]at hel;cases hel
  ·rw[if_neg c]at hlay;exact⟨by omega,hlay⟩
 rw[hl2]
 have M:=M.gr g
 have rc:=g.cells rc
 have m3:=g.cells m3
 have m6:=g.cells m6
 have l1:=l1.gr g
 have u1:=u1.gr g
 have hXS:=hXS.gr g
 have l3:∀i (a:i<es1.length) (b:i<tbE.nodes.length),NdC O' S' es1[i] tbE.nodes[i]:=fun i a b=>(l3 i a b).gr g
 have u3:∀i (a:i<ts1.length) (b:i<tr.length),TyC (fun r=>Sb.row r≠ .none) S' ts1[i] tr[i]:=fun i a b=>(u3 i a b).gr g
 have n120:¬(120:Int)<=es1.length:=by omega
 have s1:=M.nm.at.sc
 have s2:=M.kd.at.sc
 have s3:=M.nm.at.cells
 have s4:=M.kd.at.cells
 rw[Jf,Jc];simp only[XY,simprocAttr,f0,rc,ll,n120]
 obtain⟨nS,hnS⟩:∃n,S'.nx=up 0 n:=⟨_,up0 _⟩
 rw[Jc];simp only[XY,simprocAttr,f0,f6,rc,m6,hnS,s1,s2,s3,s4]
 obtain⟨A5,hA5⟩:∃S5,S5=(S'.new fun t=> .cells t [.int .i64 k,ofL n,v1,kw]):=⟨_,rfl⟩
 have ga5:Gr S' A5:=by rw[hA5];exact Gr.new M.rt.g.wf (Ja _)
 have hone:SlAt (fun r=>r=up 0 nS) A5 (.slx (up 0 nS) 0 1 4 1) 4 [[.int .i64 k,ofL n,v1,kw]]:=by
  have:=YI (st:=S') (z:=4) (e:=[.int .i64 k,ofL n,v1,kw]) rfl
  rwa [hnS,<-hA5]at this
 rw[<-hA5]
 clear hA5 hnS
 have hal:=M.rt.alive
 have al5:=fun r (e:S'.row r≠ .none)=>(ga5.same r e▸e:A5.row r≠ .none)
 have sc4:okC [[V.int .i64 k,ofL n,v1,kw]]:=fun e he=>by rw[List.mem_singleton.1 he];simp only[allSc,List.all_cons,List.all_nil,s1,s2];rfl
 refine Jpr (Jne (R:=fun v' S=>Gr Sb S/\SlF Sb S v' 4 (es1++[[.int .i64 k,ofL n,v1,kw]])/\rowOf v'=some A5.nx/\∀p,A5.row p≠ .none->rowOf lv'≠some p->S.row p=A5.row p) ga5.wf (YO (S0:=Sb) (M.rt.g.trans ga5) (l1.gr ga5) hone sc4 (by simp) (by simp) (by simp;omega) fun S' v' a b c d=>⟨a,b,c,d⟩)) ?_
 rintro v5 A6 ⟨⟨g6,h5,rv5,kp5⟩,lv6⟩
 have rc6:A6.row ru= .cells tc [lv',tv',q0,q1,q2,q3,q4,q5,q6,q7,q8]:=(kp5 ru (al5 _ (Je rc)) fun e=>(M.rt.apl ru e).2 rfl).trans (ga5.cells rc)
 have s5:=h5.at.sc
 have s6:=h5.at.cells
 have ll5:=h5.at.len
 simp only[XY,simprocAttr,f0,rc6,s5,s6]
 obtain⟨A7,hA7⟩:∃S7,S7=(A6.wr ru tc fun u=> .cells u [v5,tv',q0,q1,q2,q3,q4,q5,q6,q7,q8]):=⟨_,rfl⟩
 have g7:Gr Sb A7:=by rw[hA7];exact g6.wr M.rt.ru0 (Je rc6) (by rw[rc6];rfl) (Ja _)
 have rc7:∃t,A7.row ru= .cells t [v5,tv',q0,q1,q2,q3,q4,q5,q6,q7,q8]:=⟨_,by rw[hA7];simp only[XZ,simprocAttr];rfl⟩
 have kp7:∀r,r≠ru->A7.row r=A6.row r:=fun r e=>by rw[hA7];simp only[Jx,e,if_false]
 rw[<-hA7]
 clear hA7
 obtain⟨t7,rc7⟩:=rc7
 have k57:∀r,S'.row r≠ .none->r≠ru->rowOf lv'≠some r->A7.row r=S'.row r:=fun r e a b=>by rw[kp7 r a,kp5 r (al5 r e) b,ga5.same r e]
 have o3:=M.own p3 (.inl rfl)
 have m37:=(k57 p3 (Je m3) (fun x=>o3.2 (.inl x)) fun x=>o3.2 (.inr (.inl x))).trans m3
 have u17:SlF Sb A7 tv' 4 ts1:=u1.keep fun r e=>k57 r (u1.some e) (M.rt.apt r e) fun x=>(M.rt.apl r x).1 e
 have d5:∀r,rowOf v5=some r->S'.row r= .none:=fun r e=>by
  rw[rv5]at e
  injection e with e
  exact Ch.fresh (Ch.of (fun _=>False) ga5) (e▸KQ ga5.wf)
 have h57:SlF Sb A7 v5 4 (es1++[[.int .i64 k,ofL n,v1,kw]]):=h5.keep fun r e=>kp7 r fun x=>Je rc (x▸d5 r e)
 obtain⟨nB,hnB⟩:∃n,A7.nx=up 0 n:=⟨_,up0 _⟩
 have lt7:=u17.at.len
 rw[Jc];simp only[XY,simprocAttr,f0,f3,rc7,m37,lt7,hnB,c1,c2,c3,c4]
 obtain⟨A8,hA8⟩:∃S5,S5=(A7.new fun t=> .cells t [.int .i64 0,ofL [], .snil, .snil]):=⟨_,rfl⟩
 have ga8:Gr A7 A8:=by rw[hA8];exact Gr.new g7.wf (Ja _)
 have hzer:SlAt (fun r=>r=up 0 nB) A8 (.slx (up 0 nB) 0 1 4 1) 4 [[.int .i64 0,ofL [], .snil, .snil]]:=by
  have:=YI (st:=A7) (z:=4) (e:=[.int .i64 0,ofL [], .snil, .snil]) rfl
  rwa [hnB,<-hA8]at this
 rw[<-hA8]
 clear hA8 hnB
 have sc8:okC [[V.int .i64 0,ofL [], .snil, .snil]]:=fun e he=>by rw[List.mem_singleton.1 he];rfl
 refine YO (S0:=Sb) (g7.trans ga8) (u17.gr ga8) hzer sc8 (by simp) (by simp) (by have:=T.few;have:=T.len;simp;omega) ?_
 intro A9 v9 g9 h9 rv9 kp9
 have tru:∀x,rowOf tv'=some x->x≠ru:=M.rt.apt
 have rc9:A9.row ru= .cells t7 [v5,tv',q0,q1,q2,q3,q4,q5,q6,q7,q8]:=(kp9 ru (Je (ga8.cells rc7)) fun e=>tru _ e rfl).trans (ga8.cells rc7)
 have s7:=h9.at.sc
 have s8:=h9.at.cells
 obtain⟨r9,t9,b1,b2,b3,b4,b5,b6⟩:=Jnc h9 (k:=ts1.length) (by simp)
 have d9':A8.row r9= .none:=by
  rw[rv9]at b1
  injection b1 with b1
  exact b1▸KQ ga8.wf
 have d9:A7.row r9= .none:=Ch.fresh (Ch.of (fun _=>False) ga8) d9'
 have hr9u:r9≠ru:=fun e=>by rw[e,rc7]at d9;cases d9
 have e9:∀r,rowOf v9=some r->S'.row r= .none:=fun r e=>by
  rw[b1]at e
  injection e with e
  refine Classical.byContradiction fun x=> ?_
  have a:=lv6 r (al5 r x)
  by_cases y:r=ru
  ·exact hr9u (e.trans y)
  ·rw[<-kp7 r y,<-e]at a
   exact a d9
 have hnes:=nes hr9u
 simp only[XM,simprocAttr,f0,rc9,s7,s8,b4,b3,hnes]
 refine⟨⟨by rw[JG h9.1];simp;omega,by rw[c2,c4];rfl⟩,Jfl (Kr (v:= .ptr r9 (ts1.length*4)) (w:= .ptr ru 1) (q:=ru) ?_ ?_ rfl fun e=>hr9u (by injection e)) (Kr (v:= .ptr ru 1) (w:= .ptr r9 (ts1.length*4)) (q:=r9) ?_ ?_ rfl fun e=>hr9u (by injection e with e;exact e.symm)), ?_⟩
 ·simp only[XZ,simprocAttr]
 ·simp only[XZ,simprocAttr]
 ·simp only[XZ,simprocAttr]
 ·simp only[XZ,simprocAttr]
 have hsp:splice [v5,tv',q0,q1,q2,q3,q4,q5,q6,q7,q8] 1 [v9]=[v5,v9,q0,q1,q2,q3,q4,q5,q6,q7,q8]:=rfl
 rw[hsp]
 obtain⟨Aa,hAa⟩:∃S,S=(A9.wr r9 t9 fun u=> .cells u (splice (ts1++[[V.int .i64 0,ofL [],V.snil,V.snil]]).flatten (ts1.length*4) [V.int .i64 k,ofL n,nv,kv])):=⟨_,rfl⟩
 rw[<-hAa]
 have ga:Gr Sb Aa:=by rw[hAa];exact g9.wr b2 (Je b3) (by rw[b3];rfl) (Ja _)
 have ra:∃t,Aa.row r9= .cells t (splice (ts1++[[V.int .i64 0,ofL [],V.snil,V.snil]]).flatten (ts1.length*4) [V.int .i64 k,ofL n,nv,kv]):=⟨_,by rw[hAa];simp only[XM,simprocAttr];rfl⟩
 have ka:∀r,r≠r9->Aa.row r=A9.row r:=fun r e=>by rw[hAa];simp only[Jx,e,if_false]
 clear hAa
 have rca:Aa.row ru= .cells t7 [v5,tv',q0,q1,q2,q3,q4,q5,q6,q7,q8]:=(ka ru fun e=>hr9u e.symm).trans rc9
 obtain⟨Ab,hAb⟩:∃S,S=(Aa.wr ru t7 fun u=> .cells u [v5,v9,q0,q1,q2,q3,q4,q5,q6,q7,q8]):=⟨_,rfl⟩
 have hgb:Gr Sb Ab:=by rw[hAb];exact ga.wr M.rt.ru0 (Je rca) (by rw[rca];rfl) (Ja _)
 have rb:∃t,Ab.row ru= .cells t [v5,v9,q0,q1,q2,q3,q4,q5,q6,q7,q8]:=⟨_,by rw[hAb];simp only[XZ,simprocAttr];rfl⟩
 have kb:∀r,r≠ru->Ab.row r=Aa.row r:=fun r e=>by rw[hAb];simp only[Jx,e,if_false]
 rw[<-hAb]
 clear hAb
 have hlen:lenLV v5=some (.int .i64 ((tbE.nodes.length+1:Nat):Int), .no):=by rw[ll5,List.length_append,l2];rfl
 have hsub:IntKind.i64.wrap (((tbE.nodes.length+1:Nat):Int)-1)=(tbE.nodes.length:Int):=by rw[Jp (by omega) (by omega)];omega
 have kb':∀r,r≠ru->r≠r9->A7.row r≠ .none->rowOf tv'≠some r->Ab.row r=A7.row r:=fun r a b c d=>by
  have c8:=(ga8.same r c)
  rw[kb r a,ka r b,kp9 r (by rw[c8];exact c) d,c8]
 obtain⟨tb2,rb⟩:=rb
 obtain⟨ta2,ra⟩:=ra
 have fin:=M.done (n:=n) (k:=k) (S':=Ab) (X:= .mk k n ns ks) (E:=[.int .i64 k,ofL n,nv,kv]) hgb ⟨tb2,rb⟩ l2 l3
  (h57.keep fun r e=>kb' r (fun x=>Je rc (x▸d5 r e)) (fun x=>h57.some e (x▸d9)) (h57.some e) fun x=>u1.some x (d5 r e)) u2 u3
  (by
   have:=b6 Ab ta2 0 [.int .i64 k,ofL n,nv,kv] (by simp) (by rw[kb r9 hr9u];exact ra)
   rw[List.set_append_right _ _ (Nat.le_refl _)]at this
   simpa[Kn]using this) hXS d5 e9
  (fun r e x=>by
   rw[b1]at x
   injection x with x
   exact h57.some e (x▸d9))
  (fun p e a b c=>by rw[kb' p a (fun x=>by
   have:=e9 p (by rw[b1,x])
   exact e this) (by rw[k57 p e a b];exact e) c,k57 p e a b])
 simp only[XZ,simprocAttr,hlen,hsub]
 exact⟨v5,v9,_,tr++[.mk k n ns ks],fin.1,T.snoc hlk hno hfit h120,fin.2⟩
set_option maxHeartbeats 8000000 in
theorem rnew5 {st:St}{e1:List V}{z:Ty}{ps:List Ty}{nm:Str}(hw:WF st)(h:SchC (fun r=>st.row r≠ .none) st e1 ⟨z,[],[⟨nm,ps,z⟩]⟩)(hps:ps.length<=8)
  (hz:refS ⟨z,[],[⟨nm,ps,z⟩]⟩=0->(addT z 400 emptyTb).2.2.1=0/\(addList (ps++[z]) (tbM z)).2.2=0):
  Does (tabT tabD) JcR [.agg e1] st fun v S=>Gr st S/\((∃k:Int,k≠0/\v= .tup [.pnil, .int .i64 k])\/
   (refS ⟨z,[],[⟨nm,ps,z⟩]⟩=0/\∃Sb ru lv tv rest O trees,RT Sb S ru lv tv rest O (addList (ps++[z]) (tbM z)).1.nodes trees/\(∃c d e f g h i j k,rest=[c,d,e,f,g,h,i,j,k])/\v= .tup [.ptr ru 0, .int .i64 0])):=by
 refine Jw tabM Jb5 rfl hw fun K fin=> ?_
 obtain⟨n0,hn0⟩:∃n,st.nx=up 0 n:=⟨_,up0 _⟩
 have hsch:=h
 obtain⟨c,tv,sv,rfl,h1,h2,h3⟩:=h
 obtain⟨nv,kv,es,rfl,x1,x2,x3,x4⟩:=h1.inv
 have l1:=h2.len
 have l2:=h3.len
 have cs1:=x1.cells
 have cs2:=x1.sc
 have cs3:=x2.cells
 have cs4:=x2.sc
 have cv1:=h2.sc
 have cv2:=h3.sc
 obtain⟨p1,hp1⟩:∃b,b=up 0 n0:=⟨_,rfl⟩
 simp only[Qs,XY,simprocAttr]
 rw[Jc];simp only[XY,simprocAttr,hn0,cs1,cs2,cs3,cs4,cv1.1,cv1.2,cv2.1,cv2.2]
 rw[<-hp1]
 obtain⟨S0,hS0⟩:∃S0,S0=(st.new fun t=> .cells t [.int .i64 z.kind,ofL z.name,nv,kv,tv,sv]):=⟨_,rfl⟩
 have g0:Gr st S0:=by rw[hS0];exact Gr.new hw (Ja _)
 obtain⟨t0,r0⟩:∃t,S0.row p1= .cells t [.int .i64 z.kind,ofL z.name,nv,kv,tv,sv]:=⟨_,by rw[hS0,hp1];simp only[XZ,simprocAttr,hn0];rfl⟩
 rw[<-hS0]
 clear hS0
 have hs0:SchC (fun r=>st.row r≠ .none) S0 [.int .i64 z.kind,ofL z.name,nv,kv,tv,sv] ⟨z,[],[⟨nm,ps,z⟩]⟩:=hsch.imp fun r p _=>⟨p,g0.same r p⟩
 rw[Jf,Jc];simp only[XY,simprocAttr,r0]
 refine Jb (rcheckC g0.wf hs0) ?_
 rintro _ S1 ⟨g1,rfl⟩
 have r1:=g1.cells r0
 by_cases hc:refS ⟨z,[],[⟨nm,ps,z⟩]⟩=0
 rotate_left
 ·simp only[XZ,simprocAttr,hc,r1]
  refine Jb (rcheckC g1.wf (hs0.imp fun r p _=>⟨p,by rw[g1.same r (by rw[g0.same r p];exact p)]⟩)) ?_
  rintro _ S2 ⟨g2,rfl⟩
  simp only[XZ,simprocAttr]
  exact fin _ _ (fun r e=>((g0.trans g1).trans g2).same r e) fun _=> .inl ⟨_,hc,rfl⟩
 obtain⟨z1,z2⟩:=hz hc
 simp only[XY,simprocAttr,hc]
 obtain⟨n1,hn1⟩:∃n,S1.nx=up 0 n:=⟨_,up0 _⟩
 have g01:=g0.trans g1
 have w1:=g01.wf
 obtain⟨ru,hru⟩:∃b,b=up 0 n1:=⟨_,rfl⟩
 have sall:(nv.sc&&(kv.sc&&(tv.sc&&sv.sc)))=true:=by rw[cs2,cs4,cv1.1,cv2.1];rfl
 rw[Jc];simp only[XY,simprocAttr,r1,hn1,cs2,cs4,cv1.1,cv2.1]
 rw[<-hru]
 obtain⟨S2,hS2⟩:∃S',S'=(S1.new fun t=> .cells t [.snil, .snil, .int .i64 z.kind,ofL z.name,nv,kv,tv,sv, .snil, .int .i64 0, .snil]):=⟨_,rfl⟩
 have g2:Gr S1 S2:=by rw[hS2];exact Gr.new w1 (Ja _)
 obtain⟨t2,r2⟩:∃t,S2.row ru= .cells t [.snil, .snil, .int .i64 z.kind,ofL z.name,nv,kv,tv,sv, .snil, .int .i64 0, .snil]:=⟨_,by rw[hS2,hru];simp only[XZ,simprocAttr,hn1];rfl⟩
 have run:S1.row ru= .none:=by rw[hru];exact nx0 w1 hn1 0
 rw[<-hS2]
 clear hS2
 have R2:RT S1 S2 ru .snil .snil [.int .i64 z.kind,ofL z.name,nv,kv,tv,sv, .snil, .int .i64 0, .snil] (fun _=>False) emptyTb.nodes []:=⟨g2,run,⟨t2,r2⟩,⟨[],SlF.nil _ _ _,rfl,fun i h=>absurd h (Nat.not_lt_zero _)⟩,⟨[],SlF.nil _ _ _,rfl,fun i h=>absurd h (Nat.not_lt_zero _)⟩,fun r e=>(nomatch e),fun r e=>(nomatch e),fun r (e:False)=>e.elim⟩
 have kp1:∀{S:St},Gr S1 S->S.row p1= .cells t0 [.int .i64 z.kind,ofL z.name,nv,kv,tv,sv]:=fun g=>g.cells r1
 have l1':lenLV tv=some (.int .i64 (([]:List (Str×Ty)).length:Nat), .no):=l1
 have n0':¬(0:Int)<(([]:List (Str×Ty)).length:Int):=by simp
 rw[Jf,Jc];simp only[XY,simprocAttr]
 refine Qz (by omega) ?_
 simp only[XZ,simprocAttr,kp1 R2.g,l1',n0']
 have hxz:∀{S:St},Gr S1 S->TyC (fun r=>S1.row r≠ .none) S [.int .i64 z.kind,ofL z.name,nv,kv] z:=fun g=>TyC.imp h1 fun r p _=>by
  have e1:=g01.same r p
  exact⟨by rw[e1];exact p,by rw[g.same r (by rw[e1];exact p),e1]⟩
 refine Jb (raddC _ z (Nat.lt_succ_self _) R2 TreesOf.nil (hxz R2.g) z1 ⟨_,_,_,_,_,_,_,_,_,rfl⟩) ?_
 rintro _ S3 ⟨lv3,tv3,O3,tr3,R3,T3,K3,rfl⟩
 obtain⟨t3,r3⟩:=R3.cell
 obtain⟨id0,hid0⟩:∃i,i=(addT z 400 emptyTb).2.1:=⟨_,rfl⟩
 rw[<-hid0]
 simp only[XY,simprocAttr]
 rw[Jf,Jc];simp only[XY,simprocAttr]
 rw[Jc];simp only[XY,simprocAttr,r3]
 obtain⟨S4,hS4⟩:∃S,S=(S3.wr ru t3 fun u=> .cells u [lv3,tv3, .int .i64 z.kind,ofL z.name,nv,kv,tv,sv, .snil, .int .i64 (id0:Nat), .snil]):=⟨_,rfl⟩
 have g4:Gr S1 S4:=by rw[hS4];exact R3.g.wr run (Je r3) (by rw[r3];rfl) (Ja _)
 have r4:∃t,S4.row ru= .cells t [lv3,tv3, .int .i64 z.kind,ofL z.name,nv,kv,tv,sv, .snil, .int .i64 (id0:Nat), .snil]:=⟨_,by rw[hS4];simp only[XZ,simprocAttr];rfl⟩
 have k4:∀r,r≠ru->S4.row r=S3.row r:=fun r e=>by rw[hS4];simp only[Jx,e,if_false]
 rw[<-hS4]
 clear hS4
 have R4:=R3.set (rest':=[.int .i64 z.kind,ofL z.name,nv,kv,tv,sv, .snil, .int .i64 (id0:Nat), .snil]) g4 r4 fun r _ e=>k4 r e
 clear R3 K3 r3 R2 r2 g4 r4 k4 t3
 have ll2:lenLV sv=some (.int .i64 (1:Nat), .no):=l2
 obtain⟨tb1,htb1⟩:∃t,t=tbM z:=⟨_,rfl⟩
 have en:(addT z 400 emptyTb).1.nodes=tb1.nodes:=by rw[htb1];rfl
 rw[en]at R4 T3
 rw[<-htb1]at z2
 obtain⟨u1,u2,u3⟩:=Jbj z ps tb1 z2
 rw[<-htb1,u3]at fin
 obtain⟨rq,qo,pv,nv1,kv1,a1,a3,a4,hpsT,hres,d5,d1⟩:=Jfx (S:=st) h3 (fun _ _=>rfl) (i:=0) (Nat.zero_lt_one)
 have a1:iaddrSV 6 sv (.int .i64 0)=some (.ptr rq qo, .no):=a1
 have a4:ldn (st.row rq) qo 6=some (.agg [ofL nm,pv, .int .i64 z.kind,ofL z.name,nv1,kv1], .no):=a4
 have hpsT:TysAt (fun r=>st.row r≠ .none) st pv ps:=hpsT
 have hres:TyC (fun r=>st.row r≠ .none) st [.int .i64 z.kind,ofL z.name,nv1,kv1] z:=hres
 have ll2:lenLV sv=some (.int .i64 1, .no):=ll2
 have lps:=(Jf1.1 hpsT).len
 have ks:∀{S:St},Gr S1 S->∀r,st.row r≠ .none->S.row r=st.row r:=fun g r e=>by rw[g.same r (by rw[g01.same r e];exact e),g01.same r e]
 have nmL:∀{S:St},Gr S1 S->ld1 (S.row rq) qo=some (ofL nm, .no):=fun g=>by rw[ks g rq a3];exact kA a4 (j:=0) (by decide) rfl
 have pvL:∀{S:St},Gr S1 S->ld1 (S.row rq) (qo+1)=some (pv, .no):=fun g=>by rw[ks g rq a3];exact kA a4 (j:=1) (by decide) rfl
 have resL:∀{S:St},Gr S1 S->ldn (S.row rq) (qo+2) 4=some (.agg [.int .i64 z.kind,ofL z.name,nv1,kv1], .no):=fun g=>by rw[ks g rq a3];exact kT (a:=2) (b:=4) a4
 have kty:∀{S:St} {e:List V} {t:Ty},Gr S1 S->TyC (fun r=>st.row r≠ .none) st e t->TyC (fun r=>S1.row r≠ .none) S e t:=fun g h=>h.imp fun r p _=>⟨by rw[g01.same r p];exact p,ks g r p⟩
 obtain⟨L,hL⟩:∃L:Nat->Fr->St->Prop,∀j fr S,L j fr S<->fr 1= .ptr p1 0/\fr 4= .ptr ru 0/\((j=1/\S=S4/\fr 10= .int .i64 0)\/(j=0/\fr 10= .int .i64 1/\∃lv tv O tr rest,RT S1 S ru lv tv rest O (addT z 400 (addList ps tb1).1).1.nodes tr/\∃c d e f g h i j k,rest=[c,d,e,f,g,h,i,j,k])):=⟨_,fun _ _ _=>Iff.rfl⟩
 rw[Jf,Jc];simp only[XY,simprocAttr]
 refine Jq L 1 (by omega) ((hL _ _ _).2 ⟨by simp only[XZ,simprocAttr],by simp only[XZ,simprocAttr], .inl ⟨rfl,rfl,by simp only[XZ,simprocAttr]⟩⟩) ?_
 intro j fr S hLj
 obtain⟨f1,f4,⟨rfl,rfl,f10⟩|⟨rfl,f10,lvE,tvE,OE,trE,restE,RE,hE⟩⟩:=(hL _ _ _).1 hLj
 rotate_left
 ·simp only[XZ,simprocAttr,f1,f4,f10,kp1 RE.g,ll2]
  exact fin _ _ (ks RE.g) fun _=> .inr ⟨hc,S1,ru,lvE,tvE,restE,OE,trE,RE,hE,rfl⟩
 obtain⟨n4,hn4⟩:∃n,S.nx=up 0 n:=⟨_,up0 _⟩
 obtain⟨p11,hp11⟩:∃b,b=up 0 n4:=⟨_,rfl⟩
 have w4:=R4.g.wf
 rw[Jf,Jc];simp only[XY,simprocAttr,f1,f10,kp1 R4.g,ll2]
 rw[Jf];simp only[XY,simprocAttr]
 rw[Jc];simp only[XY,simprocAttr,f1,f10,kp1 R4.g,a1,nmL R4.g,hn4]
 rw[<-hp11]
 obtain⟨S5,hS5⟩:∃S',S'=((S.new fun t=>Row.cells t [ofL [], .snil, .int .i64 0]).wr p11 S.t fun u=> .cells u [ofL nm, .snil, .int .i64 0]):=⟨_,rfl⟩
 have g5:Gr S S5:=by rw[hS5,hp11];exact(Gr.refl w4).nw hn4 (Ja _) (Ja _)
 have r5:∃t,S5.row p11= .cells t [ofL nm, .snil, .int .i64 0]:=⟨_,by rw[hS5];simp only[XZ,simprocAttr];rfl⟩
 have p11n:S.row p11= .none:=by rw[hp11];exact nx0 w4 hn4 0
 rw[<-hS5]
 clear hS5
 have M5:Sg5 S1 S5 ru p11 lv3 tv3 [.int .i64 z.kind,ofL z.name,nv,kv,tv,sv, .snil, .int .i64 (id0:Nat), .snil] O3 tb1.nodes tr3 (ofL nm) .snil (.int .i64 0) []:=by
  refine⟨R4.gr g5,fun r e=> ?_,r5,SlF.nil _ _ _,Ch.fresh (Ch.of (fun _=>False) R4.g) p11n,fun e=>(nomatch e)⟩
  rcases e with e|e
  ·subst e
   obtain⟨t,c⟩:=r5
   exact⟨Je c,fun x=>R4.alive _ x p11n⟩
  ·cases e
 obtain⟨F,hF⟩:∃F:Fr->St->Prop,∀fr S,F fr S<->∃(lw tw pw:V) (O:Pt->Prop) (tr:List Ty) (ids:List Nat),fr 1= .ptr p1 0/\fr 4= .ptr ru 0/\fr 10= .int .i64 0/\fr 11= .ptr p11 0/\
   Sg5 S1 S ru p11 lw tw [.int .i64 z.kind,ofL z.name,nv,kv,tv,sv, .snil, .int .i64 (id0:Nat), .snil] O (addList ps tb1).1.nodes tr (ofL nm) pw (.int .i64 0) ids/\TreesOf (addList ps tb1).1.nodes tr:=⟨_,fun _ _=>Iff.rfl⟩
 refine JJ F ?_ ?_
 ·rw[Jc];simp only[XY,simprocAttr]
  obtain⟨J,hJ⟩:∃J:Nat->Fr->St->Prop,∀j fr S,J j fr S<->∃(i:Nat) (lw tw pw:V) (O:Pt->Prop) (tr:List Ty) (ids:List Nat) (tb:Tb),j+i=ps.length/\fr 1= .ptr p1 0/\fr 4= .ptr ru 0/\fr 10= .int .i64 0/\fr 11= .ptr p11 0/\fr 12= .int .i64 i/\
   Sg5 S1 S ru p11 lw tw [.int .i64 z.kind,ofL z.name,nv,kv,tv,sv, .snil, .int .i64 (id0:Nat), .snil] O tb.nodes tr (ofL nm) pw (.int .i64 0) ids/\TreesOf tb.nodes tr/\ids.length=i/\(addList (ps.drop i) tb).2.2=0/\(addList ps tb1).1=(addList (ps.drop i) tb).1:=⟨_,fun _ _ _=>Iff.rfl⟩
  refine Jq J ps.length (by omega) ((hJ _ _ _).2 ⟨0,lv3,tv3, .snil,O3,tr3,[],tb1,by omega,by simp only[XZ,simprocAttr,f1],by simp only[XZ,simprocAttr,f4],by simp only[XZ,simprocAttr,f10],by simp only[XZ,simprocAttr],by simp only[XZ,simprocAttr]<;>rfl,M5,T3,rfl,u1,rfl⟩) ?_
  clear f1 f4 f10
  intro j fr S6 hJj
  obtain⟨i,lv6,tv6,pw,O6,tr6,ids,tb6,hj,f1,f4,f10,f11,f12,M6,T6,e3,e0,e1⟩:=(hJ _ _ _).1 hJj
  have g6:=M6.rt.g
  by_cases hi:i<ps.length
  ·have hi':(i:Int)<ps.length:=by omega
   have hadd1:IntKind.i64.wrap ((i:Int)+1)=((i+1:Nat):Int):=by rw[Jp (by omega) (by omega)];rfl
   obtain⟨q,o,E,b1,b2,b3,b4,bE,_,_⟩:=(Jf1.1 hpsT).elem hi
   rw[<-ks g6 q b3]at b4
   rw[List.drop_eq_getElem_cons hi]at e0 e1
   obtain⟨s1,s2,s3⟩:=JiL e0
   rw[s3]at e1
   simp only[XZ,simprocAttr,f1,f4,f10,f12,kp1 g6,a1,pvL g6,lps,hi',b1,b4]
   refine Jb (raddC _ (ps[i]'hi) (Nat.lt_succ_self _) M6.rt T6 (kty g6 bE) s1 ⟨_,_,_,_,_,_,_,_,_,rfl⟩) ?_
   rintro _ S7 ⟨lv7,tv7,O7,tr7,R7,T7,K7,rfl⟩
   have M7:=M6.call R7 K7
   obtain⟨t7,c7⟩:=M7.c
   obtain⟨id,hid⟩:∃x,x=(addT (ps[i]'hi) 400 tb6).2.1:=⟨_,rfl⟩
   rw[<-hid]
   obtain⟨n7,hn7⟩:∃n,S7.nx=up 0 n:=⟨_,up0 _⟩
   simp only[XZ,simprocAttr,f11,c7,hn7]
   obtain⟨A8,hA8⟩:∃S,S=(S7.new fun t=> .cells t [.int .i64 (id:Nat)]):=⟨_,rfl⟩
   have ga8:Gr S7 A8:=by rw[hA8];exact Gr.new R7.g.wf (Ja _)
   have hone:SlAt (fun r=>r=up 0 n7) A8 (.slx (up 0 n7) 0 1 1 1) 1 [[.int .i64 (id:Nat)]]:=by
    have:=YI (st:=S7) (z:=1) (e:=[.int .i64 (id:Nat)]) rfl
    rwa [hn7,<-hA8]at this
   rw[<-hA8]
   clear hA8 hn7
   have M8:=M7.call (M7.rt.gr ga8) (Kp.gr ga8)
   obtain⟨t8,c8⟩:=M8.c
   have apw:=M8.ap
   refine YO (S0:=S1) M8.rt.g M8.l hone (fun e he=>by rw[List.mem_singleton.1 he];rfl) (by simp) (by simp) (by rw[Kq];simp;omega) ?_
   intro A9 pw9 g9 h9 rv9 kp9
   have c9:A9.row p11= .cells t8 [ofL nm,pw, .int .i64 0]:=(kp9 p11 (Je c8) apw).trans c8
   have q1:=h9.at.sc
   have q2:=h9.at.cells
   simp only[XZ,simprocAttr,f11,f12,c9,q1,q2,hadd1]
   refine⟨ps.length-(i+1),by omega,(hJ _ _ _).2 ⟨i+1,lv7,tv7,pw9,O7,tr7,ids++[id],(addT (ps[i]'hi) 400 tb6).1,by omega,by simp only[XZ,simprocAttr,f1],by simp only[XZ,simprocAttr,f4],by simp only[XZ,simprocAttr,f10],by simp only[XZ,simprocAttr,f11],by simp only[XZ,simprocAttr], ?_,T7,by simp[e3],s2,e1⟩⟩
   exact M8.push (S1:=A9) (by unfold ints at h9⊢;simpa using h9) rv9 kp9 (fun r e=>by simp only[Jx,e,if_false]) ⟨_,by simp only[XZ,simprocAttr];rfl⟩ (g9.wr M8.p0 (Je c9) (by rw[c9];rfl) (Ja _))
  ·have hi':¬(i:Int)<ps.length:=by omega
   rw[List.drop_eq_nil_of_le (by omega),addList]at e1
   simp only[XZ,simprocAttr,f1,f4,f10,f12,kp1 g6,a1,pvL g6,lps,hi']
   refine(hF _ _).2 ⟨lv6,tv6,pw,O6,tr6,ids,by simp only[XZ,simprocAttr,f1],by simp only[XZ,simprocAttr,f4],by simp only[XZ,simprocAttr,f10],by simp only[XZ,simprocAttr,f11], ?_⟩
   rw[e1]
   exact⟨M6,T6⟩
 clear f1 f4 f10
 intro fr S6 hFf
 obtain⟨lv6,tv6,pw,O6,tr6,ids,f1,f4,f10,f11,M6,T6⟩:=(hF _ _).1 hFf
 have g6:=M6.rt.g
 rw[Jc];simp only[XY,simprocAttr,f1,f4,f10,kp1 g6,a1,resL g6]
 refine Jb (raddC _ z (Nat.lt_succ_self _) M6.rt T6 (kty g6 hres) u2 ⟨_,_,_,_,_,_,_,_,_,rfl⟩) ?_
 rintro _ S7 ⟨lv7,tv7,O7,tr7,R7,T7,K7,rfl⟩
 have M7:=M6.call R7 K7
 obtain⟨t7,c7⟩:=M7.c
 obtain⟨idz,hidz⟩:∃x,x=(addT z 400 (addList ps tb1).1).2.1:=⟨_,rfl⟩
 rw[<-hidz]
 simp only[XY,simprocAttr,f11,c7]
 obtain⟨S8,hS8⟩:∃S,S=(S7.wr p11 t7 fun u=> .cells u [ofL nm,pw, .int .i64 (idz:Nat)]):=⟨_,rfl⟩
 have g8:Gr S1 S8:=by rw[hS8];exact M7.rt.g.wr M7.p0 (Je c7) (by rw[c7];rfl) (Ja _)
 have c8:∃t,S8.row p11= .cells t [ofL nm,pw, .int .i64 (idz:Nat)]:=⟨_,by rw[hS8];simp only[XZ,simprocAttr];rfl⟩
 have k8:∀r,r≠p11->S8.row r=S7.row r:=fun r e=>by rw[hS8];simp only[Jx,e,if_false]
 rw[<-hS8]
 clear hS8
 have M8:=M7.store k8 c8 g8
 obtain⟨t8,c8⟩:=c8
 obtain⟨tr8,r8⟩:=M8.rt.cell
 obtain⟨n8,hn8⟩:∃n,S8.nx=up 0 n:=⟨_,up0 _⟩
 have q1:=M8.l.at.sc
 have q2:=M8.l.at.cells
 rw[Jf,Jc];simp only[XZ,simprocAttr,f4,f11,c8,r8,hn8,q1,q2]
 obtain⟨A9,hA9⟩:∃S,S=(S8.new fun t=> .cells t [ofL nm,pw, .int .i64 (idz:Nat)]):=⟨_,rfl⟩
 have ga9:Gr S8 A9:=by rw[hA9];exact Gr.new g8.wf (Ja _)
 have hone:SlAt (fun r=>r=up 0 n8) A9 (.slx (up 0 n8) 0 1 3 1) 3 [[ofL nm,pw, .int .i64 (idz:Nat)]]:=by
  have:=YI (st:=S8) (z:=3) (e:=[ofL nm,pw, .int .i64 (idz:Nat)]) rfl
  rwa [hn8,<-hA9]at this
 rw[<-hA9]
 clear hA9
 have R9:=M8.rt.gr ga9
 obtain⟨tr9,r9⟩:=R9.cell
 refine YO (S0:=S1) R9.g (SlF.nil S1 A9 3) hone (fun e he=>by rw[List.mem_singleton.1 he];simp only[allSc,List.all_cons,List.all_nil,q1];rfl) (by simp) (by simp) (by simp) ?_
 intro A10 sw g10 h10 rv10 kp10
 have c10:A10.row ru=_:=(kp10 ru (Je r9) fun e=>(nomatch e)).trans r9
 have q3:=h10.at.sc
 have q4:=h10.at.cells
 simp only[XZ,simprocAttr,f4,f10,c10,q3,q4]
 refine⟨0,by omega,(hL _ _ _).2 ⟨by simp only[XZ,simprocAttr,f1],by simp only[XZ,simprocAttr,f4], .inr ⟨rfl,by simp only[XZ,simprocAttr],lv7,tv7,O7,tr7,[.int .i64 z.kind,ofL z.name,nv,kv,tv,sv, .snil, .int .i64 (id0:Nat),sw], ?_,_,_,_,_,_,_,_,_,_,rfl⟩⟩⟩
 refine R9.set (rest':=[.int .i64 z.kind,ofL z.name,nv,kv,tv,sv, .snil, .int .i64 (id0:Nat),sw]) (g10.wr run (Je c10) (by rw[c10];rfl) (Ja _)) ⟨_,by simp only[XZ,simprocAttr];rfl⟩ fun r e n=> ?_
 simp only[Jx,n,if_false]
 exact kp10 r e fun x=>(nomatch x)
end Go.Proofs.Ytcahllomeaimeaa
