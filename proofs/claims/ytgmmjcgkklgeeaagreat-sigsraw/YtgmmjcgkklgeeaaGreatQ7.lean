/- Raw trees, few of all. Schemas made of raw trees. Raw nodes: not too much. 'SigsRaw': w -/
import Derived.Test.YtgmmjcgkklgeeaaGreatQ6
set_option maxHeartbeats 8000000
set_option linter.unusedVariables false
set_option linter.unusedSimpArgs false
set_option linter.unusedSectionVars false
set_option maxRecDepth 100000
namespace Go.Proofs.YtgmmjcgkklgeeaaGreat
open Eva Go.RowKit
theorem JpX {P:Pt->Prop}{st:St}{e1:List V}{q1:Rw}{v2 v3:V}{ts ss:List Rw}(hw:WF st)(h1:RwC P st e1 q1)(h2:QU P st v2 ts)(h3:QU P st v3 ss):
  Does (tabT tabD) 5 [.agg e1,v2,v3] st fun v S=>Gr st S/\∃b,v= .bool b:=by
 refine Jy (aT Tryz.func5 rfl) rfl ?_;obtain⟨n0,hn0⟩:=nxE st;have g1:=h1;obtain⟨nv1,kv1,es1,rfl,_,_,_,a1,a2,_,_,_⟩:=h1.inv;have c1:=a1.cells;have s1:=a1.sc;have c2:=a2.cells;have s2:=a2.sc;obtain⟨l2,s3,c3,m2⟩:=h2.len;obtain⟨l3,s4,c4,m3⟩:=h3.len;simp only[CT,Tryz.f5,XY,simprocAttr];rw[Jb];simp only[XY,simprocAttr,hn0,c1,s1,c2,s2];obtain⟨S0,hS0⟩:=exE (st.new fun t=> .cells t [.int .i64 q1.kind, .int .i64 q1.n,nv1,kv1]);have g0:Gr st S0:=by rw[hS0];exact Gr.new hw (Ja _)
 obtain⟨t0,r0⟩:∃t,S0.row (up 0 n0)= .cells t [.int .i64 q1.kind, .int .i64 q1.n,nv1,kv1]:=⟨_,by rw[hS0];simp only[XZ,simprocAttr,hn0];rfl⟩
 rw[<-hS0];clear hS0;rw[Je,Jb];simp only[XY,simprocAttr,r0];refine Jd (fewC g1 _ g0 60 (by decide) (by decide)) ?_;rintro _ S1 ⟨gf,m,rfl,_,_⟩;have gs:=g0.trans gf;by_cases i1:m=0
 ·simp only[XZ,simprocAttr,i1,l2,l3];exact⟨gs,_,rfl⟩
 by_cases i2:(6:Int)<ts.length
 ·simp only[XZ,simprocAttr,i1,l2,l3,i2];exact⟨gs,_,rfl⟩
 by_cases i3:(6:Int)<ss.length
 ·simp only[XZ,simprocAttr,i1,l2,l3,i2,i3];exact⟨gs,_,rfl⟩
 simp only[XY,simprocAttr,i1,l2,l3,i2,i3];obtain⟨J,hJ⟩:=opE fun fr S=>(fr 2=v3/\Gr st S)
 refine JM J ?_ ?_
 ·rw[Jb];simp only[XY,simprocAttr];obtain⟨L,hL⟩:=loE fun j fr S=>∃i:Nat,j+i=ts.length/\fr 1=v2/\fr 2=v3/\fr 7= .int .i64 i/\Gr st S;refine Jn L ts.length (by omega) ((hL _ _ _).2 ⟨0,by omega,rfl,rfl,by simp only[XZ,simprocAttr]<;>rfl,gs⟩) ?_;intro j fr S hLj;obtain⟨i,hj,f1,f2,f7,hg⟩:=(hL _ _ _).1 hLj;by_cases hi:i<ts.length
  ·have hi':(i:Int)<ts.length:=by omega
   obtain⟨r,o,kv,nv,b1,b2,b3,b4,_⟩:=(h2.gr hg).elem hi;have hadd1:IntKind.i64.wrap ((i:Int)+1)=((i+1:Nat):Int):=by rw[Jo (by omega) (by omega)];rfl
   rw[Je,Jb];simp only[XY,simprocAttr,f1,f7,l2,hi'];rw[Je];simp only[XY,simprocAttr];rw[Jb];simp only[XY,simprocAttr,f1,f7,b1,b3];refine Jd (fewC b4 _ (Gr.refl hg.wf) 30 (by decide) (by decide)) ?_;rintro _ S' ⟨g',m',rfl,_,_⟩;by_cases i4:m'=0
   ·simp only[XZ,simprocAttr,i4];exact⟨hg.trans g',_,rfl⟩
   ·simp only[XZ,simprocAttr,i4,f7,hadd1];exact⟨ts.length-(i+1),by omega,(hL _ _ _).2 ⟨i+1,by omega,f1,f2,rfl,hg.trans g'⟩⟩
  ·have hi':¬(i:Int)<ts.length:=by omega
   simp only[XZ,simprocAttr,f1,f7,l2,hi'];exact(hJ _ _).2 ⟨f2,hg⟩
 intro fr S hJf;obtain⟨f2,hg⟩:=(hJ _ _).1 hJf;obtain⟨J2,hJ2⟩:=opE fun fr S=>(Gr st S)
 refine JM J2 ?_ ?_
 ·rw[Jb];simp only[XY,simprocAttr];obtain⟨L,hL⟩:=loE fun j fr S=>∃i:Nat,j+i=ss.length/\fr 2=v3/\fr 8= .int .i64 i/\Gr st S;refine Jn L ss.length (by omega) ((hL _ _ _).2 ⟨0,by omega,f2,by simp only[XZ,simprocAttr]<;>rfl,hg⟩) ?_;intro j fr S hLj;obtain⟨i,hj,f2,f8,hg⟩:=(hL _ _ _).1 hLj;by_cases hi:i<ss.length
  ·have hi':(i:Int)<ss.length:=by omega
   obtain⟨r,o,kv,nv,b1,b2,b3,b4,_⟩:=(h3.gr hg).elem hi;have hadd1:IntKind.i64.wrap ((i:Int)+1)=((i+1:Nat):Int):=by rw[Jo (by omega) (by omega)];rfl
   rw[Je,Jb];simp only[XY,simprocAttr,f2,f8,l3,hi'];rw[Je];simp only[XY,simprocAttr];rw[Jb];simp only[XY,simprocAttr,f2,f8,b1,b3];refine Jd (fewC b4 _ (Gr.refl hg.wf) 20 (by decide) (by decide)) ?_;rintro _ S' ⟨g',m',rfl,_,_⟩;by_cases i4:m'=0
   ·simp only[XZ,simprocAttr,i4];exact⟨hg.trans g',_,rfl⟩
   ·simp only[XZ,simprocAttr,i4,f8,hadd1];exact⟨ss.length-(i+1),by omega,(hL _ _ _).2 ⟨i+1,by omega,f2,rfl,hg.trans g'⟩⟩
  ·have hi':¬(i:Int)<ss.length:=by omega
   simp only[XZ,simprocAttr,f2,f8,l3,hi'];exact(hJ2 _ _).2 hg
 intro fr S hJf;have hg:=(hJ2 _ _).1 hJf;simp only[XZ,simprocAttr];exact⟨hg,_,rfl⟩
theorem Ji7 {P:Pt->Prop}{st:St}{v:V}{ns:List Str}(h:SlAt P st v 1 (strs ns)){i:Nat}(hi:i<ns.length):∃r o,JJ 1 v (.int .i64 i)=some (.ptr r o, .no)/\P r/\st.row r≠ .none/\ld1 (st.row r) o=some (ofL ns[i], .no):=by
 have l1:(strs ns).length=ns.length:=JW _;obtain⟨q,o,a1,a2,a3,a4,a5⟩:=h.elem (i:=i) (by omega);refine⟨q,o,a1,a2,a3, ?_⟩;have e:(strs ns)[i]=[ofL ns[i]]:=by simp[strs]
 have:=a5 0 (by rw[e];simp);simp only[e]at this;exact this
theorem JpY {P:Pt->Prop}{st:St}{e1:List V}{q1:Rw}{v2 v3:V}{ts ss:List Rw}(hw:WF st)(h1:RwC P st e1 q1)(h2:QU P st v2 ts)(h3:QU P st v3 ss):
  Does (tabT tabD) 7 [.agg e1,v2,v3] st fun v S=>Gr st S/\∃c tv sv,v= .agg (c++[tv,sv])/\SchF st S c tv sv (qi q1 ts ss):=by
 refine Jy (aT Tryz.func7 rfl) rfl ?_;obtain⟨n0,hn0⟩:=nxE st;have g1:=h1;obtain⟨nv1,kv1,es1,rfl,_,_,_,a1,a2,_,_,_⟩:=h1.inv;have c1:=a1.cells;have s1:=a1.sc;have c2:=a2.cells;have s2:=a2.sc;obtain⟨l2,s3,c3,m2⟩:=h2.len;obtain⟨l3,s4,c4,m3⟩:=h3.len;obtain⟨b3,hb3⟩:=exE (up 0 n0);obtain⟨b6,hb6⟩:=exE (up 1 n0);obtain⟨b7,hb7⟩:=exE (up 2 n0);have n3:st.row b3= .none:=by rw[hb3];exact nx0 hw hn0 0
 have n6:st.row b6= .none:=by rw[hb6];exact nx0 hw hn0 1
 have n7:st.row b7= .none:=by rw[hb7];exact nx0 hw hn0 2
 have ne67:b6≠b7:=by rw[hb6,hb7,jE];decide
 have ne37:b3≠b7:=by rw[hb3,hb7,jE];decide
 have ne36:b3≠b6:=by rw[hb3,hb6,jE];decide
 obtain⟨nms,hnms⟩:∃l,l=Yz.take ts.length:=⟨_,rfl⟩
 have hT4:Yz.length=4:=rfl;have hnl:nms.length=min 4 ts.length:=by rw[hnms,List.length_take,hT4];omega
 have hnt:Yz.take nms.length=nms:=by
  rw[hnl,hnms];rcases Nat.le_total 4 ts.length with h|h
  ·rw[Nat.min_eq_left h,List.take_of_length_le (by omega),List.take_of_length_le (by omega)]
  ·rw[Nat.min_eq_right h]
 obtain⟨B,hB⟩:∃B:Pt->Prop,∀r,B r<->(st.row r≠ .none\/r=b6\/r=b7):=⟨_,fun _=>Iff.rfl⟩
 have B6:B b6:=(hB _).2 (.inr (.inl rfl));have B7:B b7:=(hB _).2 (.inr (.inr rfl));have B3:¬B b3:=fun h=>by rcases(hB _).1 h with h|h|h;exact h n3;exact ne36 h;exact ne37 h
 obtain⟨I,hI⟩:=opE fun fr S=>(fr 1=v2/\fr 2=v3/\fr 3= .ptr b3 0/\fr 6= .ptr b6 0/\fr 7= .ptr b7 0/\fr 8= .snil/\Gr st S/\(∃t,S.row b3= .cells t [.int .i64 q1.kind, .int .i64 q1.n,nv1,kv1])/\(∃t,S.row b6= .cells t [.int .i64 0,ofL [], .snil, .snil, .snil, .snil])/\(∃t,S.row b7= .cells t [.int .i64 0,ofL [], .snil, .snil, .snil, .snil]))
 simp only[CT,Tryz.f7,XY,simprocAttr];rw[Jb];simp only[XY,simprocAttr,hn0,c1,s1,c2,s2];rw[Jb];simp only[XY,simprocAttr,hn0];rw[Jb];simp only[XY,simprocAttr];rw[<-hb3,<-hb6,<-hb7];obtain⟨S0,hS0⟩:=exE (((st.new fun t=> .cells t [.int .i64 q1.kind, .int .i64 q1.n,nv1,kv1]).new fun t=> .cells t [.int .i64 0,ofL [], .snil, .snil, .snil, .snil]).new fun t=> .cells t [.int .i64 0,ofL [], .snil, .snil, .snil, .snil]);have g0:Gr st S0:=by rw[hS0];exact((Gr.new hw (Ja _)).nn (Ja _)).nn (Ja _)
 obtain⟨t3,r3⟩:∃t,S0.row b3= .cells t [.int .i64 q1.kind, .int .i64 q1.n,nv1,kv1]:=⟨_,by rw[hS0,hb3];simp only[XZ,simprocAttr,hn0];rfl⟩
 obtain⟨t6,r6⟩:∃t,S0.row b6= .cells t [.int .i64 0,ofL [], .snil, .snil, .snil, .snil]:=⟨_,by rw[hS0,hb6];simp only[XZ,simprocAttr,hn0];rfl⟩
 obtain⟨t7,r7⟩:∃t,S0.row b7= .cells t [.int .i64 0,ofL [], .snil, .snil, .snil, .snil]:=⟨_,by rw[hS0,hb7];simp only[XZ,simprocAttr,hn0];rfl⟩
 rw[<-hS0];clear hS0 hI I;obtain⟨J1,hJ1⟩:=opE fun fr S=>(∃nv,fr 1=v2/\fr 2=v3/\fr 3= .ptr b3 0/\fr 6= .ptr b6 0/\fr 7= .ptr b7 0/\fr 8=nv/\Gr S0 S/\SlF S0 S nv 1 (strs nms))
 refine JM J1 ?_ ?_
 ·rw[Jb];simp only[XY,simprocAttr];obtain⟨L,hL⟩:=loE fun j fr S=>∃(i:Nat) (nv:V),j+i=nms.length/\fr 1=v2/\fr 2=v3/\fr 3= .ptr b3 0/\fr 6= .ptr b6 0/\fr 7= .ptr b7 0/\fr 8=nv/\fr 9= .int .i64 i/\Gr S0 S/\SlF S0 S nv 1 (strs (Yz.take i));refine Jn L nms.length (by omega) ((hL _ _ _).2 ⟨0, .snil,by omega,rfl,rfl,rfl,rfl,rfl,rfl,by simp only[XZ,simprocAttr]<;>rfl,Gr.refl g0.wf,SlF.nil _ _ _⟩) ?_;intro j fr S hLj;obtain⟨i,nv,hj,f1,f2,f3,f6,f7,f8,f9,hg,hs⟩:=(hL _ _ _).1 hLj;have done:∀fr',i=nms.length->fr' 1=v2->fr' 2=v3->fr' 3= .ptr b3 0->fr' 6= .ptr b6 0->fr' 7= .ptr b7 0->fr' 8=nv->J1 fr' S:=fun fr' e f1 f2 f3 f6 f7 f8=>(hJ1 _ _).2 ⟨nv,f1,f2,f3,f6,f7,f8,hg,by rw[e,hnt]at hs;exact hs⟩;by_cases hi:i<ts.length
  ·have hi':(i:Int)<ts.length:=by omega
   by_cases h4:i<4
   ·have h4':(i:Int)<4:=by omega
    have hit:i<Yz.length:=by omega
    have wS:=hg.wf;obtain⟨nS,hnS⟩:=nxE S;have hadd1:IntKind.i64.wrap ((i:Int)+1)=((i+1:Nat):Int):=by rw[Jo (by omega) (by omega)];rfl
    rw[Je,Jb];simp only[XY,simprocAttr,f1,f9,l2,hi',h4'];have app:∀{R:V->St->Prop},(∀S' v',Gr S0 S'->SlF S0 S' v' 1 (strs (Yz.take (i+1)))->R v' S')->wW (appV ((S.new fun t=> .cells t [ofL [65],ofL [66,101,101],ofL [67,97,116],ofL [68,111,103]]).new fun t=> .cells t [ofL Yz[i]]) 1 nv (.slx (up 1 nS) 0 1 1 1)) ((S.new fun t=> .cells t [ofL [65],ofL [66,101,101],ofL [67,97,116],ofL [68,111,103]]).new fun t=> .cells t [ofL Yz[i]]) R:=fun k=>by
     have ga:Gr S (S.new fun t=> .cells t [ofL [65],ofL [66,101,101],ofL [67,97,116],ofL [68,111,103]]):=Gr.new wS (Ja _);have gb:=Gr.new (f:=fun t=> .cells t [ofL Yz[i]]) ga.wf (Ja _);have hone:=Qd (st:=(S.new fun t=> .cells t [ofL [65],ofL [66,101,101],ofL [67,97,116],ofL [68,111,103]])) (z:=1) (e:=[ofL Yz[i]]) rfl;rw[show(S.new fun t=>Row.cells t [ofL [65],ofL [66,101,101],ofL [67,97,116],ofL [68,111,103]]).nx=up 1 nS by simp only[XZ,simprocAttr,hnS]]at hone;refine Jgy (S0:=S0) ((hg.trans ga).trans gb) ((hs.gr ga).gr gb) hone (fun e he=>by rw[List.mem_singleton.1 he];rfl) (by simp) (by rw[JW,List.length_take];simp;omega) fun S' v' a b _=>k S' v' a ?_;rw[List.take_succ_eq_append_getElem hit,show strs (Yz.take i++[Yz[i]])=strs (Yz.take i)++[[ofL Yz[i]]] by unfold strs;rw[List.map_append,List.map_append];rfl];exact b
    have nxt:∀fr' S' v',fr' 1=v2->fr' 2=v3->fr' 3= .ptr b3 0->fr' 6= .ptr b6 0->fr' 7= .ptr b7 0->fr' 8=v'->fr' 9= .int .i64 ((i+1:Nat):Int)->Gr S0 S'->SlF S0 S' v' 1 (strs (Yz.take (i+1)))->∃m,m<j/\L m fr' S':=fun fr' S' v' x1 x2 x3 x4 x5 x6 x7 x8 x9=>⟨j-1,by omega,(hL _ _ _).2 ⟨i+1,v',by omega,x1,x2,x3,x4,x5,x6,x7,x8,x9⟩⟩
    rw[Je];simp only[XY,simprocAttr];rcases(show i=0\/i=1\/i=2\/i=3 by omega)with rfl|rfl|rfl|rfl
    all_goals simp only[XZ,simprocAttr,f8,f9,hnS]
    all_goals first|refine⟨⟨by decide,by decide⟩,app fun S' v' ga hs'=> ?_⟩|refine app fun S' v' ga hs'=> ?_
    all_goals simp only[XZ,simprocAttr,f9,hadd1]
    all_goals exact nxt _ _ _ f1 f2 f3 f6 f7 rfl rfl ga hs'
   ·have h4':¬(i:Int)<4:=by omega
    simp only[XZ,simprocAttr,f1,f9,l2,hi',h4'];exact done _ (by omega) f1 f2 f3 f6 f7 f8
  ·have hi':¬(i:Int)<ts.length:=by omega
   simp only[XZ,simprocAttr,f1,f9,l2,hi'];exact done _ (by omega) f1 f2 f3 f6 f7 f8
 intro fr S1 hJf;obtain⟨nv,f1,f2,f3,f6,f7,f8,hg1,hs1⟩:=(hJ1 _ _).1 hJf;have gs1:=g0.trans hg1;have B0:∀r,B r->S0.row r≠ .none:=fun r h=>by
  rcases(hB _).1 h with h|h|h
  ·rw[g0.same r h];exact h
  ·rw[h];exact Jc r6
  ·rw[h];exact Jc r7
 have B1:∀r,B r->S1.row r≠ .none:=fun r h=>by rw[hg1.same r (B0 r h)];exact B0 r h
 have hnv:∀{S:St},(∀r,S1.row r≠ .none->¬B r->S.row r=S1.row r)->SlAt (fun _=>True) S nv 1 (strs nms):=fun k=>hs1.at.imp fun r p e=>⟨trivial,k r e fun b=>B0 r b p⟩
 have len8:Kf nv=some (.int .i64 nms.length, .no):=by have:=hs1.at.len;rwa [JW]at this
 have q3:=hg1.cells r3;have q6:=hg1.cells r6;have q7:=hg1.cells r7;have hn1000:nms.length<1000:=by omega
 have T5:JcB nms 5:=JlA nms hn1000 4 (by decide);have T6:JcB nms 6:=JlA nms hn1000 5 (by decide);have T4:JcB nms 4:=JlA nms hn1000 3 (by decide);have htl:(typesOf nms ts).length=nms.length:=Jio _ _ (by omega);obtain⟨J2,hJ2⟩:=opE fun fr S=>(∃tv t,fr 2=v3/\fr 3= .ptr b3 0/\fr 6= .ptr b6 0/\fr 7= .ptr b7 0/\fr 8=nv/\LsF NmC st S1 B 5 S tv (typesOf nms ts)/\S.row b7= .cells t [.int .i64 0,ofL [], .snil, .snil,tv, .snil]/\S.row b6= .cells t6 [.int .i64 0,ofL [], .snil, .snil, .snil, .snil])
 refine JM J2 ?_ ?_
 ·rw[Jb];simp only[XY,simprocAttr];obtain⟨L,hL⟩:=loE fun j fr S=>∃(i:Nat) (tv:V) (t:Nat),j+i=nms.length/\fr 1=v2/\fr 2=v3/\fr 3= .ptr b3 0/\fr 6= .ptr b6 0/\fr 7= .ptr b7 0/\fr 8=nv/\fr 10= .int .i64 i/\LsF NmC st S1 B 5 S tv ((typesOf nms ts).take i)/\S.row b7= .cells t [.int .i64 0,ofL [], .snil, .snil,tv, .snil]/\S.row b6= .cells t6 [.int .i64 0,ofL [], .snil, .snil, .snil, .snil];refine Jn L nms.length (by omega) ((hL _ _ _).2 ⟨0, .snil,t7,by omega,f1,f2,f3,f6,f7,f8,by simp only[XZ,simprocAttr]<;>rfl,LsF.nil gs1,q7,q6⟩) ?_;clear f1 f2 f3 f6 f7 f8;intro j fr S hLj;obtain⟨i,tv,t,hj,f1,f2,f3,f6,f7,f8,f10,hF,r7,r6⟩:=(hL _ _ _).1 hLj;by_cases hi:i<nms.length
  ·have hi':(i:Int)<nms.length:=by omega
   have hadd1:IntKind.i64.wrap ((i:Int)+1)=((i+1:Nat):Int):=by rw[Jo (by omega) (by omega)];rfl
   obtain⟨ra,oa,a1,_,_,a4⟩:=Ji7 (hnv hF.keep) hi;obtain⟨rb,ob,kb,vb,b1,b2,b4,b5,_⟩:=(h2.gr hF.g).elem (i:=i) (by omega);have hit:i<(typesOf nms ts).length:=by omega
   have hget:=Jip nms ts i hi (by omega) hit;rw[Je,Jb];simp only[XY,simprocAttr,f8,f10,len8,hi'];rw[Je];simp only[XY,simprocAttr];simp only[XY,simprocAttr,f7,r7,f8,f10,a1,a4,f1,b1,b4];refine Ji (T5 (JD hF.g.wf S.t) (b5.imp fun r p _=>⟨p,rfl⟩) ((hnv hF.keep).imp fun r p _=>⟨p,rfl⟩)) ?_;rintro _ S2 gt ⟨x,rfl,hx⟩;obtain⟨X,hX⟩:∃X,X=JB nms 5 ts[i]:=⟨_,rfl⟩
   rw[<-hX]at hx hget;have hx0:=hx;obtain⟨xn,xk,xe,rfl,u1,u2,u3,u4⟩:=hx.inv;have d1:=u1.cells;have d2:=u1.sc;have d3:=u2.cells;have d4:=u2.sc;have w2:=gt.wf;obtain⟨n2,hn2⟩:=nxE S2;have F2:=hF.gr (C:=NmC) NmC.imp gt;simp only[XY,simprocAttr,hn2,d1,d2,d3,d4];have gn:Gr S2 (S2.new fun t=> .cells t [ofL nms[i], .int .i64 X.kind,ofL X.name,xn,xk]):=Gr.new w2 (Ja _);have F3:=F2.gr (C:=NmC) NmC.imp gn;have hone:=Qd (st:=S2) (z:=5) (e:=[ofL nms[i], .int .i64 X.kind,ofL X.name,xn,xk]) rfl;rw[hn2]at hone;have h5:NmC (fun r=>¬B r/\rowOf tv≠some r) (S2.new fun t=> .cells t [ofL nms[i], .int .i64 X.kind,ofL X.name,xn,xk]) [ofL nms[i], .int .i64 X.kind,ofL X.name,xn,xk] (nms[i],X):=⟨_,rfl,hx0.imp fun r p e=>⟨⟨fun b=>hF.live r (B1 r b) p,fun e=>hF.alive e p⟩,gn.same r e⟩⟩
   refine JgH (C:=NmC) NmC.imp F3 hone (by simp only[Km,List.all_cons,List.all_nil,d2,d4];rfl) h5 B1 (by rw[List.length_take];omega) fun S4 v4 F4 kp=> ?_;rw[<-hget,<-List.take_succ_eq_append_getElem hit]at F4;have d5:=F4.sc;have r62:=gn.cells (gt.cells r6);have r64:=(kp b6 (Jc r62) fun e=>B1 b6 B6 (hF.own _ e)).trans r62;have r72:=gn.cells (gt.cells r7);have r74:=(kp b7 (Jc r72) fun e=>B1 b7 B7 (hF.own _ e)).trans r72;simp only[XZ,simprocAttr,f7,r74,f10,hadd1,Jj,d5.1,d5.2];exact⟨j-1,by omega,(hL _ _ _).2 ⟨i+1,v4,_,by omega,f1,f2,f3,f6,f7,f8,rfl,F4.wr (C:=NmC) NmC.imp B7 n7 (B1 _ B7) r74,Jm _ _ _ _,(Jl _ _ _ ne67).trans r64⟩⟩
  ·have hi':¬(i:Int)<nms.length:=by omega
   simp only[XZ,simprocAttr,f8,f10,len8,hi'];rw[List.take_of_length_le (by omega)]at hF;exact(hJ2 _ _).2 ⟨tv,t,f2,f3,f6,f7,f8,hF,r7,r6⟩
 clear f1 f2 f3 f6 f7 f8;intro fr S hJf;obtain⟨tv,t,f2,f3,f6,f7,f8,hF,r7,r6⟩:=(hJ2 _ _).1 hJf;have r3:S.row b3= .cells t3 [.int .i64 q1.kind, .int .i64 q1.n,nv1,kv1]:=(hF.keep b3 (Jc q3) B3).trans q3;rw[Jb];simp only[XY,simprocAttr,f3,f7,f8,r3];refine Jd (T6 hF.g.wf (g1.gr hF.g) (hnv hF.keep)) ?_;rintro _ Sm ⟨gm,x,rfl,hx⟩;obtain⟨M,hM⟩:∃M,M=JB nms 6 q1:=⟨_,rfl⟩
 rw[<-hM]at hx;have hx0:=hx;obtain⟨mn,mk,xe,rfl,u1,u2,u3,u4⟩:=hx.inv;have y1:=u1.cells;have y2:=u1.sc;have y3:=u2.cells;have y4:=u2.sc;have rm7:=gm.cells r7;have rm6:=gm.cells r6;have Fm:=hF.gr (C:=NmC) NmC.imp gm;simp only[XY,simprocAttr,f7,rm7,y1,y2,y3,y4];have FM:=Fm.wr (C:=NmC) NmC.imp (c':=[.int .i64 M.kind,ofL M.name,mn,mk,tv, .snil]) B7 n7 (B1 _ B7) rm7;have kM:∀r,¬B r->(Sm.wr b7 t fun u=> .cells u [.int .i64 M.kind,ofL M.name,mn,mk,tv, .snil]).row r=Sm.row r:=fun r n=>Jl _ _ _ fun e=>n (by rw[e];exact B7);have rM7:(Sm.wr b7 t fun u=> .cells u [.int .i64 M.kind,ofL M.name,mn,mk,tv, .snil]).row b7= .cells Sm.t [.int .i64 M.kind,ofL M.name,mn,mk,tv, .snil]:=Jm _ _ _ _;have rM6:(Sm.wr b7 t fun u=> .cells u [.int .i64 M.kind,ofL M.name,mn,mk,tv, .snil]).row b6= .cells t6 [.int .i64 0,ofL [], .snil, .snil, .snil, .snil]:=(Jl _ _ _ ne67).trans rm6;have hMt:TyC (fun r=>¬B r/\rowOf tv≠some r) (Sm.wr b7 t fun u=> .cells u [.int .i64 M.kind,ofL M.name,mn,mk,tv, .snil]) [.int .i64 M.kind,ofL M.name,mn,mk] M:=hx0.imp fun r p _=>by
  have:¬B r:=fun b=>hF.live r (B1 r b) p;exact⟨⟨this,fun e=>hF.alive e p⟩,kM r this⟩
 have hlt:=FM.lst (C:=NmC) NmC.imp B1;obtain⟨S2,hS2⟩:=exE (Sm.wr b7 t fun u=> .cells u [.int .i64 M.kind,ofL M.name,mn,mk,tv, .snil]);obtain⟨t2,rM7⟩:∃t,S2.row b7= .cells t [.int .i64 M.kind,ofL M.name,mn,mk,tv, .snil]:=⟨_,by rw[hS2];exact rM7⟩
 rw[<-hS2]at FM rM6 hMt hlt⊢;clear hS2 kM rm7 rm6 Fm;have g2:=FM.g;have keep2:=FM.keep;have live2:=FM.live;have B2:∀r,B r->S2.row r≠ .none:=fun r b=>FM.live r (B1 r b);have own2:∀r,rowOf tv=some r->¬B r/\S2.row r≠ .none:=fun r e=>⟨fun b=>B1 r b (FM.own r e),FM.alive e⟩
 have es2:=FM.es;clear FM;have hsl:(qg nms ss).length=min 4 ss.length:=JjI _ _;obtain⟨J3,hJ3⟩:=opE fun fr S=>(∃sv t,fr 6= .ptr b6 0/\fr 7= .ptr b7 0/\LsF (SgT tv) st S2 B 6 S sv (qg nms ss)/\S.row b7= .cells t [.int .i64 M.kind,ofL M.name,mn,mk,tv,sv]/\S.row b6= .cells t6 [.int .i64 0,ofL [], .snil, .snil, .snil, .snil])
 refine JM J3 ?_ ?_
 ·rw[Jb];simp only[XY,simprocAttr];obtain⟨L,hL⟩:=loE fun j fr S=>∃(i:Nat) (sv:V) (t:Nat),j+i=min 4 ss.length/\fr 2=v3/\fr 6= .ptr b6 0/\fr 7= .ptr b7 0/\fr 8=nv/\fr 11= .int .i64 i/\LsF (SgT tv) st S2 B 6 S sv ((qg nms ss).take i)/\S.row b7= .cells t [.int .i64 M.kind,ofL M.name,mn,mk,tv,sv]/\S.row b6= .cells t6 [.int .i64 0,ofL [], .snil, .snil, .snil, .snil];refine Jn L (min 4 ss.length) (by omega) ((hL _ _ _).2 ⟨0, .snil,t2,by omega,f2,f6,f7,f8,by simp only[XZ,simprocAttr]<;>rfl,LsF.nil g2,rM7,rM6⟩) ?_;clear f2 f3 f6 f7 f8 r7 r6 r3;intro j fr S hLj;obtain⟨i,sv,t,hj,f2,f6,f7,f8,f11,hF,r7,r6⟩:=(hL _ _ _).1 hLj;have hnS:∀r,S1.row r≠ .none->¬B r->S.row r=S1.row r:=fun r e n=>by rw[hF.keep r (live2 r e) n];exact keep2 r e n
  have done:∀fr',i=min 4 ss.length->fr' 6= .ptr b6 0->fr' 7= .ptr b7 0->J3 fr' S:=fun fr' e f6 f7=>(hJ3 _ _).2 ⟨sv,t,f6,f7,by rw[List.take_of_length_le (by omega)]at hF;exact hF,r7,r6⟩;by_cases hi:i<ss.length
  ·have hi':(i:Int)<ss.length:=by omega
   by_cases h4:i<4
   ·have h4':(i:Int)<4:=by omega
    have hadd1:IntKind.i64.wrap ((i:Int)+1)=((i+1:Nat):Int):=by rw[Jo (by omega) (by omega)];rfl
    have wS:=hF.g.wf;obtain⟨nS,hnx⟩:=nxE S;have gb:Gr S (S.new fun t=> .cells t [ofL [102,97],ofL [102,98],ofL [102,99],ofL [102,100]]):=Gr.new wS (Ja _);have hsg:SlAt (fun r=>r=up 0 nS) (S.new fun t=> .cells t [ofL [102,97],ofL [102,98],ofL [102,99],ofL [102,100]]) (.slx (up 0 nS) 0 4 1 4) 1 (strs Jc2):=SlAt.freshx (es:=strs Jc2) (t:=S.t) (by simp only[XZ,simprocAttr,hnx];rfl) rfl (by decide);have hi4:i<Jc2.length:=h4;obtain⟨N,hN⟩:∃N,N=Jc2[i]:=⟨_,rfl⟩
    obtain⟨ra,oa,a1,rfl,a3,a4⟩:=Ji7 hsg hi4;rw[<-hN]at a4;obtain⟨rb,ob,kb,vb,b1,b2,b4,b5,b6',kes,kb1,kb2,kb3,kb4⟩:=(h3.gr hF.g).elem (i:=i) hi;rw[Je,Jb];simp only[XY,simprocAttr,f2,f11,l3,hi',h4'];rw[Je];simp only[XY,simprocAttr];simp only[XY,simprocAttr,hnx]at a4;have orb:=fun k=>nes (Jz wS hnx b2 k);rw[Jb];simp only[XY,simprocAttr,f2,f8,f11,hnx,a1,a4,b1,b4,orb];obtain⟨Sb,hSb⟩:=exE (S.new fun t=> .cells t [ofL [102,97],ofL [102,98],ofL [102,99],ofL [102,100]]);rw[<-hSb]at gb⊢;clear hSb;refine Ji (T4 (JD gb.wf Sb.t) ((b5.gr gb).imp fun r p _=>⟨p,rfl⟩) (((hnv hnS).gr gb).imp fun r p _=>⟨p,rfl⟩)) ?_;rintro _ Sa gt ⟨x,rfl,hx⟩;obtain⟨X,hX⟩:∃X,X=JB nms 4 ss[i]:=⟨_,rfl⟩
    rw[<-hX]at hx;have hx0:=hx;obtain⟨xn,xk,xe,rfl,u1,u2,u3,u4⟩:=hx.inv;have d1:=u1.cells;have d2:=u1.sc;have d3:=u2.cells;have d4:=u2.sc;have ga:=gb.trans gt;have wa:=gt.wf;obtain⟨na,hna⟩:=nxE Sa;simp only[XY,simprocAttr,hna,d1,d2,d3,d4,Jj];obtain⟨b12,hb12⟩:=exE (up 0 na);have n12:Sa.row b12= .none:=by rw[hb12];exact nx0 wa hna 0
    obtain⟨Sc,hSc⟩:=exE ((Sa.new fun t=> .cells t [ofL [], .snil, .int .i64 0,ofL [], .snil, .snil]).wr (up 0 na) Sa.t fun u=> .cells u [ofL N, .snil, .int .i64 X.kind,ofL X.name,xn,xk]);have gc:Gr Sa Sc:=by rw[hSc];exact(Gr.refl wa).nw hna (Ja _) (Ja _)
    obtain⟨t12,r12⟩:∃t,Sc.row b12= .cells t [ofL N, .snil, .int .i64 X.kind,ofL X.name,xn,xk]:=⟨_,by rw[hSc,hb12];simp only[XZ,simprocAttr,hna];rfl⟩
    rw[<-hSc,<-hb12];clear hSc;obtain⟨B',hB'⟩:∃B':Pt->Prop,∀r,B' r<->(Sa.row r≠ .none\/r=b12):=⟨_,fun _=>Iff.rfl⟩
    have B12:B' b12:=(hB' _).2 (.inr rfl);have Bc:∀r,B' r->Sc.row r≠ .none:=fun r h=>by
     rcases(hB' _).1 h with h|h
     ·rw[gc.same r h];exact h
     ·rw[h];exact Jc r12
    have hget:=JjH nms ss i hi4 hi (by omega);rw[<-hN,<-hX]at hget;have hpl:=JgF nms ss[i];obtain⟨ps,hps⟩:∃ps,ps=Y1 nms ss[i]:=⟨_,rfl⟩
    rw[<-hps]at hget hpl;obtain⟨J4,hJ4⟩:=opE fun fr S=>(∃pv t,fr 2=v3/\fr 6= .ptr b6 0/\fr 7= .ptr b7 0/\fr 8=nv/\fr 11= .int .i64 i/\fr 12= .ptr b12 0/\LsF TyC Sa Sc B' 4 S pv ps/\S.row b12= .cells t [ofL N,pv, .int .i64 X.kind,ofL X.name,xn,xk])
    refine JM J4 ?_ ?_
    ·rw[Jb];simp only[XY,simprocAttr];obtain⟨L4,hL4⟩:=loE fun j fr S=>∃(k:Nat) (pv:V) (t:Nat),j+k=min 3 ss[i].kids.length/\fr 2=v3/\fr 6= .ptr b6 0/\fr 7= .ptr b7 0/\fr 8=nv/\fr 11= .int .i64 i/\fr 12= .ptr b12 0/\fr 13= .int .i64 k/\LsF TyC Sa Sc B' 4 S pv (ps.take k)/\S.row b12= .cells t [ofL N,pv, .int .i64 X.kind,ofL X.name,xn,xk];refine Jn L4 (min 3 ss[i].kids.length) (by omega) ((hL4 _ _ _).2 ⟨0, .snil,t12,by omega,f2,f6,f7,f8,f11,rfl,by simp only[XZ,simprocAttr]<;>rfl,LsF.nil gc,r12⟩) ?_;clear f2 f6 f7 f8 f11 r12;intro j' fr S' hLj;obtain⟨k,pv,tt,hj',f2,f6,f7,f8,f11,f12,f13,hF',r12⟩:=(hL4 _ _ _).1 hLj;have done':∀fr',k=min 3 ss[i].kids.length->fr' 2=v3->fr' 6= .ptr b6 0->fr' 7= .ptr b7 0->fr' 8=nv->fr' 11= .int .i64 i->fr' 12= .ptr b12 0->J4 fr' S':=fun fr' e x1 x2 x3 x4 x5 x6=>(hJ4 _ _).2 ⟨pv,tt,x1,x2,x3,x4,x5,x6,by rw[List.take_of_length_le (by omega)]at hF';exact hF',r12⟩;have gS:Gr S S':=ga.trans hF'.g;have b2':S'.row rb≠ .none:=by rw[gS.same rb b2];exact b2
     rw[<-gS.same rb b2]at b4 b6';have kl:Kf kb=some (.int .i64 ss[i].kids.length, .no):=by rw[kb1.len,kb2]
     by_cases hk:k<ss[i].kids.length
     ·have hk':(k:Int)<ss[i].kids.length:=by omega
      by_cases hk3:k<3
      ·have hk3':(k:Int)<3:=by omega
       have hadk:IntKind.i64.wrap ((k:Int)+1)=((k+1:Nat):Int):=by rw[Jo (by omega) (by omega)];rfl
       obtain⟨rc,oc,k1,k2,k3,k4,k5⟩:=kb1.elem (i:=k) (by omega);have hkid:=(kb4 k (by omega) hk).gr gS;rw[<-gS.same rc k3]at k4;rw[Je,Jb];simp only[XY,simprocAttr,f2,f11,f13,b1,b6',kl,hk',hk3'];rw[Je];simp only[XY,simprocAttr];simp only[XY,simprocAttr,f2,f8,f11,f12,f13,r12,b1,b6',k1,k4];refine Ji (T4 (JD hF'.g.wf S'.t) (hkid.imp fun r p _=>⟨p,rfl⟩) (((hnv hnS).gr gS).imp fun r p _=>⟨p,rfl⟩)) ?_;rintro _ Se ge ⟨y,rfl,hy⟩;have hpi:k<ps.length:=by omega
       have hpg:ps[k]=JB nms 4 ss[i].kids[k]:=by
        have:=JgG nms ss[i] k hk (by rw[<-hps];exact hpi);rw[<-this];simp only[hps]
       obtain⟨Y,hY⟩:∃Y,Y=JB nms 4 ss[i].kids[k]:=⟨_,rfl⟩
       rw[<-hY]at hy hpg;have hy0:=hy;obtain⟨yn,yk,ye,rfl,z1,z2,z3,z4⟩:=hy.inv;have e1:=z1.cells;have e2:=z1.sc;have e3:=z2.cells;have e4:=z2.sc;have we:=ge.wf;obtain⟨ne,hne⟩:=nxE Se;have Fe:=hF'.gr (C:=TyC) TyC.imp ge;have re:=ge.cells r12;simp only[XY,simprocAttr,hne,e1,e2,e3,e4];have gn:Gr Se (Se.new fun t=> .cells t [.int .i64 Y.kind,ofL Y.name,yn,yk]):=Gr.new we (Ja _);have Fg:=Fe.gr (C:=TyC) TyC.imp gn;have hone:=Qd (st:=Se) (z:=4) (e:=[.int .i64 Y.kind,ofL Y.name,yn,yk]) rfl;rw[hne]at hone;refine JgH (C:=TyC) TyC.imp Fg hone (by simp only[Km,List.all_cons,List.all_nil,e2,e4];rfl) (hy0.imp fun r p e=>⟨⟨fun b=>hF'.live r (Bc r b) p,fun e=>hF'.alive e p⟩,gn.same r e⟩) Bc (by rw[List.length_take];omega) fun Sf vf Ff kp=> ?_;rw[<-hpg,<-List.take_succ_eq_append_getElem hpi]at Ff;have d5:=Ff.sc;have rg:=gn.cells re;have rf:=(kp b12 (Jc rg) fun e=>Bc b12 B12 (hF'.own _ e)).trans rg;simp only[XZ,simprocAttr,f12,f13,rf,hadk,Jj,d5.1,d5.2];exact⟨j'-1,by omega,(hL4 _ _ _).2 ⟨k+1,vf,_,by omega,f2,f6,f7,f8,f11,f12,rfl,Ff.wr (C:=TyC) TyC.imp B12 n12 (Bc _ B12) rf,Jm _ _ _ _⟩⟩
      ·have hk3':¬(k:Int)<3:=by omega
       simp only[XZ,simprocAttr,f2,f11,f13,b1,b6',kl,hk',hk3'];exact done' _ (by omega) f2 f6 f7 f8 f11 f12
     ·have hk':¬(k:Int)<ss[i].kids.length:=by omega
      simp only[XZ,simprocAttr,f2,f11,f13,b1,b6',kl,hk'];exact done' _ (by omega) f2 f6 f7 f8 f11 f12
    clear f2 f6 f7 f8 f11 r12;intro fr S' hJf;obtain⟨pv,tt,f2,f6,f7,f8,f11,f12,hF',r12⟩:=(hJ4 _ _).1 hJf;have gS:Gr S S':=ga.trans hF'.g;have r7':=gS.cells r7;have r6':=gS.cells r6;have d5:=hF'.sc;have hpv:=hF'.lst (C:=TyC) TyC.imp Bc;obtain⟨ns',hns⟩:∃n,S'.nx=up 0 n:=⟨_,up0 _⟩
    have ws:=hF'.g.wf;have F':=hF.gr (C:=SgT tv) SgT.imp gS;simp only[XY,simprocAttr,f7,f12,r7',r12,d1,d2,d3,d4,d5.1,d5.2,hns];have gn:Gr S' (S'.new fun t=> .cells t [ofL N,pv, .int .i64 X.kind,ofL X.name,xn,xk]):=Gr.new ws (Ja _);have Fg:=F'.gr (C:=SgT tv) SgT.imp gn;have hone:=Qd (st:=S') (z:=6) (e:=[ofL N,pv, .int .i64 X.kind,ofL X.name,xn,xk]) rfl;rw[hns]at hone;have sub:∀r,Sa.row r= .none->(¬B r/\rowOf sv≠some r)/\rowOf tv≠some r:=fun r p=>by
     have p:S.row r= .none:=Ch.fresh (Ch.of (fun _=>False) ga) p;exact⟨⟨fun b=>hF.live r (B2 r b) p,fun e=>hF.alive e p⟩,fun e=>hF.live r (own2 r e).2 p⟩
    have sub2:∀r,Sb.row r= .none->(¬B r/\rowOf sv≠some r)/\rowOf tv≠some r:=fun r p=>by
     have p:S.row r= .none:=Ch.fresh (Ch.of (fun _=>False) gb) p;exact⟨⟨fun b=>hF.live r (B2 r b) p,fun e=>hF.alive e p⟩,fun e=>hF.live r (own2 r e).2 p⟩
    have h6:SgT tv (fun r=>¬B r/\rowOf sv≠some r) (S'.new fun t=> .cells t [ofL N,pv, .int .i64 X.kind,ofL X.name,xn,xk]) [ofL N,pv, .int .i64 X.kind,ofL X.name,xn,xk] ⟨N,ps,X⟩:=by
     refine⟨pv,_,rfl, ?_, ?_⟩
     ·exact hpv.imp (fun e x h=>h.imp fun r p e=>⟨sub r (Classical.byContradiction fun n=>p ((hB' _).2 (.inl n))),gn.same r e⟩) fun r p e=>⟨sub r (Classical.byContradiction fun n=>p ((hB' _).2 (.inl n))),gn.same r e⟩
     ·exact hx0.imp fun r p e=>⟨sub2 r p,by rw[gn.same r (by rw[hF'.g.same r e];exact e),hF'.g.same r e];rfl⟩
    refine JgH (C:=SgT tv) SgT.imp Fg hone (by simp only[Km,List.all_cons,List.all_nil,d2,d4,d5.1];rfl) h6 B2 (by rw[List.length_take];omega) fun S4 v4 F4 kp=> ?_;rw[<-hget,<-List.take_succ_eq_append_getElem (by omega)]at F4;have d6:=F4.sc;have r62:=gn.cells r6';have r64:=(kp b6 (Jc r62) fun e=>B2 b6 B6 (hF.own _ e)).trans r62;have r72:=gn.cells r7';have r74:=(kp b7 (Jc r72) fun e=>B2 b7 B7 (hF.own _ e)).trans r72;simp only[XZ,simprocAttr,f7,r74,f11,hadd1,Jj,d6.1,d6.2];exact⟨j-1,by omega,(hL _ _ _).2 ⟨i+1,v4,_,by omega,f2,f6,f7,f8,rfl,F4.wr (C:=SgT tv) SgT.imp B7 n7 (B2 _ B7) r74,Jm _ _ _ _,(Jl _ _ _ ne67).trans r64⟩⟩
   ·have h4':¬(i:Int)<4:=by omega
    simp only[XZ,simprocAttr,f2,f11,l3,hi',h4'];exact done _ (by omega) f6 f7
  ·have hi':¬(i:Int)<ss.length:=by omega
   simp only[XZ,simprocAttr,f2,f11,l3,hi'];exact done _ (by omega) f6 f7
 clear f2 f3 f6 f7 f8 r7 r6 r3;intro fr S hJf;obtain⟨sv,t,f6,f7,hF,r7,r6⟩:=(hJ3 _ _).1 hJf;have d5:=hF.sc;have d6:=hlt.sc;simp only[XZ,simprocAttr,f6,f7,r7,r6,y1,y2,y3,y4,d5.1,d5.2,d6.1,d6.2];have FE:=hF.wr (C:=SgT tv) SgT.imp (c':=[.int .i64 M.kind,ofL M.name,mn,mk,tv,sv]) B6 n6 (B2 _ B6) r6;have hst:∀r,¬B r->st.row r= .none:=fun r n=>Classical.byContradiction fun e=>n ((hB _).2 (.inl e));have keepE:∀r,¬B r/\rowOf tv≠some r->S2.row r≠ .none->OwnS st tv sv r/\_=S2.row r:=fun r p e=>⟨⟨hst r p.1,p.2,fun k=>e (FE.own r k)⟩,FE.keep r e p.1⟩
 obtain⟨es,k1,k2,k3⟩:=es2;obtain⟨gs,l1,l2,l3⟩:=FE.es;refine⟨FE.g,[.int .i64 M.kind,ofL M.name,mn,mk],tv,sv,rfl,⟨?_,⟨es,k1.keep fun r hr=>FE.keep r (own2 r hr).2 (own2 r hr).1, ?_,fun i a b=> ?_⟩,⟨gs,l1, ?_,fun i a b=> ?_⟩,fun r e k=>(own2 r e).2 (FE.own r k)⟩⟩
 ·have:=hMt.imp keepE;rw[hM]at this⊢;rw[hnms]at this⊢;exact this
 ·rw[hnms]at k2;exact k2
 ·have:=(k3 i a (by omega)).imp keepE;simp only[hnms]at this;exact this
 ·rw[hnms]at l2;exact l2
 ·have:=SgC.imp (l3 i a (by omega)) fun r p e=>⟨show OwnS st tv sv r from⟨hst r p.1.1,p.2,p.1.2⟩,rfl⟩
  simp only[hnms]at this;exact this
theorem JpZ {P:Pt->Prop}{st:St}{e1:List V}{q1:Rw}{v2 v3:V}{ts ss:List Rw}(hw:WF st)(h1:RwC P st e1 q1)(h2:QU P st v2 ts)(h3:QU P st v3 ss):
  Does (tabT tabD) 7 [.agg e1,v2,v3] st fun v S=>Gr st S/\∃e,v= .agg e/\SchC (fun r=>st.row r= .none) S e (qi q1 ts ss):=by
 refine(JpY hw h1 h2 h3).mono ?_;rintro v S ⟨g,c,tv,sv,rfl,h⟩;exact⟨g,_,rfl,h.c⟩
theorem JsG {P:Pt->Prop}{st0:St}{e:List V}{r:R9}(h:R9C P st0 e r):∀(st:St),Gr st0 st->∀most:Int,-4611686018427387904<most->most<4611686018427387904->Does (tabT tabD) 33 [.agg e, .int .i64 most] st fun v st'=>Gr st st'/\∃m,v= .int .i64 m/\0<=m/\(m<=most\/m=0):=by
 induction h with
 | @mk rk rn ks kv es hk hn h2 h3 hl h4 ih=>
 intro st g0 most hm1 hm2;have hw:=g0.wf;refine Jy (aT Tryz.func33 rfl) rfl ?_;obtain⟨n0,hn0⟩:=nxE st;have c2:=h2.cells;have s2:=h2.sc;have len2:=h2.len;simp only[CT,Tryz.f33,XY,simprocAttr];rw[Jb];simp only[XY,simprocAttr,hn0,c2,s2];have gb:Gr st (st.new fun t=> .cells t [.int .i64 rk, .int .i64 rn,kv]):=Gr.new hw (Ja _);by_cases h0:most<=0
 ·rw[Je,Jb];simp only[XZ,simprocAttr,h0];exact⟨gb,0,rfl,by omega, .inr rfl⟩
 by_cases ha:(6:Int)<es.length
 ·rw[Je,Jb];simp only[XZ,simprocAttr,h0,hn0,len2,ha];exact⟨gb,0,rfl,by omega, .inr rfl⟩
 rw[Je,Jb];simp only[XY,simprocAttr,h0,hn0,len2,ha];have hsub:IntKind.i64.wrap (most-1)=most-1:=Jo (by omega) (by omega);rw[Jb];simp only[XY,simprocAttr,hsub];obtain⟨J,hJ⟩:=opE fun fr S=>(Gr st S/\∃m,fr 1= .int .i64 m/\0<=m/\m<=most)
 refine JM J ?_ ?_
 ·rw[Jb];simp only[XY,simprocAttr];obtain⟨L,hL⟩:=loE fun j fr S=>∃(i:Nat) (m t:Int),j+i=es.length/\Gr st S/\fr 1= .int .i64 m/\0<=m/\m<=most/\fr 2= .ptr (up 0 n0) 0/\fr 5= .int .i64 i/\S.row (up 0 n0)= .cells st.t [.int .i64 rk, .int .i64 rn,kv];refine Jn L es.length (by omega) ((hL _ _ _).2 ⟨0,most-1,0,by omega,gb,rfl,by omega,by omega,rfl,by simp only[XZ,simprocAttr]<;>rfl,by rw[<-hn0];exact JG _ _⟩) ?_;intro j fr S hLj;obtain⟨i,m,_,hj,hg,f1,hm3,hm4,f2,f5,rb⟩:=(hL _ _ _).1 hLj;by_cases hi:i<es.length
  ·have hi':(i:Int)<es.length:=by omega
   by_cases hm0:0<m
   ·obtain⟨q,o,a1,a2,a3,a4,a5⟩:=(h2.gr (g0.trans hg)).elem hi;have hadd1:IntKind.i64.wrap ((i:Int)+1)=((i+1:Nat):Int):=by rw[Jo (by omega) (by omega)];rfl
    simp only[XZ,simprocAttr,f1,f2,f5,rb,len2,hi',hm0,a1,a4];refine Jd (ih i hi (by omega) S (g0.trans hg) m (by omega) (by omega)) ?_;rintro _ S' ⟨g',m',rfl,b1,b2⟩;simp only[XZ,simprocAttr,f1,f2,f5,hadd1];exact⟨es.length-(i+1),by omega,(hL _ _ _).2 ⟨i+1,m',0,by omega,hg.trans g',rfl,b1,by omega,f2,rfl,g'.cells rb⟩⟩
   ·simp only[XZ,simprocAttr,f1,f2,f5,rb,len2,hi',hm0];exact(hJ _ _).2 ⟨hg,m,f1,hm3,hm4⟩
  ·have hi':¬(i:Int)<es.length:=by omega
   simp only[XZ,simprocAttr,f1,f2,f5,rb,len2,hi'];exact(hJ _ _).2 ⟨hg,m,f1,hm3,hm4⟩
 intro fr S hJf;obtain⟨hg,m,f1,hm3,hm4⟩:=(hJ _ _).1 hJf;simp only[XZ,simprocAttr,f1];exact⟨hg,m,rfl,hm3, .inl hm4⟩
theorem JrQ {P:Pt->Prop}{st0:St}{e:List V}{r:R10}(h:R10C P st0 e r):∀(st:St),Gr st0 st->∀most:Int,-4611686018427387904<most->most<4611686018427387904->Does (tabT tabD) 16 [.agg e, .int .i64 most] st fun v st'=>Gr st st'/\∃m,v= .int .i64 m/\0<=m/\(m<=most\/m=0):=by
 induction h with
 | @mk rk rn w ks a b c kv es hk hn h9 h2 h3 hl h4 ih=>
 intro st g0 most hm1 hm2;have hw:=g0.wf;refine Jy (aT Tryz.func16 rfl) rfl ?_;obtain⟨n0,hn0⟩:=nxE st;have c2:=h2.cells;have s2:=h2.sc;have len2:=h2.len;obtain⟨x,y,kw,rfl,rfl,rfl,hsc⟩:∃x y kw,a= .int .i64 x/\b= .int .i64 y/\c=kw/\kw.sc=true:=by
  cases h9 with
  |mk _ _ k2 _ _ _=>exact⟨_,_,_,rfl,rfl,rfl,k2.sc⟩
 have hcc:c.cells=some [c]:=by cases c<;>first|rfl|(cases hsc;done)
 simp only[CT,Tryz.f16,XY,simprocAttr];rw[Jb];simp only[XY,simprocAttr,hn0,c2,s2,hsc,hcc];refine Js ?_;intro Sb hSb;have gb:Gr st Sb:=by rw[hSb];exact Gr.new hw (Ja _)
 obtain⟨tb,rb⟩:∃t,Sb.row (up 0 n0)= .cells t [.int .i64 rk, .int .i64 rn, .int .i64 x, .int .i64 y,c,kv]:=⟨_,by rw[hSb];simp only[XZ,simprocAttr,hn0];rfl⟩
 clear hSb;by_cases h0:most<=0
 ·rw[Je,Jb];simp only[XZ,simprocAttr,h0];exact⟨gb,0,rfl,by omega, .inr rfl⟩
 by_cases ha:(8:Int)<es.length
 ·rw[Je,Jb];simp only[XZ,simprocAttr,h0,rb,len2,ha];exact⟨gb,0,rfl,by omega, .inr rfl⟩
 rw[Je,Jb];simp only[XY,simprocAttr,h0,rb,len2,ha];refine Jd (JsG h9 Sb (g0.trans gb) 20 (by decide) (by decide)) ?_;rintro _ S2 ⟨g2,m2,rfl,_,_⟩;have rb2:=g2.cells rb;have gb2:=gb.trans g2;by_cases hm0:m2=0
 ·simp only[XZ,simprocAttr,hm0];exact⟨gb2,0,rfl,by omega, .inr rfl⟩
 simp only[XY,simprocAttr,hm0];have hsub:IntKind.i64.wrap (most-1)=most-1:=Jo (by omega) (by omega);rw[Jb];simp only[XY,simprocAttr,hsub];obtain⟨J,hJ⟩:=opE fun fr S=>(Gr st S/\∃m,fr 1= .int .i64 m/\0<=m/\m<=most)
 refine JM J ?_ ?_
 ·rw[Jb];simp only[XY,simprocAttr];obtain⟨L,hL⟩:=loE fun j fr S=>∃(i:Nat) (m:Int),j+i=es.length/\Gr st S/\fr 1= .int .i64 m/\0<=m/\m<=most/\fr 2= .ptr (up 0 n0) 0/\fr 5= .int .i64 i/\S.row (up 0 n0)= .cells tb [.int .i64 rk, .int .i64 rn, .int .i64 x, .int .i64 y,c,kv];refine Jn L es.length (by omega) ((hL _ _ _).2 ⟨0,most-1,by omega,gb2,rfl,by omega,by omega,rfl,by simp only[XZ,simprocAttr]<;>rfl,rb2⟩) ?_;intro j fr S hLj;obtain⟨i,m,hj,hg,f1,hm3,hm4,f2,f5,rb⟩:=(hL _ _ _).1 hLj;by_cases hi:i<es.length
  ·have hi':(i:Int)<es.length:=by omega
   by_cases hm0:0<m
   ·obtain⟨q,o,a1,a2,a3,a4,a5⟩:=(h2.gr (g0.trans hg)).elem hi;have hadd1:IntKind.i64.wrap ((i:Int)+1)=((i+1:Nat):Int):=by rw[Jo (by omega) (by omega)];rfl
    simp only[XZ,simprocAttr,f1,f2,f5,rb,len2,hi',hm0,a1,a4];refine Jd (ih i hi (by omega) S (g0.trans hg) m (by omega) (by omega)) ?_;rintro _ S' ⟨g',m',rfl,b1,b2⟩;simp only[XZ,simprocAttr,f1,f2,f5,hadd1];exact⟨es.length-(i+1),by omega,(hL _ _ _).2 ⟨i+1,m',by omega,hg.trans g',rfl,b1,by omega,f2,rfl,g'.cells rb⟩⟩
   ·simp only[XZ,simprocAttr,f1,f2,f5,rb,len2,hi',hm0];exact(hJ _ _).2 ⟨hg,m,f1,hm3,hm4⟩
  ·have hi':¬(i:Int)<es.length:=by omega
   simp only[XZ,simprocAttr,f1,f2,f5,rb,len2,hi'];exact(hJ _ _).2 ⟨hg,m,f1,hm3,hm4⟩
 intro fr S hJf;obtain⟨hg,m,f1,hm3,hm4⟩:=(hJ _ _).1 hJf;simp only[XZ,simprocAttr,f1];exact⟨hg,m,rfl,hm3, .inl hm4⟩
theorem JrR {P:Pt->Prop}{st0 st:St}{u:V}{rs:List R10}{r:Pt}{t:Nat}(g0:Gr st0 st)(h:qZ P st0 u rs)(hr:st.row r= .cells t [u]):
  Does (tabT tabD) 6 [.slx r 0 1 1 1] st fun v st'=>Gr st st'/\∃b,v= .bool b:=by
 refine Jy (aT Tryz.func6 rfl) rfl ?_;obtain⟨es,h1,h2,h3,h4⟩:=h;have len2:=h1.len;have l1:Kf (.slx r 0 1 1 1)=some (.int .i64 1, .no):=rfl;have i0:JJ 1 (.slx r 0 1 1 1) (.int .i64 0)=some (.ptr r 0, .no):=rfl;have hadd0:IntKind.i64.wrap ((0:Int)+1)=1:=by rw[Jo (by omega) (by omega)];rfl
 simp only[CT,Tryz.f6,XY,simprocAttr];rw[Jb];simp only[XY,simprocAttr];rw[Je,Jb];simp only[XY,simprocAttr,l1];obtain⟨J,hJ⟩:=opE fun fr S=>Gr st S;refine JM J ?_ ?_
 ·rw[Jb];simp only[XY,simprocAttr];obtain⟨L,hL⟩:=loE fun j fr S=>fr 0= .slx r 0 1 1 1/\Gr st S/\((j=1/\fr 3= .int .i64 0)\/(j=0/\fr 3= .int .i64 1));refine Jn L 1 (by omega) ((hL _ _ _).2 ⟨rfl,Gr.refl g0.wf, .inl ⟨rfl,rfl⟩⟩) ?_;intro j fr S hLj;obtain⟨f0,g,hj⟩:=(hL _ _ _).1 hLj;rcases hj with⟨rfl,f3⟩|⟨rfl,f3⟩
  rotate_left
  ·have n1:¬(1:Int)<1:=by omega
   rw[Je,Jb];simp only[XY,simprocAttr,f0,f3,l1,n1];exact(hJ _ _).2 g
  have rr:=g.cells hr;have p1:(0:Int)<1:=by omega
  rw[Je,Jb];simp only[XY,simprocAttr,f0,f3,l1,p1];rw[Je];simp only[XY,simprocAttr];by_cases h6:(6:Int)<es.length
  ·rw[Je,Jb];simp only[XZ,simprocAttr,f0,f3,i0,rr,len2,h6];exact⟨g,_,rfl⟩
  rw[Je,Jb];simp only[XY,simprocAttr,f0,f3,i0,rr,len2,h6];rw[Jb];simp only[XY,simprocAttr];obtain⟨M,hM⟩:=loE fun j fr S=>∃i:Nat,j+i=es.length/\fr 0= .slx r 0 1 1 1/\fr 3= .int .i64 0/\fr 4= .int .i64 (i:Nat)/\Gr st S;refine Jn M es.length (by omega) ((hM _ _ _).2 ⟨0,by omega,f0,f3,by simp only[XZ,simprocAttr]<;>rfl,g⟩) ?_;clear f0 f3 rr g hLj;intro j fr S hMj;obtain⟨i,hj,f0,f3,f4,g⟩:=(hM _ _ _).1 hMj;have rr:=g.cells hr;by_cases hi:i<es.length;rotate_left
  ·have hi':¬(i:Int)<es.length:=by omega
   rw[Je,Jb];simp only[XZ,simprocAttr,f0,f3,f4,i0,rr,len2,hi',hadd0];exact⟨0,by omega,(hL _ _ _).2 ⟨f0,g, .inr ⟨rfl,rfl⟩⟩⟩
  have hi':(i:Int)<es.length:=by omega
  have hadd1:IntKind.i64.wrap ((i:Int)+1)=((i+1:Nat):Int):=by rw[Jo (by omega) (by omega)];rfl
  obtain⟨q,o,a1,a2,a3,a4,a5⟩:=(h1.gr (g0.trans g)).elem hi;rw[Je,Jb];simp only[XY,simprocAttr,f0,f3,f4,i0,rr,len2,hi'];rw[Je];simp only[XY,simprocAttr];rw[Jb];simp only[XY,simprocAttr,f0,f3,f4,i0,rr,a1,a4];refine Jd (JrQ (h4 i hi (by omega)) S (g0.trans g) 15 (by decide) (by decide)) ?_;rintro _ S' ⟨g',m',rfl,b1,b2⟩;by_cases hm0:m'=0
  ·simp only[XZ,simprocAttr,hm0];exact⟨g.trans g',_,rfl⟩
  ·simp only[XZ,simprocAttr,hm0,f0,f3,f4,hadd1];exact⟨es.length-(i+1),by omega,(hM _ _ _).2 ⟨i+1,by omega,f0,f3,rfl,g.trans g'⟩⟩
 intro fr S hJf;have g:=(hJ _ _).1 hJf;simp only[XZ,simprocAttr];exact⟨g,_,rfl⟩
theorem JjZ :Joj (tabT tabD) 4 [] (.bool true)=true:=by kernel_rfl
theorem JoR :∀c,parB c=true
 |false=>JrA
 |true=>JrB
theorem rawL (st:St)(hw:WF st)(e1:List V)(q1:Rw)(h1:RwC (fun _=>True) st e1 q1)(v2:V)(ts:List Rw)(h2:QU (fun _=>True) st v2 ts)(u:V)(rs:List R10)(h3:qZ (fun _=>True) st u rs)(c:Bool):
  Does (tabT tabD) 3 [.agg e1,v2,u, .bool c] st fun v' _=>v'= .bool true:=by
 refine Jy (aT Tryz.func3 rfl) rfl ?_;obtain⟨n0,hn0⟩:=nxE st;have g1:=h1;obtain⟨nv1,kv1,es1,rfl,_,_,_,a1,a2,_,_,_⟩:=h1.inv;have c1:=a1.cells;have s1:=a1.sc;have c2:=a2.cells;have s2:=a2.sc;have h3':QU (fun _=>True) st .snil []:=⟨[],SlAt.nil _ _ _,rfl,by decide,fun i h=>absurd h (by simp)⟩
 obtain⟨l2,s3,c3,m2⟩:=h2.len;have h3c:=h3;obtain⟨us,u1,_,_,_⟩:=h3c;have cu:=u1.cells;have su:=u1.sc;obtain⟨p4,hp4⟩:=exE (up 0 n0);simp only[CT,Tryz.f3,XY,simprocAttr];rw[Jb];simp only[XY,simprocAttr,hn0,c1,s1,c2,s2];rw[<-hp4];obtain⟨S0,hS0⟩:=exE (st.new fun t=> .cells t [.int .i64 q1.kind, .int .i64 q1.n,nv1,kv1]);have G0:Gr st S0:=by rw[hS0];exact Gr.new hw (Ja _)
 obtain⟨t0,r0⟩:∃t,S0.row p4= .cells t [.int .i64 q1.kind, .int .i64 q1.n,nv1,kv1]:=⟨_,by rw[hS0,hp4];simp only[XZ,simprocAttr,hn0];rfl⟩
 rw[<-hS0];clear hS0;rw[Je,Jb];simp only[XY,simprocAttr];refine Jd (Jsn tabE tabM tabU JjZ rfl rfl G0.wf) ?_;rintro _ S1 ⟨gk,rfl⟩;have r1:=gk.cells r0;have G1:=G0.trans gk;simp only[XY,simprocAttr];rw[Je,Jb];simp only[XY,simprocAttr,r1];refine Jd (JpX G1.wf (g1.gr G1) (h2.gr G1) (h3'.gr G1)) ?_;rintro _ S2 ⟨G2,fb,rfl⟩;have r2:=G2.cells r1;have G2:=G1.trans G2
 cases fb with
 |false=>simp only[XZ,simprocAttr]
 |true=>
 obtain⟨n2,hn2⟩:=nxE S2;simp only[XY,simprocAttr,hn2,su,cu];obtain⟨A2,hA2⟩:=exE (S2.new fun t=> .cells t [u]);have GA:Gr S2 A2:=by rw[hA2];exact Gr.new G2.wf (Ja _)
 obtain⟨ta,ra⟩:∃t,A2.row (up 0 n2)= .cells t [u]:=⟨_,by rw[hA2,<-hn2,Kg,if_pos rfl]⟩
 rw[<-hA2];clear hA2;refine Jd (JrR (G2.trans GA) h3 ra) ?_;rintro _ S3 ⟨G3,b,rfl⟩
 cases b with
 |false=>simp only[XZ,simprocAttr]
 |true=>
 have r3:=(GA.trans G3).cells r2;have G3:=(G2.trans GA).trans G3;simp only[XY,simprocAttr];rw[Jb];simp only[XY,simprocAttr,r3];refine Jd (JpZ G3.wf (g1.gr G3) (h2.gr G3) (h3'.gr G3)) ?_;rintro _ S4 ⟨G4,e,rfl,hs⟩;obtain⟨sc,hsc⟩:∃s,s=qi q1 ts []:=⟨_,rfl⟩
 rw[<-hsc]at hs;have hsig:sc.sigs=[]:=by rw[hsc];rfl
 have hs0:=hs;obtain⟨ce,tv,sv,rfl,k1,k2,k3⟩:=hs0;obtain⟨M,hM⟩:∃M,M=sc.main:=⟨_,rfl⟩
 rw[<-hM]at k1;obtain⟨mn,mk,xe,rfl,v1,v2',v3,v4⟩:=k1.inv;have d1:=v1.cells;have d2:=v1.sc;have d3:=v2'.cells;have d4:=v2'.sc;have d5:=k2.sc;have d6:=k3.sc;have w4:=G4.wf;obtain⟨n4,hn4⟩:=nxE S4;simp only[List.cons_append,List.nil_append]at hs⊢;simp only[XY,simprocAttr,hn4,d1,d2,d3,d4,d5.1,d5.2,d6.1,d6.2];obtain⟨p9,hp9⟩:=exE (up 0 n4);obtain⟨S5,hS5⟩:=exE ((S4.new fun t=> .cells t [.int .i64 0,ofL [], .snil, .snil, .snil, .snil]).wr (up 0 n4) S4.t fun u=> .cells u [.int .i64 M.kind,ofL M.name,mn,mk,tv,sv]);have G5:Gr S4 S5:=by rw[hS5];exact(Gr.refl w4).nw hn4 (Ja _) (Ja _)
 obtain⟨t9,r9⟩:∃t,S5.row p9= .cells t [.int .i64 M.kind,ofL M.name,mn,mk,tv,sv]:=⟨_,by rw[hS5,hp9];simp only[XZ,simprocAttr,hn4];rfl⟩
 rw[<-hS5,<-hp9];clear hS5;have hsA:∀{S':St},Gr S5 S'->SchC (fun r=>S'.row r≠ .none) S' [.int .i64 M.kind,ofL M.name,mn,mk,tv,sv] sc:=fun g=>hs.imp fun r _ a=>⟨by rw[(G5.trans g).same r a];exact a,(G5.trans g).same r a⟩
 have r9A:∀{S':St},Gr S5 S'->S'.row p9= .cells t9 [.int .i64 M.kind,ofL M.name,mn,mk,tv,sv]:=fun g=>g.cells r9;rw[Jb];simp only[XY,simprocAttr];obtain⟨J,hJ⟩:=opE fun fr S'=>fr 3= .bool c/\fr 9= .ptr p9 0/\fr 10=ofL (tR c)/\S'=S5;refine JM J ?_ ?_
 ·cases c with
  | false=>
    simp only[XZ,simprocAttr];exact(hJ _ _).2 ⟨rfl,rfl,by simp only[XZ,simprocAttr]<;>rfl,rfl⟩
  | true=>
    simp only[XZ,simprocAttr];exact(hJ _ _).2 ⟨rfl,rfl,by simp only[XZ,simprocAttr]<;>rfl,rfl⟩
 intro fr S5' hJ5;obtain⟨f3,f9,f10,rfl⟩:=(hJ _ _).1 hJ5;rw[Jb];simp only[XY,simprocAttr,f10];refine Jd (parR (JoR c) G5.wf) ?_;rintro _ S6 ⟨G6,lv,rfl,hP⟩;have w6:=G6.wf;obtain⟨rl,rm,rb,rp,rc,rq,hlv,_⟩:=hP.ex;have hone:One lv:=by rw[hlv];exact One.of rfl
 clear hlv;simp only[XY,simprocAttr];rw[Jb];simp only[XY,simprocAttr,f9,r9A G6]
 cases hnw:newS sc with
 |mk oo er=>
 cases oo with
 | none=>
   refine Jd (JsD w6 (hsA G6) hone hnw) ?_;rintro _ S7 ⟨G7,rfl⟩;obtain⟨n7,hn7⟩:=nxE S7;simp only[XY,simprocAttr,hn7];refine Js ?_;intro S8 hS8;have G8:Gr S7 S8:=by rw[hS8];exact(Gr.refl G7.wf).nw hn7 (Ja _) (Ja _)
   obtain⟨p15,hp15⟩:=exE (up 0 n7);obtain⟨t15,r15⟩:∃t,S8.row p15= .cells t [.int .i64 er,ofL [], .int .i64 0]:=⟨_,by rw[hS8,hp15];simp only[XZ,simprocAttr,hn7];rfl⟩
   rw[<-hp15];clear hS8;have G68:=G6.trans (G7.trans G8);rw[Jb];simp only[XY,simprocAttr,f9,r9A G68];refine Jd (JsF G8.wf (hsA G68) hsig hone hnw) ?_;rintro _ S9 ⟨G9,rfl⟩;have r159:=G9.cells r15;obtain⟨n9,hn9⟩:=nxE S9;simp only[XY,simprocAttr,hn9];refine Js ?_;intro S10 hS10;have G10:Gr S9 S10:=by rw[hS10];exact(Gr.refl G9.wf).nw hn9 (Ja _) (Ja _)
   obtain⟨p17,hp17⟩:=exE (up 0 n9);obtain⟨t17,r17⟩:∃t,S10.row p17= .cells t [.int .i64 er,ofL [], .int .i64 0]:=⟨_,by rw[hS10,hp17];simp only[XZ,simprocAttr,hn9];rfl⟩
   rw[<-hp17];clear hS10;have r1510:=G10.cells r159;have G610:=G68.trans (G9.trans G10);rw[Je,Jb];simp only[XY,simprocAttr,r1510,r17];refine Jd (JoQ G10.wf) ?_;rintro _ S11 ⟨G11,rfl⟩;have G611:=G610.trans G11;have r1511:=G11.cells r1510;simp only[XY,simprocAttr];rw[Je,Jb];simp only[XY,simprocAttr];simp only[XY,simprocAttr,f9,r9A G611];refine Jd (Ji1 G11.wf (hsA G611) hsig) ?_;rintro v S12 ⟨G12,hv⟩;have r1512:=G12.cells r1511;unfold JaR at hv;rw[hnw]at hv;have hv:v= .tup [.pnil, .int .i64 er]:=hv;have hne:=Jcj hnw;rw[hv];simp only[XZ,simprocAttr,r1512,hne]
 |some tb=>
 obtain⟨rfl,hof⟩:=JjF hnw;have hno:YP tb:=Jl6 (n:=Qf) (q:=q1) (ts:=ts) (by decide) (by decide) (by rw[<-hsc];exact hnw) (by rw[<-hsc];exact(hof.able_of hof.main).fit) (by rw[<-hsc];exact fun p hp=>(hof.able p hp).fit)
 cases c with
 | false=>
   refine Jd (JqO w6 (hsA G6) hsig hP hnw hno) ?_;rintro _ S7 ⟨G7,hq⟩;obtain⟨r,Sx,y0,y1,y2,y3,y4,y5,tv',tbv,pv,rfl,⟨tr,hr⟩,zx,⟨rt,W,rfl,hT⟩,hpv⟩:=hq;obtain⟨n7,hn7⟩:=nxE S7;simp only[XY,simprocAttr,hn7];refine Js ?_;intro S8 hS8;have G8:Gr S7 S8:=by rw[hS8];exact(Gr.refl G7.wf).nw hn7 (Ja _) (Ja _)
   obtain⟨p15,hp15⟩:=exE (up 0 n7);obtain⟨t15,r15⟩:∃t,S8.row p15= .cells t [.int .i64 0,ofL [], .int .i64 0]:=⟨_,by rw[hS8,hp15];simp only[XZ,simprocAttr,hn7];rfl⟩
   rw[<-hp15];clear hS8;have G68:=G6.trans (G7.trans G8);rw[Jb];simp only[XY,simprocAttr,f9,r9A G68];refine Jd (JqP G8.wf (hsA G68) hsig (hP.fz (Fz.ofGr (G7.trans G8))) hnw hno) ?_;rintro _ S9 ⟨G9,hq2⟩;obtain⟨pr,ru,qv,lt,rest,rfl,⟨tpr,hpr⟩,hqv,⟨tru,hru⟩,hlt⟩:=hq2;have r159:=G9.cells r15;obtain⟨n9,hn9⟩:=nxE S9;simp only[XY,simprocAttr,hn9];refine Js ?_;intro S10 hS10;have G10:Gr S9 S10:=by rw[hS10];exact(Gr.refl G9.wf).nw hn9 (Ja _) (Ja _)
   obtain⟨p17,hp17⟩:=exE (up 0 n9);obtain⟨t17,r17⟩:∃t,S10.row p17= .cells t [.int .i64 0,ofL [], .int .i64 0]:=⟨_,by rw[hS10,hp17];simp only[XZ,simprocAttr,hn9];rfl⟩
   rw[<-hp17];clear hS10;have r1510:=G10.cells r159;have G610:=G68.trans (G9.trans G10);rw[Je,Jb];simp only[XY,simprocAttr,r1510,r17];have G710:=G8.trans (G9.trans G10);obtain⟨_,F7,hT7⟩:=hT;refine Jd (JrP G10.wf (G710.cells hr) (hpv.gr G710) (hT7.gr G710) (G10.cells hpr) (hqv.gr G10) (G10.cells hru) hlt) ?_;rintro _ S11 ⟨G11,rfl⟩;have G611:=G610.trans G11;have r1511:=G11.cells r1510;simp only[XY,simprocAttr];rw[Je,Jb];simp only[XY,simprocAttr];simp only[XY,simprocAttr,f9,r9A G611];refine Jd (Ji1 G11.wf (hsA G611) hsig) ?_;rintro v S12 ⟨G12,hv⟩;have r1512:=G12.cells r1511;unfold JaR at hv;rw[hnw]at hv;obtain⟨_,ru',_,_,_,_,_,_,_,_,_,_,_,rfl,_⟩:=hv;have ef:eqV (.one .p) false (.ptr r 0) .pnil=some (.bool false, .no):=rfl;simp only[XZ,simprocAttr,f3,r1512,ef]
 | true=>
   refine Jd (JqO w6 (hsA G6) hsig hP hnw hno) ?_;rintro _ S7 ⟨G7,hq⟩;have hq:_=V.tup [.pnil, .agg [.int .i64 16,ofL [116], .int .i64 31]]:=hq;rw[hq];obtain⟨n7,hn7⟩:=nxE S7;simp only[XY,simprocAttr,hn7];refine Js ?_;intro S8 hS8;have G8:Gr S7 S8:=by rw[hS8];exact(Gr.refl G7.wf).nw hn7 (Ja _) (Ja _)
   obtain⟨p15,hp15⟩:=exE (up 0 n7);obtain⟨t15,r15⟩:∃t,S8.row p15= .cells t [.int .i64 16,ofL [116], .int .i64 31]:=⟨_,by rw[hS8,hp15];simp only[XZ,simprocAttr,hn7];rfl⟩
   rw[<-hp15];clear hS8;have G68:=G6.trans (G7.trans G8);rw[Jb];simp only[XY,simprocAttr,f9,r9A G68];refine Jd (JqP G8.wf (hsA G68) hsig (hP.fz (Fz.ofGr (G7.trans G8))) hnw hno) ?_;rintro _ S9 ⟨G9,hq2⟩;have hq2:_=V.tup [.pnil, .agg [.int .i64 16,ofL [116], .int .i64 31]]:=hq2;rw[hq2];have r159:=G9.cells r15;obtain⟨n9,hn9⟩:=nxE S9;simp only[XY,simprocAttr,hn9];refine Js ?_;intro S10 hS10;have G10:Gr S9 S10:=by rw[hS10];exact(Gr.refl G9.wf).nw hn9 (Ja _) (Ja _)
   obtain⟨p17,hp17⟩:=exE (up 0 n9);obtain⟨t17,r17⟩:∃t,S10.row p17= .cells t [.int .i64 16,ofL [116], .int .i64 31]:=⟨_,by rw[hS10,hp17];simp only[XZ,simprocAttr,hn9];rfl⟩
   rw[<-hp17];clear hS10;have r1510:=G10.cells r159;have G610:=G68.trans (G9.trans G10);rw[Je,Jb];simp only[XY,simprocAttr,r1510,r17];refine Jd (JoQ G10.wf) ?_;rintro _ S11 ⟨G11,rfl⟩;have G611:=G610.trans G11;have r1511:=G11.cells r1510;simp only[XY,simprocAttr];rw[Je,Jb];simp only[XY,simprocAttr];simp only[XY,simprocAttr,f9,r9A G611];refine Jd (Ji1 G11.wf (hsA G611) hsig) ?_;rintro v S12 ⟨G12,hv⟩;have r1512:=G12.cells r1511;unfold JaR at hv;rw[hnw]at hv;obtain⟨_,ru',_,_,_,_,_,_,_,_,_,_,_,rfl,_⟩:=hv;have ef:eqV (.one .p) false .pnil .pnil=some (.bool true, .no):=rfl;simp only[XZ,simprocAttr,f3,r1512,ef]
end Go.Proofs.YtgmmjcgkklgeeaaGreat
