/- All types of a schema, in order. What is wrong with the names of named types. What is w -/
import Derived.Test.YtgmmjcgkklgeeaaGreatQ4
set_option maxHeartbeats 8000000
set_option linter.unusedVariables false
set_option linter.unusedSimpArgs false
set_option linter.unusedSectionVars false
set_option maxRecDepth 100000
namespace Go.Proofs.YtgmmjcgkklgeeaaGreat
open Eva Go.RowKit
theorem JjW (l:List Sg)(f:Sg):KU (l++[f])=KU l++(f.params++[f.result]):=by unfold KU;simp
theorem JcA :∀(l:List Sg),(∀f∈l,f.params.length<=100)->(KU l).length<=101*l.length
 |[],_=>Nat.zero_le _
 | f::l,h=>by
   have ih:=JcA l fun g hg=>h g (List.mem_cons_of_mem _ hg);have:=h f (by simp);have e:(KU (f::l)).length=f.params.length+1+(KU l).length:=by unfold KU;simp;omega
   rw[e,List.length_cons];omega
theorem JrJ {P Q:Pt->Prop}{st:St}{e:List V}{s:Sch}(hw:WF st)(h:SchC P st e s)(hl1:s.types.length<=1000)(hl2:s.sigs.length<=1000)(hl3:∀f∈s.sigs,f.params.length<=100)(hQ:∀r,P r->Q r)(hN:∀r,st.row r= .none->Q r):
  Does (tabT tabD) 80 [.agg e] st fun v' st'=>Gr st st'/\LstAt (TyC Q st') Q st' v' 4 (Qj s):=by
 refine Ju tabM (aT Tryz.func80 rfl) rfl hw fun K fin=> ?_;obtain⟨n,hn0⟩:=nxE st;obtain⟨c,tv,sv,rfl,h1,h2,h3⟩:=h;obtain⟨M,hM⟩:∃M,M=s.main:=⟨_,rfl⟩
 obtain⟨l,hl⟩:∃l,l=s.types:=⟨_,rfl⟩
 obtain⟨fs,hfs⟩:∃l,l=s.sigs:=⟨_,rfl⟩
 have hev:Qj s=l.map Prod.snd++[M]++KU fs:=by rw[hM,hl,hfs];rfl
 rw[hev]at fin;rw[<-hM]at h1;rw[<-hl]at h2 hl1;rw[<-hfs]at h3 hl2 hl3;obtain⟨nv,kv,es,rfl,x1,x2,x3,x4⟩:=h1.inv;have h1':TyC P st [.int .i64 M.kind,ofL M.name,nv,kv] M:=h1;have l1:=h2.len;have l2:=h3.len;simp only[CT,Tryz.f80,XY,simprocAttr];rw[Jb];simp only[XY,simprocAttr,hn0,x1.sc,x2.sc,x1.cells,x2.cells,h2.sc.1,h3.sc.1];obtain⟨S0,hS0⟩:=exE (st.new fun t=> .cells t [.int .i64 M.kind,ofL M.name,nv,kv,tv,sv]);have g0:Gr st S0:=by rw[hS0];exact Gr.new hw (Ja _)
 obtain⟨t0,r0⟩:∃t,S0.row (up 0 n)= .cells t [.int .i64 M.kind,ofL M.name,nv,kv,tv,sv]:=⟨_,by rw[hS0];simp only[XZ,simprocAttr,hn0];rfl⟩
 rw[<-hS0];clear hS0;have hM0:TyC P S0 [.int .i64 M.kind,ofL M.name,nv,kv] M:=h1'.gr g0;have h2:LstAt (NmC P S0) P S0 tv 5 l:=h2.imp (fun e x h=>h.imp fun r p e=>⟨p,g0.same r e⟩) fun r p e=>⟨p,g0.same r e⟩
 have h3:LstAt (SgC P S0) P S0 sv 6 fs:=h3.imp (fun e x h=>h.imp fun r p e=>⟨p,g0.same r e⟩) fun r p e=>⟨p,g0.same r e⟩
 have hN:∀r,S0.row r= .none->Q r:=fun r h=>hN r (Ch.fresh (Ch.of (fun _=>False) g0) h);have c1:=x1.cells;have c2:=x1.sc;have c3:=x2.cells;have c4:=x2.sc;rw[Jb];simp only[XY,simprocAttr];obtain⟨J,hJ⟩:=opE fun fr S=>(∃v,fr 1= .ptr (up 0 n) 0/\fr 3=v/\Gr S0 S/\TysF P S0 S v (l.map Prod.snd))
 refine JM J ?_ ?_
 ·rw[Jb];simp only[XY,simprocAttr,r0,l1];obtain⟨I,hI⟩:=loE fun j fr S=>∃(i:Nat) (v:V),j+i=l.length/\fr 1= .ptr (up 0 n) 0/\fr 3=v/\fr 9=tv/\fr 10= .int .i64 l.length/\fr 11= .int .i64 i/\Gr S0 S/\TysF P S0 S v ((l.take i).map Prod.snd);refine Jn I l.length (by omega) ((hI _ _ _).2 ⟨0, .snil,by omega,rfl,rfl,rfl,rfl,by simp only[XZ,simprocAttr]<;>rfl,Gr.refl g0.wf,TysF.nil _ _ _⟩) ?_;intro j fr S hIj;obtain⟨i,v,hj,f1,f3,f9,f10,f11,hg,hv⟩:=(hI _ _ _).1 hIj;by_cases hi:i<l.length
  ·have hi':(i:Int)<l.length:=by omega
   obtain⟨r,q,e,a1,a2,a3,a4,⟨c,he,hc⟩,a6,a7⟩:=h2.elem hi;have hc0:=hc;obtain⟨nv1,kv1,es1,rfl,y1,y2,y3,y4⟩:=hc.inv;subst he;rw[<-hg.same r a3]at a4;have d1:=y1.cells;have d2:=y1.sc;have d3:=y2.cells;have d4:=y2.sc;have wS:=hg.wf;obtain⟨nS,hnS⟩:=nxE S;have a3S:S.row r≠ .none:=by rw[hg.same r a3];exact a3
   have oq:=fun k=>nes (Jz wS hnS a3S k);have hadd1:IntKind.i64.wrap ((i:Int)+1)=((i+1:Nat):Int):=by rw[Jo (by omega) (by omega)];rfl
   have htk:(l.take (i+1)).map Prod.snd=(l.take i).map Prod.snd++[l[i].2]:=by rw[List.take_succ_eq_append_getElem hi,List.map_append];rfl
   obtain⟨N,hN'⟩:∃N,N=l[i].1:=⟨_,rfl⟩
   obtain⟨T,hT⟩:∃T,T=l[i].2:=⟨_,rfl⟩
   rw[<-hT]at hc0 htk;rw[<-hN',<-hT]at a4;rw[Jb];simp only[XY,simprocAttr,f10,f11,hi'];rw[Je];simp only[XY,simprocAttr];rw[Je];simp only[XY,simprocAttr];rw[Jb];simp only[XY,simprocAttr,f9,f11,a1,a4,hnS,oq,d1,d2,d3,d4];obtain⟨S1,hS1⟩:=exE ((S.new fun t=> .cells t [ofL [], .int .i64 0,ofL [], .snil, .snil]).wr (up 0 nS) S.t fun u=> .cells u [ofL N, .int .i64 T.kind,ofL T.name,nv1,kv1]);have g1:Gr S S1:=by rw[hS1];exact(Gr.refl wS).nw hnS (Ja _) (Ja _)
   obtain⟨t1,r1⟩:∃t,S1.row (up 0 nS)= .cells t [ofL N, .int .i64 T.kind,ofL T.name,nv1,kv1]:=⟨_,by rw[hS1];simp only[XZ,simprocAttr,hnS];rfl⟩
   rw[<-hS1];have w1:=g1.wf;have hn1:S1.nx=up 1 nS:=by rw[hS1];simp only[XZ,simprocAttr,hnS]
   simp only[XY,simprocAttr,f3,r1,hn1,d1,d2,d3,d4];have gn:Gr S1 (S1.new fun t=> .cells t [.int .i64 T.kind,ofL T.name,nv1,kv1]):=Gr.new w1 (Ja _);refine kg (ts':=[T]) ((hg.trans g1).trans gn) ((hv.gr g1).gr gn) (Ja8 hn1 hc0.four) rfl (fun i a b=>by
    have:i=0:=by simpa using a
    subst this;exact hc0) (by simp) (by simp;omega) ?_
   intro S2 v2 g2 h5 rv kp;rw[<-htk]at h5;simp only[XZ,simprocAttr,f11,hadd1];exact⟨l.length-(i+1),by omega,(hI _ _ _).2 ⟨i+1,v2,by omega,f1,rfl,f9,f10,rfl,g2,h5⟩⟩
  ·have hi':¬(i:Int)<l.length:=by omega
   simp only[XZ,simprocAttr,f10,f11,hi'];rw[List.take_of_length_le (by omega)]at hv;exact(hJ _ _).2 ⟨v,f1,f3,hg,hv⟩
 intro fr S hJf;obtain⟨v,f1,f3,hg,hv⟩:=(hJ _ _).1 hJf;have r1:=hg.cells r0;have wS:=hg.wf;obtain⟨nS,hnS⟩:=nxE S;rw[Jb];simp only[XY,simprocAttr,f1,f3,r1,hnS,c1,c2,c3,c4];have gn:Gr S (S.new fun t=> .cells t [.int .i64 M.kind,ofL M.name,nv,kv]):=Gr.new wS (Ja _);refine kg (ts':=[M]) (hg.trans gn) (hv.gr gn) (Ja8 hnS hM0.four) rfl (fun i a b=>by
  have:i=0:=by simpa using a
  subst this;exact hM0) (by simp) (by simp;omega) ?_
 intro S2 v2 g2 h5 _ _;have r2:=g2.cells r0;simp only[XY,simprocAttr];obtain⟨J2,hJ2⟩:=opE fun fr S=>(∃v,fr 3=v/\Gr S0 S/\TysF P S0 S v (l.map Prod.snd++[M]++KU fs))
 refine JM J2 ?_ ?_
 ·rw[Jb];simp only[XY,simprocAttr,f1,r2,l2];obtain⟨I,hI⟩:=loE fun j fr S=>∃(i:Nat) (v:V),j+i=fs.length/\fr 3=v/\fr 27=sv/\fr 28= .int .i64 fs.length/\fr 29= .int .i64 i/\Gr S0 S/\TysF P S0 S v (l.map Prod.snd++[M]++KU (fs.take i));refine Jn I fs.length (by omega) ((hI _ _ _).2 ⟨0,v2,by omega,rfl,rfl,rfl,by simp only[XZ,simprocAttr]<;>rfl,g2,by rw[List.take_zero];unfold KU;simpa using h5⟩) ?_;intro j fr S hIj;obtain⟨i,v,hj,f3,f27,f28,f29,hg,hv⟩:=(hI _ _ _).1 hIj;by_cases hi:i<fs.length
  ·have hi':(i:Int)<fs.length:=by omega
   obtain⟨r,q,e,a1,a2,a3,a4,⟨pv,c,he,⟨ep,p1,p2,p3⟩,hc⟩,a6,a7⟩:=h3.elem hi;have hc0:=hc;obtain⟨nv1,kv1,es1,rfl,y1,y2,y3,y4⟩:=hc.inv;subst he;rw[<-hg.same r a3]at a4;have d1:=y1.cells;have d2:=y1.sc;have d3:=y2.cells;have d4:=y2.sc;have d5:=p1.cells;have d6:=p1.sc;have wS:=hg.wf;obtain⟨nS,hnS⟩:=nxE S;have a3S:S.row r≠ .none:=by rw[hg.same r a3];exact a3
   have oq:=fun k=>nes (Jz wS hnS a3S k);have hadd1:IntKind.i64.wrap ((i:Int)+1)=((i+1:Nat):Int):=by rw[Jo (by omega) (by omega)];rfl
   obtain⟨f,hf⟩:∃f,f=fs[i]:=⟨_,rfl⟩
   have htk:KU (fs.take (i+1))=KU (fs.take i)++(f.params++[f.result]):=by rw[List.take_succ_eq_append_getElem hi,JjW,hf]
   have hfl:=hl3 f (by rw[hf];exact List.getElem_mem hi);have htl:=JcA (fs.take i) fun g hg=>hl3 g (List.mem_of_mem_take hg);rw[List.length_take]at htl;rw[<-hf]at a4 hc0 p2 p3;rw[Jb];simp only[XY,simprocAttr,f28,f29,hi'];rw[Je];simp only[XY,simprocAttr];rw[Je];simp only[XY,simprocAttr];rw[Jb];simp only[XY,simprocAttr,f27,f29,a1,a4,hnS,oq,d1,d2,d3,d4,d5,d6];obtain⟨S1,hS1⟩:=exE ((S.new fun t=> .cells t [ofL [], .snil, .int .i64 0,ofL [], .snil, .snil]).wr (up 0 nS) S.t fun u=> .cells u [ofL f.name,pv, .int .i64 f.result.kind,ofL f.result.name,nv1,kv1]);have g1:Gr S S1:=by rw[hS1];exact(Gr.refl wS).nw hnS (Ja _) (Ja _)
   obtain⟨t1,r1⟩:∃t,S1.row (up 0 nS)= .cells t [ofL f.name,pv, .int .i64 f.result.kind,ofL f.result.name,nv1,kv1]:=⟨_,by rw[hS1];simp only[XZ,simprocAttr,hnS];rfl⟩
   rw[<-hS1];have hvn:rowOf v≠some (up 0 nS):=fun e=>hv.alive e (nx0 wS hnS 0);simp only[XY,simprocAttr,f3,r1];refine kg (ts':=f.params) (hg.trans g1) (hv.gr g1) ((p1.gr hg).gr g1) p2 p3 (by omega) (by simp;omega) ?_;intro S2 v2 g2 h5 rv kp;have r2:S2.row (up 0 nS)= .cells t1 [ofL f.name,pv, .int .i64 f.result.kind,ofL f.result.name,nv1,kv1]:=by rw[kp _ (Jc r1) hvn,r1]
   have w2:=g2.wf;obtain⟨n2,hn2⟩:=nxE S2;simp only[XY,simprocAttr,r2,hn2,d1,d2,d3,d4];have gn:Gr S2 (S2.new fun t=> .cells t [.int .i64 f.result.kind,ofL f.result.name,nv1,kv1]):=Gr.new w2 (Ja _);refine kg (ts':=[f.result]) (g2.trans gn) (h5.gr gn) (Ja8 hn2 hc0.four) rfl (fun i a b=>by
    have:i=0:=by simpa using a
    subst this;exact hc0) (by simp) (by simp;omega) ?_
   intro S3 v3 g3 h6 _ _;have h6:TysF P S0 S3 v3 (l.map Prod.snd++[M]++KU (fs.take (i+1))):=by rw[htk];simpa using h6
   simp only[XZ,simprocAttr,f29,hadd1];refine⟨Kq (v:=v) (w:= .ptr (up 0 nS) 2) (q:=up 0 nS) (by simp only[XZ,simprocAttr,f3]) (by simp only[XZ,simprocAttr]) rfl hvn, ?_⟩;exact⟨fs.length-(i+1),by omega,(hI _ _ _).2 ⟨i+1,v3,by omega,rfl,f27,f28,rfl,g3,h6⟩⟩
  ·have hi':¬(i:Int)<fs.length:=by omega
   simp only[XZ,simprocAttr,f28,f29,hi'];rw[List.take_of_length_le (by omega)]at hv;exact(hJ2 _ _).2 ⟨v,f3,hg,hv⟩
 intro fr S hJf;obtain⟨v,f3,hg,hv⟩:=(hJ2 _ _).1 hJf;simp only[XZ,simprocAttr,f3];exact fin _ _ (fun r e=>(g0.trans hg).same r e) fun _=>hv.lst hg hQ hN
theorem Ji3 {p:Option Str}{n:Str}{r:List Str}(h1:QZ n=false)(h2:Ka p n=false):Kd p (n::r)=Kd (some n) r:=by
 rw[Kd,if_neg (by rw[h1];simp),if_neg (by rw[h2];simp)]
theorem JrK {P:Pt->Prop}{st:St}{v:V}{l:List (Str×Ty)}(hw:WF st)(h:LstAt (NmC P st) P st v 5 l)(hl:l.length<=1000):Does (tabT tabD) 74 [v] st fun v' st'=>Gr st st'/\v'= .int .i64 (Kd none (l.map Prod.fst)):=by
 refine Ju tabM (aT Tryz.func74 rfl) rfl hw fun K fin=> ?_;have l1:=h.len;simp only[CT,Tryz.f74,XY,simprocAttr];rw[Jb];simp only[XY,simprocAttr];rw[Je,Jb];simp only[XY,simprocAttr,l1];obtain⟨I,hI⟩:=loE fun j fr S=>∃(i:Nat) (p:Option Str),j+i=l.length/\fr 0=v/\fr 5=v/\fr 6= .int .i64 l.length/\fr 7= .int .i64 i/\Gr st S/\Kd none (l.map Prod.fst)=Kd p ((l.map Prod.fst).drop i)/\(p=if i=0 then none else(l.map Prod.fst)[i-1]?);refine Jn I l.length (by omega) ((hI _ _ _).2 ⟨0,none,by omega,rfl,rfl,rfl,by simp only[XZ,simprocAttr]<;>rfl,Gr.refl hw,rfl,rfl⟩) ?_;intro j fr S hIj;obtain⟨i,p,hj,f0,f5,f6,f7,hg,hrec,hp⟩:=(hI _ _ _).1 hIj;by_cases hi:i<l.length
 ·have hi':(i:Int)<l.length:=by omega
  have hS:LstAt (NmC P S) P S v 5 l:=h.imp (fun e x h=>h.imp fun r p e=>⟨p,hg.same r e⟩) fun r p e=>⟨p,hg.same r e⟩
  obtain⟨r,q,e,a1,a2,a3,a4,⟨c,he,hc⟩,a6,a7⟩:=hS.elem hi;obtain⟨nv,kv,es,rfl,x1,x2,x3,x4⟩:=hc.inv;subst he;have d1:=x1.cells;have d2:=x1.sc;have d3:=x2.cells;have d4:=x2.sc;have wS:=hg.wf;obtain⟨nS,hnS⟩:=nxE S;have oq:=fun k=>nes (Jz wS hnS a3 k);obtain⟨N,hN⟩:∃N,N=l[i].1:=⟨_,rfl⟩
  obtain⟨T,hT⟩:∃T,T=l[i].2:=⟨_,rfl⟩
  rw[<-hN,<-hT]at a4;have hd:(l.map Prod.fst).drop i=N::(l.map Prod.fst).drop (i+1):=by
   rw[List.drop_eq_getElem_cons (by simpa using hi),List.getElem_map,<-hN]
  rw[hd]at hrec;have hadd1:IntKind.i64.wrap ((i:Int)+1)=((i+1:Nat):Int):=by rw[Jo (by omega) (by omega)];rfl
  rw[Jb];simp only[XY,simprocAttr,f6,f7,hi'];rw[Je];simp only[XY,simprocAttr];rw[Je];simp only[XY,simprocAttr];rw[Jb];simp only[XY,simprocAttr,f5,f7,a1,a4,hnS,oq,d1,d2,d3,d4];obtain⟨S1,hS1⟩:=exE ((S.new fun t=> .cells t [ofL [], .int .i64 0,ofL [], .snil, .snil]).wr (up 0 nS) S.t fun u=> .cells u [ofL N, .int .i64 T.kind,ofL T.name,nv,kv]);have g1:Gr S S1:=by rw[hS1];exact(Gr.refl wS).nw hnS (Ja _) (Ja _)
  obtain⟨t1,r1⟩:∃t,S1.row (up 0 nS)= .cells t [ofL N, .int .i64 T.kind,ofL T.name,nv,kv]:=⟨_,by rw[hS1];simp only[XZ,simprocAttr,hnS];rfl⟩
  rw[<-hS1];rw[Jb];simp only[XY,simprocAttr,r1];refine Jd (JgU N _ g1.wf) ?_;rintro _ S2 ⟨g2,rfl⟩;have G2:=(hg.trans g1).trans g2;have r2:=g2.cells r1;have last:∀S3,Gr st S3->S3.row (up 0 nS)= .cells t1 [ofL N, .int .i64 T.kind,ofL T.name,nv,kv]->True:=fun _ _ _=>trivial;have bad:QZ N=true->Kd none (l.map Prod.fst)=15:=fun hb=>by rw[hrec,Kd,if_pos hb]
  cases hid:Kb N with
  | false=>
    simp only[XZ,simprocAttr];refine fin _ _ (fun r e=>G2.same r e) fun _=> ?_;rw[bad (by unfold QZ;rw[hid];rfl)]
  | true=>
    have hlN:=Jej hid;simp only[XY,simprocAttr,r2,List.length_append];refine⟨by omega,by omega, ?_⟩;refine Jd (Jca (Q:=fun v st'=>v= .bool (Lib.contains words (32::(N++[32])))/\S2=st') (aH (k:=101) rfl) (JcS words (32::(N++[32])) (by decide)) ⟨rfl,rfl⟩) ?_;rintro _ _ ⟨rfl,rfl⟩
    cases hwd:Lib.contains words (32::(N++[32]))with
    | true=>
      simp only[XZ,simprocAttr];refine fin _ _ (fun r e=>G2.same r e) fun _=> ?_;rw[bad (by unfold QZ;rw[hid,hwd];rfl)]
    | false=>
      have hbn:QZ N=false:=by unfold QZ;rw[hid,hwd];rfl
      have next:∀{fr':Fr},Ka p N=false->fr' 0=v->fr' 5=v->fr' 6= .int .i64 l.length->fr' 7= .int .i64 ((i+1:Nat):Int)->∃j',j'<j/\I j' fr' S2:=fun{fr'} hl e0 e5 e6 e7=>
       ⟨l.length-(i+1),by omega,(hI _ _ _).2 ⟨i+1,some N,by omega,e0,e5,e6,e7,G2,by rw[hrec,Ji3 hbn hl],by rw[if_neg (by omega)];simp[hi,hN]⟩⟩
      by_cases h0:i=0
      ·have h0':¬(0:Int)<(i:Int):=by omega
       simp only[XZ,simprocAttr,f7,h0',hadd1,Jj];refine next (by rw[hp,if_pos h0];rfl) ?_ ?_ ?_ ?_<;>simp only[XZ,simprocAttr,f0,f5,f6]
      ·have h0':(0:Int)<(i:Int):=by omega
       have hsub:IntKind.i64.wrap ((i:Int)-1)=((i-1:Nat):Int):=by rw[Jo (by omega) (by omega)];omega
       have hS2:LstAt (NmC P S2) P S2 v 5 l:=h.imp (fun e x h=>h.imp fun r p e=>⟨p,G2.same r e⟩) fun r p e=>⟨p,G2.same r e⟩
       have hi1:i-1<l.length:=by omega
       obtain⟨r',q',e',b1,b2,b3,b4,⟨c',hb,hb'⟩,b6,b7⟩:=hS2.elem hi1;subst hb;have b8:=b7 0 (by simp);have b8:ld1 (S2.row r') q'=some (ofL l[i-1].1, .no):=b8;have hp':p=some l[i-1].1:=by rw[hp,if_neg h0,List.getElem?_map,List.getElem?_eq_getElem hi1];rfl
       cases hl:Op.bytesLess l[i-1].1 N with
       | false=>
         simp only[XZ,simprocAttr,f0,f7,h0',r2,hsub,b1,b8,QH,hl,Jj];refine fin _ _ (fun r e=>G2.same r e) fun _=> ?_;rw[hrec,Kd,if_neg (by rw[hbn];simp),if_pos (by rw[hp',Ka,hl];rfl)]
       | true=>
         simp only[XZ,simprocAttr,f0,f7,h0',r2,hsub,b1,b8,QH,hl,Jj,hadd1];refine next (by rw[hp',Ka,hl];rfl) ?_ ?_ ?_ ?_<;>simp only[XZ,simprocAttr,f0,f5,f6]
 ·have hi':¬(i:Int)<l.length:=by omega
  simp only[XZ,simprocAttr,f6,f7,hi'];refine fin _ _ (fun r e=>hg.same r e) fun _=> ?_;rw[hrec,List.drop_eq_nil_of_le (by simp;omega),Kd]
theorem JjX (has:Str->Bool)(p:Option Str)(f:Sg)(r:List Sg)(met:Nat):KN has p (f::r) met=if(!Kb f.name||Qq f.name)=true then(15,met)else if Ka p f.name=true then(6,met)else if 4<f.params.length then(18,met)else
  if(Jq has (f.params++[f.result]) 1 met).1≠0 then Jq has (f.params++[f.result]) 1 met else KN has (some f.name) r (Jq has (f.params++[f.result]) 1 met).2:=by rw[KN]
theorem Ks.low {P:Pt->Prop}{st:St}{kr rm:Pt}{l:List (Str×Ty)}{met:Nat}(h:Ks P st kr rm l met)(k:Nat):Ks P {st with low:=k} kr rm l met:=⟨h.map.imp rfl fun r p _=>⟨p,rfl⟩,h.cell,h.sep,h.ne⟩
theorem _root_.Eva.LstAt.low {P:Pt->Prop}{st:St}{v:V}{l:List Ty}(h:LstAt (TyC P st) P st v 4 l)(k:Nat):LstAt (TyC P {st with low:=k}) P {st with low:=k} v 4 l:=h.imp (fun e x h=>h.imp fun r p _=>⟨p,rfl⟩) fun r p _=>⟨p,rfl⟩
theorem JsC {P:Pt->Prop}{st:St}{kr rm:Pt}{l:List (Str×Ty)}{met:Nat}{v:V}{fs:List Sg}(hw:WF st)(hL:Ks P st kr rm l met)(h:LstAt (SgC P st) P st v 6 fs)(hl:fs.length<=1000)(hmet:met<=400):
  Does (tabT tabD) 77 [.ptr kr 0,v] st fun v' st'=>Ch (fun r=>r=kr) st st'/\Ks P st' kr rm l (KN (hasN l) none fs met).2/\v'= .int .i64 (KN (hasN l) none fs met).1:=by
 refine QS tabM (aT Tryz.func77 rfl) rfl hw fun K fin=> ?_;have l1:=h.len;simp only[CT,Tryz.f77,XY,simprocAttr];rw[Jb];simp only[XY,simprocAttr];rw[Je,Jb];simp only[XY,simprocAttr,l1];obtain⟨I,hI⟩:=loE fun j fr S=>∃(i mi:Nat) (p:Option Str),j+i=fs.length/\fr 0= .ptr kr 0/\fr 1=v/\fr 8=v/\fr 9= .int .i64 fs.length/\fr 10= .int .i64 i/\Ch (fun r=>r=kr) st S/\Ks P S kr rm l mi/\mi<=400/\KN (hasN l) none fs met=KN (hasN l) p (fs.drop i) mi/\(p=if i=0 then none else(fs.map Sg.name)[i-1]?);refine Jn I fs.length (by omega) ((hI _ _ _).2 ⟨0,met,none,by omega,rfl,rfl,rfl,rfl,by simp only[XZ,simprocAttr]<;>rfl,Ch.refl _ hw,hL,hmet,rfl,rfl⟩) ?_;intro j fr S hIj;obtain⟨i,mi,p,hj,f0,f1,f8,f9,f10,hC,hLi,hmi,hrec,hp⟩:=(hI _ _ _).1 hIj;have kst:st.row kr≠ .none:=hL.krne;by_cases hi:i<fs.length
 ·have hi':(i:Int)<fs.length:=by omega
  have hold:∀{S':St},Ch (fun r=>r=kr) st S'->LstAt (SgC P S') P S' v 6 fs:=fun c=>by
   have hk:∀r,P r->st.row r≠ .none->P r/\_=st.row r:=fun r p e=>⟨p,c.same r e (hL.sep r p)⟩
   exact h.imp (fun e x h=>h.imp hk) hk
  obtain⟨r,q,e,a1,a2,a3,a4,⟨pv,c,he,hps,hc⟩,a6,a7⟩:=(hold hC).elem hi;obtain⟨es,sp,sp1,sp2⟩:=hps;obtain⟨nv,kv,es1,rfl,x1,x2,x3,x4⟩:=hc.inv;subst he;have d1:=x1.cells;have d2:=x1.sc;have d3:=x2.cells;have d4:=x2.sc;have d5:=sp.cells;have d6:=sp.sc;have wS:=hC.wf;obtain⟨nS,hnS⟩:=nxE S;have oq:=fun k=>nes (Jz wS hnS a3 k);have hadd1:IntKind.i64.wrap ((i:Int)+1)=((i+1:Nat):Int):=by rw[Jo (by omega) (by omega)];rfl
  obtain⟨f,hf⟩:∃f,f=fs[i]:=⟨_,rfl⟩
  have hd:fs.drop i=f::fs.drop (i+1):=by rw[List.drop_eq_getElem_cons hi,<-hf]
  rw[hd,JjX]at hrec;rw[<-hf]at a4 hc sp1 sp2 x4 x3 x1;rw[Jb];simp only[XY,simprocAttr,f9,f10,hi'];rw[Je];simp only[XY,simprocAttr];rw[Je];simp only[XY,simprocAttr];rw[Jb];simp only[XY,simprocAttr,f8,f10,a1,a4,hnS,oq,d1,d2,d3,d4,d5,d6];obtain⟨S1,hS1⟩:=exE ((S.new fun t=> .cells t [ofL [], .snil, .int .i64 0,ofL [], .snil, .snil]).wr (up 0 nS) S.t fun u=> .cells u [ofL f.name,pv, .int .i64 f.result.kind,ofL f.result.name,nv,kv]);have g1:Gr S S1:=by rw[hS1];exact(Gr.refl wS).nw hnS (Ja _) (Ja _)
  obtain⟨t1,r1⟩:∃t,S1.row (up 0 nS)= .cells t [ofL f.name,pv, .int .i64 f.result.kind,ofL f.result.name,nv,kv]:=⟨_,by rw[hS1];simp only[XZ,simprocAttr,hnS];rfl⟩
  rw[<-hS1];obtain⟨J,hJ⟩:=opE fun fr S'=>(Gr S1 S'/\fr 0= .ptr kr 0/\fr 1=v/\fr 6= .ptr (up 0 nS) 0/\fr 8=v/\fr 9= .int .i64 fs.length/\fr 10= .int .i64 i/\(!Kb f.name||Qq f.name)=false/\Ka p f.name=false/\f.params.length<=4)
  have lp:=sp.len;rw[sp1]at lp;refine JM J ?_ ?_
  ·simp only[XY,simprocAttr];rw[Jb];simp only[XY,simprocAttr,r1];refine Jd (JgU f.name _ g1.wf) ?_;rintro _ S2 ⟨g2,rfl⟩;have G12:=g1.trans g2;have r2:=g2.cells r1;have C2:Ch (fun r=>r=kr) st S2:=hC.trans (Ch.of _ G12) fun r w=> .inl w;have L2:=hLi.gr G12;have bad:(!Kb f.name||Qq f.name)=true->KN (hasN l) none fs met=(15,mi):=fun hb=>by rw[hrec,if_pos hb]
   cases hid:Kb f.name with
   | false=>
     simp only[XZ,simprocAttr];refine fin _ _ (fun r a b=>C2.same r a b) fun _=> ?_;rw[bad (by rw[hid];rfl)];exact⟨L2,rfl⟩
   | true=>
     simp only[XY,simprocAttr,r2];refine Jd (Joz f.name _ g2.wf) ?_;rintro _ S3 ⟨g3,hv3⟩;rw[show(Kb f.name&&Lib.contains jF (32::(f.name++[32])))=Qq f.name from rfl]at hv3;subst hv3;have G23:=g2.trans g3;have G13:=g1.trans G23;have r3:=g3.cells r2;have C3:Ch (fun r=>r=kr) st S3:=hC.trans (Ch.of _ G13) fun r w=> .inl w;have L3:=hLi.gr G13
     cases hbi:Qq f.name with
     | true=>
       simp only[XZ,simprocAttr];refine fin _ _ (fun r a b=>C3.same r a b) fun _=> ?_;rw[bad (by rw[hbi];simp)];exact⟨L3,rfl⟩
     | false=>
       have hnb:(!Kb f.name||Qq f.name)=false:=by rw[hid,hbi];rfl
       have hrec2:=hrec;rw[if_neg (by rw[hnb];simp)]at hrec2;by_cases h0:i=0
       ·have h0':¬(0:Int)<(i:Int):=by omega
        have hnl:Ka p f.name=false:=by rw[hp,if_pos h0];rfl
        by_cases h4:4<f.params.length
        ·have h4':(4:Int)<f.params.length:=by omega
         simp only[XZ,simprocAttr,h0',Jj,r3,lp,h4'];refine fin _ _ (fun r a b=>C3.same r a b) fun _=> ?_;rw[hrec2,if_neg (by rw[hnl];simp),if_pos h4];exact⟨L3,rfl⟩
        ·have h4':¬(4:Int)<f.params.length:=by omega
         simp only[XZ,simprocAttr,h0',Jj,r3,lp,h4'];exact(hJ _ _).2 ⟨G23,f0,f1,rfl,f8,f9,f10,hnb,hnl,by omega⟩
       ·have h0':(0:Int)<(i:Int):=by omega
        have hsub:IntKind.i64.wrap ((i:Int)-1)=((i-1:Nat):Int):=by rw[Jo (by omega) (by omega)];omega
        have hi1:i-1<fs.length:=by omega
        obtain⟨r',q',e',b1,b2,b3,b4,⟨pv',c',hb,hb1,hb2⟩,b6,b7⟩:=(hold C3).elem hi1;subst hb;have b8:=b7 0 (by simp);have b8:ld1 (S3.row r') q'=some (ofL fs[i-1].name, .no):=b8;have hp':p=some fs[i-1].name:=by rw[hp,if_neg h0,List.getElem?_map,List.getElem?_eq_getElem hi1];rfl
        cases hl2:Op.bytesLess fs[i-1].name f.name with
        | false=>
          simp only[XZ,simprocAttr,f1,h0',r3,hsub,b1,b8,QH,hl2,Jj];refine fin _ _ (fun r a b=>C3.same r a b) fun _=> ?_;rw[hrec2,if_pos (by rw[hp',Ka,hl2];rfl)];exact⟨L3,rfl⟩
        | true=>
          have hnl:Ka p f.name=false:=by rw[hp',Ka,hl2];rfl
          by_cases h4:4<f.params.length
          ·have h4':(4:Int)<f.params.length:=by omega
           simp only[XZ,simprocAttr,f1,h0',r3,hsub,b1,b8,QH,hl2,Jj,lp,h4'];refine fin _ _ (fun r a b=>C3.same r a b) fun _=> ?_;rw[hrec2,if_neg (by rw[hnl];simp),if_pos h4];exact⟨L3,rfl⟩
          ·have h4':¬(4:Int)<f.params.length:=by omega
           simp only[XZ,simprocAttr,f1,h0',r3,hsub,b1,b8,QH,hl2,Jj,lp,h4'];exact(hJ _ _).2 ⟨G23,f0,f1,rfl,f8,f9,f10,hnb,hnl,by omega⟩
  intro fr S3 hJf;obtain⟨g13,f0,f1,f6,f8,f9,f10,hnb,hnl,h4⟩:=(hJ _ _).1 hJf;rw[if_neg (by rw[hnb];simp),if_neg (by rw[hnl];simp),if_neg (by omega)]at hrec;have G3:=g1.trans g13;have C3:Ch (fun r=>r=kr) st S3:=hC.trans (Ch.of _ G3) fun r w=> .inl w;have L3:=hLi.gr G3;have r3:=g13.cells r1;have sp3:=sp.gr G3;have hes:okC es:=fun e he=>by
   obtain⟨j,hj,rfl⟩:=List.mem_iff_getElem.1 he;exact(sp2 j hj (by omega)).ok
  have w3:=G3.wf;rw[Jb];simp only[XY,simprocAttr,f0,f6,r3];refine Ji (Jae (JD w3 S3.t) (sp3.low _) hes (by omega)) ?_;rintro cv S4 g4 hcv;have hcv:SlF S3 S4 cv 4 es:=hcv;have r4:=g4.cells r3;have w4:=g4.wf;obtain⟨n4,hn4⟩:=nxE S4;simp only[XY,simprocAttr,f6,r4,hn4,d1,d2,d3,d4];obtain⟨ce,hce⟩:∃ce,ce=[V.int .i64 f.result.kind,ofL f.result.name,nv,kv]:=⟨_,rfl⟩
  rw[<-hce]at hc;rw[<-hce];have gn:Gr S4 (S4.new fun t=> .cells t ce):=Gr.new w4 (by rw[hce];exact Ja _);have hone:SlAt (fun r=>r=up 0 n4) (S4.new fun t=> .cells t ce) (.slx (up 0 n4) 0 1 4 1) 4 [ce]:=by
   have:=Qd (st:=S4) (z:=4) hc.four
   rwa [hn4]at this
  refine Jgy (S0:=S3) (g4.trans gn) (hcv.gr gn) hone (fun e he=>by rw[List.mem_singleton.1 he];exact hc.ok) (by simp) (by simp;omega) ?_;intro S5 v5 g5 h5 _;have G5:=G3.trans g5;have L5:=hLi.gr G5;have C5:Ch (fun r=>r=kr) st S5:=hC.trans (Ch.of _ G5) fun r w=> .inl w;have kr3:S3.row kr≠ .none:=L3.krne;have L5':Ks (fun r=>P r\/S3.row r= .none) S5 kr rm l mi:=
   ⟨L5.map.imp rfl fun r p _=>⟨.inl p,rfl⟩,L5.cell,fun r p=>by rcases p with p|p;exact L5.sep r p;exact fun e=>kr3 (by rw[<-e];exact p),L5.ne⟩
  have hx5:LstAt (TyC (fun r=>P r\/S3.row r= .none) S5) (fun r=>P r\/S3.row r= .none) S5 v5 4 (f.params++[f.result]):=by
   refine⟨es++[ce],h5.at.imp fun r p _=>⟨.inr p,rfl⟩,by simp[sp1],fun i a b=> ?_⟩;have lift:∀{e t},TyC P S e t->TyC (fun r=>P r\/S3.row r= .none) S5 e t:=fun h=>h.imp fun r p e=>⟨.inl p,G5.same r e⟩
   by_cases hi:i<es.length
   ·rw[List.getElem_append_left hi,List.getElem_append_left (by omega)];exact lift (sp2 i hi (by omega))
   ·have:i=es.length:=by simp at a;omega
    subst this;rw[List.getElem_append_right (Nat.le_refl _),List.getElem_append_right (by omega)];simp only[Nat.sub_self,List.getElem_singleton];exact lift hc
  simp only[XY,simprocAttr];refine jp (W:=fun r=>r=kr) C5.wf ((allC (JD C5.wf S5.t) (L5'.low S5.t) (hx5.low S5.t) (by simp;omega) hmi).mono fun v st' h=>⟨h.1,h.2⟩) ?_;rintro _ S6 lo c6 ⟨L6,rfl⟩;have cS6:Ch (fun r=>r=kr) st {S6 with low:=lo}:=C5.trans c6 fun r w=> .inl w;have L6':Ks P {S6 with low:=lo} kr rm l (Jq (hasN l) (f.params++[f.result]) 1 mi).2:=L5.ch c6 L6.cell;have hmet2:=QJ (hasN l) (f.params++[f.result]) 1 mi hmi;by_cases he:(Jq (hasN l) (f.params++[f.result]) 1 mi).1=0
  ·rw[if_neg (by simpa using he)]at hrec;simp only[XZ,simprocAttr,he,Jj,f0,f10,hadd1];exact⟨fs.length-(i+1),by omega,(hI _ _ _).2 ⟨i+1,_,some f.name,by omega,f0,f1,f8,f9,rfl,cS6,L6',hmet2.2 he,hrec,by rw[if_neg (by omega)];simp[hi,hf]⟩⟩
  ·rw[if_pos (by simpa using he)]at hrec;simp only[XZ,simprocAttr,he,Jj];refine fin _ _ (fun r a b=>cS6.same r a b) fun _=> ?_;rw[hrec];exact⟨L6',rfl⟩
 ·have hi':¬(i:Int)<fs.length:=by omega
  simp only[XZ,simprocAttr,f9,f10,hi'];refine fin _ _ (fun r a b=>hC.same r a b) fun _=> ?_;rw[hrec,List.drop_eq_nil_of_le (by omega),KN];exact⟨hLi,rfl⟩
theorem Jlw {α:Type}[DecidableEq α]{k:α}{v:V}:∀{es:List (α×V)},(∀p∈es,k≠p.1)->Qy k v es=es++[(k,v)]
 |[],_=>rfl
 | (a,w)::r,h=>by
   rw[Qy,if_neg (h (a,w) (by simp)),Jlw fun p hp=>h p (List.mem_cons_of_mem _ hp)];rfl
theorem JoM {P:Pt->Prop}{st:St}{e:List V}{s:Sch}(hw:WF st)(h:SchC P st e s)(hl:s.types.length<=1000)(hd:(s.types.map Prod.fst).Nodup):Does (tabT tabD) 75 [.agg e] st fun v' st'=>Gr st st'/\∃r,v'= .map r/\st.row r= .none/\JcT P st' r s.types:=by
 refine Ju tabM (aT Tryz.func75 rfl) rfl hw fun K fin=> ?_;obtain⟨n,hn0⟩:=nxE st;obtain⟨c,tv,sv,rfl,h1,h2,h3⟩:=h;obtain⟨l,hll⟩:∃l,l=s.types:=⟨_,rfl⟩
 rw[<-hll]at h2 hl hd;simp only[<-hll]at fin;obtain⟨M,hM⟩:∃M,M=s.main:=⟨_,rfl⟩
 rw[<-hM]at h1;obtain⟨k,nm,ns,ks⟩:=M;obtain⟨nv,kv,es,rfl,x1,x2,x3,x4⟩:=h1.inv';have l1:=h2.len;simp only[CT,Tryz.f75,XY,simprocAttr];rw[Jb];simp only[XY,simprocAttr,hn0,x1.sc,x2.sc,h2.sc.1,h3.sc.1];rw[Jb];simp only[XY,simprocAttr,hn0];obtain⟨S0,hS0⟩:=exE ((st.new fun t=> .cells t [.int .i64 k,ofL nm,nv,kv,tv,sv]).new fun t=> .mob t []);have g0:Gr st S0:=by rw[hS0];exact(Gr.new hw (Ja _)).nn (K1 _)
 obtain⟨t0,r0⟩:∃t,S0.row (up 0 n)= .cells t [.int .i64 k,ofL nm,nv,kv,tv,sv]:=⟨_,by rw[hS0];simp only[XZ,simprocAttr,hn0];rfl⟩
 obtain⟨tm,m0⟩:∃t,S0.row (up 1 n)= .mob t []:=⟨_,by rw[hS0];simp only[XZ,simprocAttr,hn0];rfl⟩
 obtain⟨rm,hrm⟩:=exE (up 1 n);have q0:st.row rm= .none:=by rw[hrm];exact nx0 hw hn0 1
 rw[<-hS0,<-hrm];rw[<-hrm]at m0;clear hS0;rw[Je,Jb];simp only[XY,simprocAttr,r0,l1];obtain⟨I,hI⟩:=loE fun j fr S=>∃(i:Nat) (ms:List (Str×List V)),j+i=l.length/\fr 3= .map rm/\fr 8=tv/\fr 9= .int .i64 l.length/\fr 10= .int .i64 i/\Gr st S/\(∃t,S.row rm= .mob t (ms.map fun p=>(ofL p.1,V.agg p.2)))/\ms.length=i/\∀j (h:j<ms.length) (h':j<l.length),ms[j].1=l[j].1/\TyC P st ms[j].2 l[j].2;refine Jn I l.length (by omega) ((hI _ _ _).2 ⟨0,[],by omega,rfl,rfl,rfl,by simp only[XZ,simprocAttr]<;>rfl,g0,⟨tm,m0⟩,rfl,fun j h=>absurd h (by simp)⟩) ?_;intro j fr S hIj;obtain⟨i,ms,hj,f3,f8,f9,f10,hg,⟨t,hm⟩,hml,hms⟩:=(hI _ _ _).1 hIj;by_cases hi:i<l.length
 ·have hi':(i:Int)<l.length:=by omega
  obtain⟨r,q,e,a1,a2,a3,a4,⟨c,he,hc⟩,a6,a7⟩:=h2.elem hi;have hc0:=hc;obtain⟨nv1,kv1,es1,rfl,y1,y2,y3,y4⟩:=hc.inv;subst he;rw[<-hg.same r a3]at a4;have d1:=y1.cells;have d2:=y1.sc;have d3:=y2.cells;have d4:=y2.sc;have wS:=hg.wf;obtain⟨nS,hnS⟩:=nxE S;have a3S:S.row r≠ .none:=by rw[hg.same r a3];exact a3
  have oq:=fun k=>nes (Jz wS hnS a3S k);have hmn:S.row rm≠ .none:=by rw[hm];exact fun e=>by cases e
  have om:=fun k=>nes (Jz wS hnS hmn k);obtain⟨N,hN⟩:∃N,N=l[i].1:=⟨_,rfl⟩
  obtain⟨T,hT⟩:∃T,T=l[i].2:=⟨_,rfl⟩
  rw[<-hT]at hc0;rw[<-hN,<-hT]at a4;have hadd1:IntKind.i64.wrap ((i:Int)+1)=((i+1:Nat):Int):=by rw[Jo (by omega) (by omega)];rfl
  rw[Jb];simp only[XY,simprocAttr,f9,f10,hi'];rw[Je];simp only[XY,simprocAttr];rw[Je];simp only[XY,simprocAttr];rw[Jb];simp only[XY,simprocAttr,f8,f10,a1,a4,hnS,oq,d1,d2,d3,d4];obtain⟨S1,hS1⟩:=exE ((S.new fun t=> .cells t [ofL [], .int .i64 0,ofL [], .snil, .snil]).wr (up 0 nS) S.t fun u=> .cells u [ofL N, .int .i64 T.kind,ofL T.name,nv1,kv1]);have g1:Gr S S1:=by rw[hS1];exact(Gr.refl wS).nw hnS (Ja _) (Ja _)
  obtain⟨t1,r1⟩:∃t,S1.row (up 0 nS)= .cells t [ofL N, .int .i64 T.kind,ofL T.name,nv1,kv1]:=⟨_,by rw[hS1];simp only[XZ,simprocAttr,hnS];rfl⟩
  have m1:S1.row rm= .mob t (ms.map fun p=>(ofL p.1,V.agg p.2)):=by rw[g1.same rm hmn,hm]
  rw[<-hS1];have hnew:∀p∈ms.map (fun p=>(p.1,V.agg p.2)),N≠p.1:=fun p hp e=>by
   obtain⟨p0,hp0,rfl⟩:=List.mem_map.1 hp;obtain⟨j,hj1,rfl⟩:=List.mem_iff_getElem.1 hp0;have hj2:j<l.length:=by omega
   have e1:=(hms j hj1 hj2).1;have e2:(l.map Prod.fst)[j]'(by simpa using hj2)=(l.map Prod.fst)[i]'(by simpa using hi):=by
    rw[List.getElem_map,List.getElem_map,<-e1,<-hN];exact e.symm
   exact List.pairwise_iff_getElem.1 hd j i (by simpa using hj2) (by simpa using hi) (by omega) e2
  have hmm:S1.row rm= .mob t ((ms.map fun p=>(p.1,V.agg p.2)).map fun p=>(ofL p.1,p.2)):=by rw[m1,List.map_map];rfl
  have hup:=jd (enc:=ofL) (e:= .one .s) hmm N (.agg [.int .i64 T.kind,ofL T.name,nv1,kv1]) (YQ N _) rfl;rw[Jlw hnew]at hup;simp only[XZ,simprocAttr,f3,r1,hup,hadd1,f10];refine⟨l.length-(i+1),by omega,(hI _ _ _).2 ⟨i+1,ms++[(N,[.int .i64 T.kind,ofL T.name,nv1,kv1])],by omega,f3,f8,f9,rfl, ?_, ?_,by simp[hml],fun j h h'=> ?_⟩⟩
  ·exact(hg.trans g1).wr q0 (by rw[m1];exact fun e=>by cases e) (by rw[m1];rfl) (K1 _)
  ·exact⟨_,by rw[Jm];simp;rfl⟩
  ·by_cases c:j<ms.length
   ·rw[List.getElem_append_left c];exact hms j c h'
   ·have:j=i:=by simp at h;omega
    subst this;subst hml;simp only[List.getElem_concat_length];exact⟨hN,by rw[<-hT];exact hc0⟩
 ·have hi':¬(i:Int)<l.length:=by omega
  simp only[XZ,simprocAttr,f3,f9,f10,hi'];refine fin _ _ (fun r e=>hg.same r e) fun G=>⟨rm,rfl,q0,ms,⟨t,by rw[hm,List.map_map];rfl⟩,by omega,fun j h h'=>⟨(hms j h h').1,(hms j h h').2.gr hg⟩⟩
theorem JoN (has:Str->Bool)(k:Int)(n:Str)(ns:List Str)(ks:List Ty)(deep:Nat):KS has (.mk k n ns ks) deep=if 12<deep then false else if k=9 then has n else if k=8 then YR has ks (deep+1)else if k=7 then YS has ks (deep+1)else true:=by rw[KS]
theorem Jda (has:Str->Bool)(deep:Nat):∀ks:List Ty,YR has ks deep=ks.any fun t=>KS has t deep
 |[]=>by rw[YR];rfl
 |t::r=>by rw[YR,Jda has deep r];rfl
theorem Jdb (has:Str->Bool)(deep:Nat):∀ks:List Ty,YS has ks deep= !(ks.any fun t=> !KS has t deep)
 |[]=>by rw[YS];rfl
 |t::r=>by rw[YS,Jdb has deep r];simp
def hasE (has:List (Str×Bool)):List (Str×V):=has.map fun p=>(p.1,V.bool p.2)
theorem JjY (n:Str):∀has:List (Str×Bool),ansL (.bool false) false (at_ n (hasE has))= .bool (gB n has)
 |[]=>rfl
 | (a,b)::r=>by
   have ih:=JjY n r;unfold hasE at ih⊢;rw[List.map_cons,at_,gB];by_cases e:n=a
   ·rw[if_pos e,if_pos e];rfl
   ·rw[if_neg e,if_neg e];exact ih
theorem JoO :∀(m:Nat) (ty:Ty),tsz ty<m->∀(P:Pt->Prop) (st:St) (rh:Pt) (has:List (Str×Bool)) (e:List V) (deep:Nat),WF st->QR st rh ofL (hasE has)->TyC P st e ty->deep<=13->cntT ty<1000000->
  Does (tabT tabD) 106 [.agg e, .map rh, .int .i64 deep] st fun v st'=>Gr st st'/\v= .bool (KS (fun x=>gB x has) ty deep)
 |0,_,h=>absurd h (by omega)
 | m+1, .mk k nm ns ks,hm=>by
   intro P st rh has e deep hw hmob hx hdeep hsz;refine Ju tabM (aT Tryz.func106 rfl) rfl hw fun K fin=> ?_;obtain⟨n,hn0⟩:=nxE st;obtain⟨nv,kv,es,rfl,x1,x2,x3,x4⟩:=hx.inv';have hS:=JoN (fun x=>gB x has) k nm ns ks deep;have hlen:ks.length<1000000:=by have h1:=JbL ks;rw[Yq]at hsz;omega
   have hx2:LstAt (TyC P st) P st kv 4 ks:=⟨es,x2,x3,x4⟩
   have c1:=x1.cells;have c2:=x1.sc;have c3:=x2.cells;have c4:=x2.sc;obtain⟨I,hI⟩:=opE fun fr S=>(Gr st S/\fr 3= .ptr (up 0 n) 0/\fr 4= .ptr (up 1 n) 0/\fr 5= .ptr (up 2 n) 0/\(∃t,S.row (up 0 n)= .cells t [.int .i64 k,ofL nm,nv,kv])/\(∃t,S.row (up 1 n)= .cells t [.map rh])/\(∃t,S.row (up 2 n)= .cells t [.int .i64 deep]))
   simp only[CT,Tryz.f106,XY,simprocAttr];refine QY I ?_ ?_
   ·simp only[XZ,simprocAttr,hn0,c1,c2,c3,c4];exact(hI _ _).2 ⟨((Gr.new hw (Ja _)).nn (Ja _)).nn (Ja _),by simp only[XZ,simprocAttr],by simp only[XZ,simprocAttr],by simp only[XZ,simprocAttr],⟨_,by simp only[XZ,simprocAttr,hn0];rfl⟩,⟨_,by simp only[XZ,simprocAttr,hn0];rfl⟩,⟨_,by simp only[XZ,simprocAttr,hn0];rfl⟩⟩
   intro fr S hIf;obtain⟨hg,f3,f4,f5,⟨t0,r0⟩,⟨t1,r1⟩,⟨t2,r2⟩⟩:=(hI _ _).1 hIf;by_cases hd:12<deep
   ·have hd':(12:Int)<(deep:Int):=by omega
    rw[Je,Jb];simp only[XZ,simprocAttr,f5,r2,hd'];refine fin _ _ (fun r e=>hg.same r e) fun _=> ?_;rw[hS,if_pos hd]
   have hd':¬(12:Int)<(deep:Int):=by omega
   rw[if_neg hd]at hS;rw[Je,Jb];simp only[XY,simprocAttr,f5,r2,hd'];have wS:=hg.wf;obtain⟨nS,hnS⟩:=nxE S;rw[Jb];simp only[XY,simprocAttr,f4,f5,hnS];obtain⟨S1,hS1⟩:=exE ((S.new fun t=> .cells t [.fnil]).wr (up 0 nS) S.t fun u=> .cells u [.fn 133 [] [.ptr (up 1 n) 0, .ptr (up 2 n) 0]]);have g1:Gr S S1:=by rw[hS1];exact(Gr.refl wS).nw hnS (Ja _) (Ja _)
   obtain⟨t3,r3⟩:∃t,S1.row (up 0 nS)= .cells t [.fn 133 [] [.ptr (up 1 n) 0, .ptr (up 2 n) 0]]:=⟨_,by rw[hS1];simp only[XZ,simprocAttr,hnS];rfl⟩
   rw[<-hS1];have G1:=hg.trans g1;have r0:=g1.cells r0;have r1:=g1.cells r1;have r2:=g1.cells r2;have hx3:LstAt (TyC P S1) P S1 kv 4 ks:=hx2.imp (fun e x h=>h.gr G1) fun r p e=>⟨p,G1.same r e⟩
   have clo:∀(i:Nat) (hi:i<ks.length) (S':St) (e:List V),Gr S1 S'->TyC P S' e ks[i]->Does (tabT tabD) 133 ([]++[.agg e]++[.ptr (up 1 n) 0, .ptr (up 2 n) 0]) S' fun v S''=>Gr S' S''/\v= .bool (KS (fun x=>gB x has) ks[i] (deep+1)):=fun i hi S' e g' hx'=>by
    have h1:=jf hi;have h2:=Yq k nm ns ks;have w':=g'.wf;obtain⟨n',hn'⟩:∃n,S'.nx=up 0 n:=⟨_,up0 _⟩
    have e4:=hx'.four;have eok:=hx'.ok;have etk:e.take 4=e:=by rw[<-e4,List.take_length]
    refine Ju tabM (aT Tryz.func133 rfl) rfl w' fun K fin=> ?_;have hadd:IntKind.i64.wrap ((deep:Int)+1)=((deep+1:Nat):Int):=by rw[Jo (by omega) (by omega)];rfl
    have b1:=g'.cells r1;have b2:=g'.cells r2;have gb:Gr S' (S'.new fun t=> .cells t e):=Gr.new w' (Ja _);have b1:=gb.cells b1;have b2:=gb.cells b2;simp only[CT,Tryz.f133,XZ,simprocAttr,hn',e4,eok,etk,b1,b2,hadd];refine Jd (JoO m ks[i] (by have:=Ym (k:=k) (n:=nm) (ns:=ns) hi;omega) P _ rh has e (deep+1) gb.wf ?_ (hx'.gr gb) (by omega) (by omega)) ?_
    ·exact hmob.of (by rw[gb.same rh (by rw[g'.same rh (by rw[G1.same rh hmob.ne];exact hmob.ne),G1.same rh hmob.ne];exact hmob.ne),g'.same rh (by rw[G1.same rh hmob.ne];exact hmob.ne),G1.same rh hmob.ne])
    rintro _ S2 ⟨g2,rfl⟩;simp only[XZ,simprocAttr];exact fin _ _ (fun r e=>(gb.trans g2).same r e) fun _=>rfl
   by_cases k9:k=9
   ·have hmS:QR S1 rh ofL (hasE has):=hmob.of (G1.same rh hmob.ne);have hlk:=Qi (enc:=ofL) (e:= .one .s) hmS (.bool false) false nm (YQ nm _) rfl;rw[JjY]at hlk;rw[if_pos k9]at hS;simp only[XZ,simprocAttr,f3,f4,r0,r1,k9,hlk];refine fin _ _ (fun r e=>G1.same r e) fun _=> ?_;rw[hS]
   rw[if_neg k9]at hS;by_cases k8:k=8
   ·rw[if_pos k8,Jda]at hS;simp only[XZ,simprocAttr,f3,r0,r3,k9,k8];refine Jd (YT (fa:=[]) (fb:=[.ptr (up 1 n) 0, .ptr (up 2 n) 0]) (fun t=>KS (fun x=>gB x has) t (deep+1)) G1.wf hx3 hlen clo) ?_;rintro _ S2 ⟨g2,rfl⟩;simp only[XZ,simprocAttr];refine fin _ _ (fun r e=>(G1.trans g2).same r e) fun _=> ?_;rw[hS]
   rw[if_neg k8]at hS;by_cases k7:k=7
   ·rw[if_pos k7,Jdb]at hS;simp only[XZ,simprocAttr,f3,r0,k9,k8,k7];refine Jd (YT (fa:=[]) (fb:=[.ptr (up 0 nS) 0]) (fun t=> !KS (fun x=>gB x has) t (deep+1)) G1.wf hx3 hlen fun i hi S' e g' hx'=> ?_) ?_
    ·refine Ju tabM (aT Tryz.func134 rfl) rfl g'.wf fun K fin=> ?_;obtain⟨n',hn'⟩:∃n,S'.nx=up 0 n:=⟨_,up0 _⟩
     have e4:=hx'.four;have eok:=hx'.ok;have etk:e.take 4=e:=by rw[<-e4,List.take_length]
     have gb:Gr S' (S'.new fun t=> .cells t e):=Gr.new g'.wf (Ja _);have b3:=gb.cells (g'.cells r3);simp only[CT,Tryz.f134,XZ,simprocAttr,hn',e4,eok,etk,b3];refine Jd (by simpa using clo i hi _ e (g'.trans gb) (hx'.gr gb)) ?_;rintro _ S2 ⟨g2,rfl⟩;simp only[XZ,simprocAttr];exact fin _ _ (fun r e=>(gb.trans g2).same r e) fun _=>rfl
    rintro _ S2 ⟨g2,rfl⟩;simp only[XZ,simprocAttr];refine fin _ _ (fun r e=>(G1.trans g2).same r e) fun _=> ?_;rw[hS]
   rw[if_neg k7]at hS;simp only[XZ,simprocAttr,f3,r0,k9,k8,k7];refine fin _ _ (fun r e=>G1.same r e) fun _=> ?_;rw[hS]
theorem JgV (n:Str)(b:Bool):∀has:List (Str×Bool),Qy n (V.bool b) (hasE has)=hasE (sB n b has)
 |[]=>rfl
 | (a,c)::r=>by
   have ih:=JgV n b r;unfold hasE at ih⊢;rw[List.map_cons,Qy,sB];by_cases e:n=a
   ·rw[if_pos e,if_pos e];rfl
   ·rw[if_neg e,if_neg e,ih];rfl
theorem Jdp {P:Pt->Prop}{st S:St}{v:V}{l:List (Str×Ty)}(h:LstAt (NmC P st) P st v 5 l)(hS:∀r,st.row r≠ .none->S.row r=st.row r){i:Nat}(hi:i<l.length):
  ∃r q nv kv,JJ 5 v (.int .i64 i)=some (.ptr r q, .no)/\S.row r≠ .none/\ldn (S.row r) q 5=some (.agg [ofL l[i].1, .int .i64 l[i].2.kind,ofL l[i].2.name,nv,kv], .no)/\TyC P S [.int .i64 l[i].2.kind,ofL l[i].2.name,nv,kv] l[i].2/\(nv.cells=some [nv]/\nv.sc=true/\kv.cells=some [kv]/\kv.sc=true):=by
 obtain⟨r,q,e,a1,a2,a3,a4,⟨c,he,hc⟩,a6,a7⟩:=h.elem hi;have hc0:=hc;obtain⟨nv1,kv1,es1,rfl,y1,y2,y3,y4⟩:=hc.inv;subst he;rw[<-hS r a3]at a4;exact⟨r,q,nv1,kv1,a1,by rw[hS r a3];exact a3,a4,hc0.imp fun r p e=>⟨p,hS r e⟩,y1.cells,y1.sc,y2.cells,y2.sc⟩
theorem JgW (l:List (Str×Ty))(k:Nat)(has:List (Str×Bool)):Kk l (k+1) has=Kk l k (KT l has):=by rw[Kk]
theorem Ji4 (p:Str×Ty)(r:List (Str×Ty))(has:List (Str×Bool)):KT (p::r) has=KT r (sB p.1 (gB p.1 has||KS (fun x=>gB x has) p.2 1) has):=by obtain⟨a,b⟩:=p;rw[KT]
theorem JpU {P:Pt->Prop}{st:St}{e1 e2:List V}{s:Sch}{t:Ty}(hw:WF st)(h:SchC P st e1 s)(ht:TyC P st e2 t)(hP:∀r,P r->st.row r≠ .none)(hl:s.types.length<=1000)(hd:(s.types.map Prod.fst).Nodup):
  Does (tabT tabD) 78 [.agg e1, .agg e2] st fun v' st'=>Gr st st'/\v'= .bool (finS s.types t):=by
 refine Ju tabM (aT Tryz.func78 rfl) rfl hw fun K fin=> ?_;obtain⟨n,hn0⟩:=nxE st;have hsch:=h;obtain⟨c,tv,sv,rfl,h1,h2,h3⟩:=h;obtain⟨M,hM⟩:∃M,M=s.main:=⟨_,rfl⟩
 obtain⟨l,hll⟩:∃l,l=s.types:=⟨_,rfl⟩
 rw[<-hM]at h1;rw[<-hll]at h2 hl fin;obtain⟨nv,kv,es,rfl,x1,x2,x3,x4⟩:=h1.inv;have ht0:=ht;obtain⟨nv',kv',es',rfl,y1,y2,y3,y4⟩:=ht.inv;have l1:=h2.len;have cs1:=x1.cells;have cs2:=x1.sc;have cs3:=x2.cells;have cs4:=x2.sc;have ct1:=y1.cells;have ct2:=y1.sc;have ct3:=y2.cells;have ct4:=y2.sc;have cv1:=h2.sc;have cv2:=h3.sc;simp only[CT,Tryz.f78,XY,simprocAttr];obtain⟨I,hI⟩:=opE fun fr S=>(Gr st S/\fr 2= .ptr (up 0 n) 0/\fr 3= .ptr (up 1 n) 0/\(∃u,S.row (up 0 n)= .cells u [.int .i64 M.kind,ofL M.name,nv,kv,tv,sv])/\(∃u,S.row (up 1 n)= .cells u [.int .i64 t.kind,ofL t.name,nv',kv']))
 refine QY I ?_ ?_
 ·simp only[XZ,simprocAttr,hn0,cs1,cs2,cs3,cs4,ct1,ct2,ct3,ct4,cv1.1,cv1.2,cv2.1,cv2.2];exact(hI _ _).2 ⟨(Gr.new hw (Ja _)).nn (Ja _),rfl,rfl,⟨_,by simp only[XZ,simprocAttr,hn0];rfl⟩,⟨_,by simp only[XZ,simprocAttr,hn0];rfl⟩⟩
 intro fr S hIf;obtain⟨g0,f2,f3,⟨t0,r0⟩,⟨t1,r1⟩⟩:=(hI _ _).1 hIf;rw[Jb];simp only[XY,simprocAttr,f2,r0];refine Jd (JoM (P:=P) g0.wf (hsch.imp fun r p e=>⟨p,g0.same r e⟩) (by rw[<-hll];exact hl) hd) ?_;rintro _ S1 ⟨g1,rm,rfl,hrm,hnm⟩;rw[<-hll]at hnm;have r0:=g1.cells r0;have r1:=g1.cells r1;have G1:=g0.trans g1;have w1:=g1.wf;obtain⟨n1,hn1⟩:=nxE S1;have spl:JI [.mnil, .int .i64 0] 0 [.map rm]=[.map rm, .int .i64 0]:=rfl;simp only[XY,simprocAttr,hn1,Jgu,Ja7];obtain⟨S2,hS2⟩:=exE (S1.new fun t=> .cells t [.map rm, .int .i64 0]);have g2:Gr S1 S2:=by rw[hS2];exact Gr.new w1 (Ja _)
 obtain⟨kr,hkr⟩:=exE (up 0 n1);obtain⟨tk,rk⟩:∃u,S2.row kr= .cells u [.map rm, .int .i64 0]:=⟨_,by rw[hS2,hkr];simp only[XZ,simprocAttr,hn1];rfl⟩
 have qk1:S1.row kr= .none:=by rw[hkr];exact nx0 w1 hn1 0
 rw[<-hS2,<-hkr];clear hS2;have G2:=G1.trans g2;have n0k:up 0 n≠kr:=fun h=>by rw[h,qk1]at r0;cases r0
 have n1k:up 1 n≠kr:=fun h=>by rw[h,qk1]at r1;cases r1
 have r0:=g2.cells r0;have r1:=g2.cells r1;have hmn:S1.row rm≠ .none:=by obtain⟨_,h,_⟩:=hnm;exact h.ne
 have qk:st.row kr= .none:=Ch.fresh (Ch.of (fun _=>False) G1) qk1;have old_k:∀r,st.row r≠ .none->r≠kr:=fun r e h=>e (by rw[h];exact qk);have L2:Ks P S2 kr rm l 0:=
  ⟨hnm.imp (g2.same rm hmn) fun r p e=>⟨p,g2.same r e⟩,⟨tk,rk⟩,fun r p=>old_k r (hP r p),fun e=>hmn (by rw[e];exact qk1)⟩
 have keep:∀{S':St},Ch (fun r=>r=kr) S2 S'->∀r,st.row r≠ .none->S'.row r=st.row r:=fun c r e=>by rw[c.same r (by rw[G2.same r e];exact e) (old_k r e),G2.same r e]
 have kcell:∀{S':St} {p:Pt} {u:Nat} {x:List V},Ch (fun r=>r=kr) S2 S'->S2.row p= .cells u x->p≠kr->S'.row p= .cells u x:=fun c e n=>by rw[c.same _ (Jc e) n,e]
 obtain⟨J1,hJ1⟩:=opE fun fr S=>(∃met,fr 2= .ptr (up 0 n) 0/\fr 3= .ptr (up 1 n) 0/\fr 5= .ptr kr 0/\Ch (fun r=>r=kr) S2 S/\Ks P S kr rm l met/\(Jq (hasN l) (l.map Prod.snd) 1 0).1=0)
 refine JM J1 ?_ ?_
 ·rw[Jb];simp only[XY,simprocAttr,f2,r0,l1];obtain⟨I,hI⟩:=loE fun j fr S=>∃(i met:Nat),j+i=l.length/\fr 2= .ptr (up 0 n) 0/\fr 3= .ptr (up 1 n) 0/\fr 5= .ptr kr 0/\fr 16=tv/\fr 17= .int .i64 l.length/\fr 18= .int .i64 i/\Ch (fun r=>r=kr) S2 S/\Ks P S kr rm l met/\met<=400/\Jq (hasN l) (l.map Prod.snd) 1 0=Jq (hasN l) ((l.map Prod.snd).drop i) 1 met;refine Jn I l.length (by omega) ((hI _ _ _).2 ⟨0,0,by omega,f2,f3,rfl,rfl,rfl,by simp only[XZ,simprocAttr]<;>rfl,Ch.refl _ g2.wf,L2,by omega,rfl⟩) ?_;clear f2 f3;intro j fr S hIj;obtain⟨i,met,hj,f2,f3,f5,f16,f17,f18,hC,hL,hmet,hrec⟩:=(hI _ _ _).1 hIj;by_cases hi:i<l.length
  ·have hi':(i:Int)<l.length:=by omega
   obtain⟨r,q,nv1,kv1,a1,a3,a4,hty,d1,d2,d3,d4⟩:=Jdp h2 (keep hC) hi;obtain⟨N,hN'⟩:∃N,N=l[i].1:=⟨_,rfl⟩
   obtain⟨T,hT⟩:∃T,T=l[i].2:=⟨_,rfl⟩
   rw[<-hT]at hty;rw[<-hN',<-hT]at a4;have hd:(l.map Prod.snd).drop i=T::(l.map Prod.snd).drop (i+1):=by
    rw[List.drop_eq_getElem_cons (by simpa using hi),List.getElem_map,<-hT]
   rw[hd,JT]at hrec;have wS:=hC.wf;obtain⟨nS,hnS⟩:=nxE S;have oq:=fun k=>nes (Jz wS hnS a3 k);have hadd1:IntKind.i64.wrap ((i:Int)+1)=((i+1:Nat):Int):=by rw[Jo (by omega) (by omega)];rfl
   rw[Jb];simp only[XY,simprocAttr,f17,f18,hi'];rw[Je];simp only[XY,simprocAttr];rw[Je];simp only[XY,simprocAttr];rw[Jb];simp only[XY,simprocAttr,f16,f18,a1,a4,hnS,oq,d1,d2,d3,d4];obtain⟨S3,hS3⟩:=exE ((S.new fun t=> .cells t [ofL [], .int .i64 0,ofL [], .snil, .snil]).wr (up 0 nS) S.t fun u=> .cells u [ofL N, .int .i64 T.kind,ofL T.name,nv1,kv1]);have g3:Gr S S3:=by rw[hS3];exact(Gr.refl wS).nw hnS (Ja _) (Ja _)
   obtain⟨t3,r3⟩:∃t,S3.row (up 0 nS)= .cells t [ofL N, .int .i64 T.kind,ofL T.name,nv1,kv1]:=⟨_,by rw[hS3];simp only[XZ,simprocAttr,hnS];rfl⟩
   rw[<-hS3];rw[Jb];simp only[XY,simprocAttr,f5,r3];refine Jd (mayD (deep:=1) g3.wf (hL.gr g3) (hty.gr g3) (by decide) hmet) ?_;rintro _ S4 ⟨c4,L4,rfl⟩;have C4:Ch (fun r=>r=kr) S2 S4:=(hC.trans (Ch.of _ g3) fun r w=> .inl w).trans c4 fun r w=> .inl w;have hm4:=K7 (hasN l) T 1 met hmet;by_cases he:(mayS (hasN l) T 1 met).1=0
   ·rw[if_neg (by simpa using he)]at hrec;simp only[XZ,simprocAttr,he,f18,hadd1];exact⟨l.length-(i+1),by omega,(hI _ _ _).2 ⟨i+1,_,by omega,f2,f3,f5,f16,f17,rfl,C4,L4,hm4.2 he,hrec⟩⟩
   ·rw[if_pos (by simpa using he)]at hrec;simp only[XZ,simprocAttr,he];refine fin _ _ (keep C4) fun _=> ?_;unfold finS;rw[if_pos (by rw[hrec];exact he)]
  ·have hi':¬(i:Int)<l.length:=by omega
   rw[List.drop_eq_nil_of_le (by simp;omega),KR]at hrec;simp only[XZ,simprocAttr,f17,f18,hi'];exact(hJ1 _ _).2 ⟨met,f2,f3,f5,hC,hL,by rw[hrec]⟩
 clear f2 f3 hIf hI;intro fr S hJf;obtain⟨met,f2,f3,f5,hC,hL,hm0⟩:=(hJ1 _ _).1 hJf;have hcn:=ku (hasN l) (l.map Prod.snd) 1 0 hm0;have hmt:=(QJ (hasN l) (l.map Prod.snd) 1 0 (by decide)).2 hm0;obtain⟨tk',rk'⟩:=hL.cell;rw[Jb];simp only[XY,simprocAttr,f5,rk'];obtain⟨S3,hS3⟩:=exE (S.wr kr tk' fun u=> .cells u [.map rm, .int .i64 0]);have c3:Ch (fun r=>r=kr) S S3:=by rw[hS3];exact(Ch.refl _ hC.wf).wr (Jc rk') (by rw[rk'];rfl) (.inl rfl) (Ja _)
 have L3:Ks P S3 kr rm l 0:=hL.ch c3 ⟨_,by rw[hS3];exact Jm _ _ _ _⟩;have C3:Ch (fun r=>r=kr) S2 S3:=hC.trans c3 fun r w=> .inl w;rw[<-hS3];have r1':=kcell C3 r1 n1k;rw[Je,Jb];simp only[XY,simprocAttr,f3,f5,r1',ct1,ct2,ct3,ct4];refine Jd (mayD (deep:=1) C3.wf L3 (ht0.imp fun r p e=>⟨p,keep C3 r e⟩) (by decide) (by decide)) ?_;rintro _ S4 ⟨c4,L4,rfl⟩;have C4:Ch (fun r=>r=kr) S2 S4:=C3.trans c4 fun r w=> .inl w;by_cases he:(mayS (hasN l) t 1 0).1=0;rotate_left
 ·simp only[XZ,simprocAttr,he];refine fin _ _ (keep C4) fun _=> ?_;unfold finS;rw[if_neg (by simpa using hm0),if_pos he]
 have hct:=qO (hasN l) t 1 0 he;have hmt2:=(K7 (hasN l) t 1 0 (by decide)).2 he;have hfin:finS l t=KS (fun x=>gB x (Kk l l.length [])) t 1:=by
  unfold finS;rw[if_neg (by simpa using hm0),if_neg (by simpa using he)]
 rw[hfin]at fin;have r0':=kcell C4 r0 n0k;have r1':=kcell C4 r1 n1k;have w4:=C4.wf;obtain⟨n4,hn4⟩:=nxE S4;simp only[XY,simprocAttr,he];rw[Jb];simp only[XY,simprocAttr,hn4];obtain⟨S5,hS5⟩:=exE (S4.new fun t=> .mob t []);have g5:Gr S4 S5:=by rw[hS5];exact Gr.new w4 (K1 _)
 obtain⟨rh,hrh⟩:=exE (up 0 n4);have qh:S4.row rh= .none:=by rw[hrh];exact nx0 w4 hn4 0
 obtain⟨th,mh⟩:∃u,S5.row rh= .mob u ((hasE []).map fun p=>(ofL p.1,p.2)):=⟨_,by rw[hS5,hrh];simp only[XZ,simprocAttr,hn4];rfl⟩
 rw[<-hS5,<-hrh];clear hS5;have keep4:∀{S':St},Gr S4 S'->∀r,st.row r≠ .none->S'.row r=st.row r:=fun g r e=>by rw[g.same r (by rw[keep C4 r e];exact e),keep C4 r e]
 obtain⟨J2,hJ2⟩:=opE fun fr S=>(fr 3= .ptr (up 1 n) 0/\fr 8= .map rh/\Gr S4 S/\∃u,S.row rh= .mob u ((hasE (Kk l l.length [])).map fun p=>(ofL p.1,p.2)))
 refine JM J2 ?_ ?_
 ·have r0'':=g5.cells r0';rw[Jb];simp only[XY,simprocAttr,f2,r0'',l1];obtain⟨I,hI⟩:=loE fun j fr S=>∃(i:Nat) (has:List (Str×Bool)),j+i=l.length/\fr 2= .ptr (up 0 n) 0/\fr 3= .ptr (up 1 n) 0/\fr 8= .map rh/\fr 38= .int .i64 l.length/\fr 39= .int .i64 i/\Gr S4 S/\(∃u,S.row rh= .mob u ((hasE has).map fun p=>(ofL p.1,p.2)))/\Kk l l.length []=Kk l (l.length-i) has;refine Jn I l.length (by omega) ((hI _ _ _).2 ⟨0,[],by omega,f2,f3,rfl,rfl,by simp only[XZ,simprocAttr]<;>rfl,g5,⟨th,mh⟩,rfl⟩) ?_;clear f2 f3 f5;intro j fr S hIj;obtain⟨i,has,hj,f2,f3,f8,f38,f39,hg,hmob,hrec⟩:=(hI _ _ _).1 hIj;by_cases hi:i<l.length
  ·have hi':(i:Int)<l.length:=by omega
   have hadd1:IntKind.i64.wrap ((i:Int)+1)=((i+1:Nat):Int):=by rw[Jo (by omega) (by omega)];rfl
   have rS:=hg.cells r0';have hst:l.length-i=(l.length-(i+1))+1:=by omega
   rw[hst,JgW]at hrec;rw[Jb];simp only[XY,simprocAttr,f38,f39,hi'];rw[Je];simp only[XY,simprocAttr];obtain⟨J3,hJ3⟩:=opE fun fr S=>(fr 2= .ptr (up 0 n) 0/\fr 3= .ptr (up 1 n) 0/\fr 8= .map rh/\fr 38= .int .i64 l.length/\fr 39= .int .i64 i/\Gr S4 S/\∃u,S.row rh= .mob u ((hasE (KT l has)).map fun p=>(ofL p.1,p.2)))
   refine JM J3 ?_ ?_
   ·simp only[XY,simprocAttr];rw[Jb];simp only[XY,simprocAttr,f2,rS,l1];obtain⟨I2,hI2⟩:=loE fun j fr S=>∃(k:Nat) (hk:List (Str×Bool)),j+k=l.length/\fr 2= .ptr (up 0 n) 0/\fr 3= .ptr (up 1 n) 0/\fr 8= .map rh/\fr 38= .int .i64 l.length/\fr 39= .int .i64 i/\fr 42=tv/\fr 43= .int .i64 l.length/\fr 44= .int .i64 k/\Gr S4 S/\(∃u,S.row rh= .mob u ((hasE hk).map fun p=>(ofL p.1,p.2)))/\KT l has=KT (l.drop k) hk;refine Jn I2 l.length (by omega) ((hI2 _ _ _).2 ⟨0,has,by omega,f2,f3,f8,f38,f39,rfl,rfl,by simp only[XZ,simprocAttr]<;>rfl,hg,hmob,rfl⟩) ?_;clear f2 f3 f8 f38 f39;intro j2 fr S hIj;obtain⟨k,hk,hj2,f2,f3,f8,f38,f39,f42,f43,f44,hg,⟨th,hmob⟩,hrec2⟩:=(hI2 _ _ _).1 hIj;by_cases hkl:k<l.length
    ·have hkl':(k:Int)<l.length:=by omega
     have hadd2:IntKind.i64.wrap ((k:Int)+1)=((k+1:Nat):Int):=by rw[Jo (by omega) (by omega)];rfl
     obtain⟨r,q,nv1,kv1,a1,a3,a4,hty,d1,d2,d3,d4⟩:=Jdp h2 (keep4 hg) hkl;have hcnt:cntT l[k].2<1000000:=by
      have:=jf (ks:=l.map Prod.snd) (i:=k) (by simpa using hkl);rw[List.getElem_map]at this;omega
     rw[List.drop_eq_getElem_cons hkl,Ji4]at hrec2;obtain⟨N,hN'⟩:∃N,N=l[k].1:=⟨_,rfl⟩
     obtain⟨T,hT⟩:∃T,T=l[k].2:=⟨_,rfl⟩
     rw[<-hT]at hty hcnt;rw[<-hN',<-hT]at a4 hrec2;have wS:=hg.wf;obtain⟨nS,hnS⟩:=nxE S;have oq:=fun k=>nes (Jz wS hnS a3 k);rw[Jb];simp only[XY,simprocAttr,f43,f44,hkl'];rw[Je];simp only[XY,simprocAttr];rw[Je];simp only[XY,simprocAttr];rw[Jb];simp only[XY,simprocAttr,f42,f44,a1,a4,hnS,oq,d1,d2,d3,d4];obtain⟨S1,hS1⟩:=exE ((S.new fun t=> .cells t [ofL [], .int .i64 0,ofL [], .snil, .snil]).wr (up 0 nS) S.t fun u=> .cells u [ofL N, .int .i64 T.kind,ofL T.name,nv1,kv1]);have g1:Gr S S1:=by rw[hS1];exact(Gr.refl wS).nw hnS (Ja _) (Ja _)
     obtain⟨t1,rb⟩:∃t,S1.row (up 0 nS)= .cells t [ofL N, .int .i64 T.kind,ofL T.name,nv1,kv1]:=⟨_,by rw[hS1];simp only[XZ,simprocAttr,hnS];rfl⟩
     rw[<-hS1];have hmne:S.row rh≠ .none:=by rw[hmob];exact fun e=>by cases e
     have m1:S1.row rh= .mob th ((hasE hk).map fun p=>(ofL p.1,p.2)):=by rw[g1.same rh hmne,hmob]
     have hlk:=Qi (enc:=ofL) (e:= .one .s) ⟨th,m1⟩ (.bool false) false N (YQ N _) rfl;rw[JjY]at hlk;have G1:=hg.trans g1;have stp:∀(S6:St) (b:Bool),Gr S1 S6->b=(gB N hk||KS (fun x=>gB x hk) T 1)->Gr S4 (S6.wr rh th fun u=> .mob u ((hasE (sB N b hk)).map fun p=>(ofL p.1,p.2)))/\(∃u,(S6.wr rh th fun u=> .mob u ((hasE (sB N b hk)).map fun p=>(ofL p.1,p.2))).row rh= .mob u ((hasE (sB N b hk)).map fun p=>(ofL p.1,p.2)))/\KT l has=KT (l.drop (k+1)) (sB N b hk):=fun S6 b g hb=>by
      have m6:S6.row rh= .mob th ((hasE hk).map fun p=>(ofL p.1,p.2)):=by rw[g.same rh (by rw[m1];exact fun e=>by cases e),m1]
      exact⟨(G1.trans g).wr qh (by rw[m6];exact fun e=>by cases e) (by rw[m6];rfl) (K1 _),⟨_,Jm _ _ _ _⟩,by rw[hrec2,hb]⟩
     cases hb:gB N hk with
     | true=>
       have hup:=jd (enc:=ofL) (e:= .one .s) m1 N (.bool true) (YQ N _) rfl;rw[JgV]at hup;obtain⟨s1,s2,s3⟩:=stp S1 true (Gr.refl g1.wf) (by rw[hb];rfl);rw[hb]at hlk;simp only[XZ,simprocAttr,f8,hlk,hup,Jj,f44,hadd2];exact⟨l.length-(k+1),by omega,(hI2 _ _ _).2 ⟨k+1,_,by omega,f2,f3,f8,f38,f39,f42,f43,rfl,s1,s2,s3⟩⟩
     | false=>
       rw[hb]at hlk;simp only[XY,simprocAttr,f8,hlk,rb];refine Ji (JoO _ T (Nat.lt_succ_self _) P _ rh hk _ 1 (JD g1.wf S1.t) ⟨th,m1⟩ ((hty.gr g1).imp fun r p _=>⟨p,rfl⟩) (by decide) (by omega)) ?_;rintro _ S6 g6 rfl;have m6:S6.row rh= .mob th ((hasE hk).map fun p=>(ofL p.1,p.2)):=by rw[g6.same rh (by rw[m1];exact fun e=>by cases e),m1]
       obtain⟨b,hbb⟩:∃b,b=KS (fun x=>gB x hk) T 1:=⟨_,rfl⟩
       rw[<-hbb];have hup:=jd (enc:=ofL) (e:= .one .s) m6 N (.bool b) (YQ N _) rfl;rw[JgV]at hup;obtain⟨s1,s2,s3⟩:=stp S6 b g6 (by rw[hb,hbb];rfl);simp only[XZ,simprocAttr,hup,Jj,f44,hadd2];exact⟨l.length-(k+1),by omega,(hI2 _ _ _).2 ⟨k+1,_,by omega,f2,f3,f8,f38,f39,f42,f43,rfl,s1,s2,s3⟩⟩
    ·have hkl':¬(k:Int)<l.length:=by omega
     rw[List.drop_eq_nil_of_le (by omega)]at hrec2;have hrec2:KT l has=hk:=hrec2;simp only[XZ,simprocAttr,f43,f44,hkl'];exact(hJ3 _ _).2 ⟨f2,f3,f8,f38,f39,hg,th,by rw[hrec2];exact hmob⟩
   clear f2 f3 f8 f38 f39;intro fr S hJf;obtain⟨f2,f3,f8,f38,f39,hg,hmob⟩:=(hJ3 _ _).1 hJf;simp only[XZ,simprocAttr,f39,hadd1];exact⟨l.length-(i+1),by omega,(hI _ _ _).2 ⟨i+1,_,by omega,f2,f3,f8,f38,rfl,hg,hmob,hrec⟩⟩
  ·have hi':¬(i:Int)<l.length:=by omega
   have h0:l.length-i=0:=by omega
   rw[h0]at hrec;have hrec:Kk l l.length []=has:=hrec;simp only[XZ,simprocAttr,f38,f39,hi'];exact(hJ2 _ _).2 ⟨f3,f8,hg,by rw[hrec];exact hmob⟩
 clear f2 f3 f5;intro fr S hJf;obtain⟨f3,f8,hg,⟨u,hmob⟩⟩:=(hJ2 _ _).1 hJf;have rS:=hg.cells r1';simp only[XZ,simprocAttr,f3,f8,rS,ct1,ct2,ct3,ct4];refine Jd (JoO _ t (Nat.lt_succ_self _) P S rh (Kk l l.length []) _ 1 hg.wf ⟨u,hmob⟩ (ht0.imp fun r p e=>⟨p,keep4 hg r e⟩) (by decide) (by omega)) ?_;rintro _ S6 ⟨g6,rfl⟩;simp only[XZ,simprocAttr];exact fin _ _ (keep4 (hg.trans g6)) fun _=>rfl
theorem JpV {P:Pt->Prop}{st:St}{e1 e2:List V}{s:Sch}{t:Ty}(hw:WF st)(h:SchC P st e1 s)(ht:TyC P st e2 t)(hl:s.types.length<=1000)(hd:(s.types.map Prod.fst).Nodup):
  Does (tabT tabD) 78 [.agg e1, .agg e2] st fun v' st'=>Gr st st'/\v'= .bool (finS s.types t):=
 JpU (P:=fun r=>P r/\st.row r≠ .none) hw (h.imp fun r p e=>⟨⟨p,e⟩,rfl⟩) (ht.imp fun r p e=>⟨⟨p,e⟩,rfl⟩) (fun r p=>p.2) hl hd
theorem JrL {P:Pt->Prop}{st:St}{e1:List V}{s:Sch}(hw:WF st)(h:SchC P st e1 s)(hP:∀r,P r->st.row r≠ .none):
  Does (tabT tabD) 50 [.agg e1] st fun v' st'=>Gr st st'/\v'= .int .i64 (Qv s):=by
 refine Ju tabM (aT Tryz.func50 rfl) rfl hw fun K fin=> ?_;obtain⟨n,hn0⟩:=nxE st;have hchk:=Jas s;have hev:=JfT s;have hsch:=h;obtain⟨c,tv,sv,rfl,h1,h2,h3⟩:=h;obtain⟨M,hM⟩:∃M,M=s.main:=⟨_,rfl⟩
 obtain⟨l,hll⟩:∃l,l=s.types:=⟨_,rfl⟩
 obtain⟨fs,hfs⟩:∃l,l=s.sigs:=⟨_,rfl⟩
 rw[<-hM]at h1;rw[<-hll]at h2;rw[<-hfs]at h3;rw[<-hll,<-hM,<-hfs]at hchk hev;have hM0:=h1;obtain⟨nv,kv,es,rfl,x1,x2,x3,x4⟩:=h1.inv;have l1:=h2.len;have l2:=h3.len;have cs1:=x1.cells;have cs2:=x1.sc;have cs3:=x2.cells;have cs4:=x2.sc;have cv1:=h2.sc;have cv2:=h3.sc;simp only[CT,Tryz.f50,XY,simprocAttr];rw[Jb];simp only[XY,simprocAttr,hn0,cs1,cs2,cs3,cs4,cv1.1,cv1.2,cv2.1,cv2.2];obtain⟨S,hS⟩:=exE (st.new fun t=> .cells t [.int .i64 M.kind,ofL M.name,nv,kv,tv,sv]);have g0:Gr st S:=by rw[hS];exact Gr.new hw (Ja _)
 obtain⟨t0,r0⟩:∃t,S.row (up 0 n)= .cells t [.int .i64 M.kind,ofL M.name,nv,kv,tv,sv]:=⟨_,by rw[hS];simp only[XZ,simprocAttr,hn0];rfl⟩
 rw[<-hS];clear hS;by_cases b1:12<l.length
 ·have b1':(12:Int)<l.length:=by omega
  rw[Je,Jb];simp only[XZ,simprocAttr,r0,l1,b1'];refine fin _ _ (fun r e=>g0.same r e) fun _=> ?_;rw[hchk,if_pos (.inl b1)]
 have b1':¬(12:Int)<l.length:=by omega
 by_cases b2:12<fs.length
 ·have b2':(12:Int)<fs.length:=by omega
  rw[Je,Jb];simp only[XZ,simprocAttr,r0,l1,l2,b1',b2'];refine fin _ _ (fun r e=>g0.same r e) fun _=> ?_;rw[hchk,if_pos (.inr b2)]
 have b2':¬(12:Int)<fs.length:=by omega
 rw[if_neg (fun h=>by rcases h with h|h;exact b1 h;exact b2 h)]at hchk;rw[Je,Jb];simp only[XY,simprocAttr,r0,l1,l2,b1',b2'];rw[Je,Jb];simp only[XY,simprocAttr,r0];refine Jd (JrK (P:=P) g0.wf (h2.imp (fun e x h=>h.imp fun r p e=>⟨p,g0.same r e⟩) fun r p e=>⟨p,g0.same r e⟩) (by omega)) ?_;rintro _ S1 ⟨g1,rfl⟩;have G1:=g0.trans g1;have r0:=g1.cells r0;by_cases ht0:Kd none (l.map Prod.fst)=0;rotate_left
 ·simp only[XZ,simprocAttr,ht0];refine fin _ _ (fun r e=>G1.same r e) fun _=> ?_;rw[hchk,if_pos ht0]
 rw[if_neg (fun h=>h ht0)]at hchk;have hnd:=qd ht0;simp only[XY,simprocAttr];rw[Jb];simp only[XY,simprocAttr,ht0];rw[Jb];simp only[XY,simprocAttr,r0];refine Jd (JoM (P:=P) g1.wf (hsch.imp fun r p e=>⟨p,G1.same r e⟩) (by rw[<-hll];omega) (by rw[<-hll];exact hnd)) ?_;rintro _ S2 ⟨g2,rm,rfl,hrm,hnm⟩;rw[<-hll]at hnm;have r0:=g2.cells r0;have G2:=G1.trans g2;have w2:=g2.wf;obtain⟨n2,hn2⟩:=nxE S2;simp only[XY,simprocAttr,hn2,Jgu,Ja7];obtain⟨S3,hS3⟩:=exE (S2.new fun t=> .cells t [.map rm, .int .i64 0]);have g3:Gr S2 S3:=by rw[hS3];exact Gr.new w2 (Ja _)
 obtain⟨kr,hkr⟩:=exE (up 0 n2);obtain⟨tk,rk⟩:∃u,S3.row kr= .cells u [.map rm, .int .i64 0]:=⟨_,by rw[hS3,hkr];simp only[XZ,simprocAttr,hn2];rfl⟩
 have qk2:S2.row kr= .none:=by rw[hkr];exact nx0 w2 hn2 0
 rw[<-hS3,<-hkr];clear hS3;have G3:=G2.trans g3;have n0k:up 0 n≠kr:=fun h=>by rw[h,qk2]at r0;cases r0
 have r0:=g3.cells r0;have hmn:S2.row rm≠ .none:=by obtain⟨_,h,_⟩:=hnm;exact h.ne
 have qk:st.row kr= .none:=Ch.fresh (Ch.of (fun _=>False) G2) qk2;have old_k:∀r,st.row r≠ .none->r≠kr:=fun r e h=>e (by rw[h];exact qk);have L3:Ks P S3 kr rm l 0:=
  ⟨hnm.imp (g3.same rm hmn) fun r p e=>⟨p,g3.same r e⟩,⟨tk,rk⟩,fun r p=>old_k r (hP r p),fun e=>hmn (by rw[e];exact qk2)⟩
 have keep:∀{S':St},Ch (fun r=>r=kr) S3 S'->∀r,st.row r≠ .none->S'.row r=st.row r:=fun c r e=>by rw[c.same r (by rw[G3.same r e];exact e) (old_k r e),G3.same r e]
 have kcell:∀{S':St} {p:Pt} {u:Nat} {x:List V},Ch (fun r=>r=kr) S3 S'->S3.row p= .cells u x->p≠kr->S'.row p= .cells u x:=fun c e n=>by rw[c.same _ (Jc e) n,e]
 obtain⟨J1,hJ1⟩:=opE fun fr S=>(fr 1= .ptr (up 0 n) 0/\fr 4= .ptr kr 0/\Ch (fun r=>r=kr) S3 S/\Ks P S kr rm l (Jq (hasN l) (l.map Prod.snd) 1 0).2/\(Jq (hasN l) (l.map Prod.snd) 1 0).1=0)
 refine JM J1 ?_ ?_
 ·rw[Jb];simp only[XY,simprocAttr,r0,l1];obtain⟨I,hI⟩:=loE fun j fr S=>∃(i met:Nat),j+i=l.length/\fr 1= .ptr (up 0 n) 0/\fr 4= .ptr kr 0/\fr 33=tv/\fr 34= .int .i64 l.length/\fr 35= .int .i64 i/\Ch (fun r=>r=kr) S3 S/\Ks P S kr rm l met/\met<=400/\Jq (hasN l) (l.map Prod.snd) 1 0=Jq (hasN l) ((l.map Prod.snd).drop i) 1 met;refine Jn I l.length (by omega) ((hI _ _ _).2 ⟨0,0,by omega,rfl,rfl,rfl,rfl,by simp only[XZ,simprocAttr]<;>rfl,Ch.refl _ g3.wf,L3,by omega,rfl⟩) ?_;intro j fr S hIj;obtain⟨i,met,hj,f1,f4,f33,f34,f35,hC,hL,hmet,hrec⟩:=(hI _ _ _).1 hIj;by_cases hi:i<l.length
  ·have hi':(i:Int)<l.length:=by omega
   obtain⟨r,q,nv1,kv1,a1,a3,a4,hty,d1,d2,d3,d4⟩:=Jdp h2 (keep hC) hi;obtain⟨N,hN'⟩:∃N,N=l[i].1:=⟨_,rfl⟩
   obtain⟨T,hT⟩:∃T,T=l[i].2:=⟨_,rfl⟩
   rw[<-hT]at hty;rw[<-hN',<-hT]at a4;have hd:(l.map Prod.snd).drop i=T::(l.map Prod.snd).drop (i+1):=by
    rw[List.drop_eq_getElem_cons (by simpa using hi),List.getElem_map,<-hT]
   rw[hd,JT]at hrec;have wS:=hC.wf;obtain⟨nS,hnS⟩:=nxE S;have oq:=fun k=>nes (Jz wS hnS a3 k);have hadd1:IntKind.i64.wrap ((i:Int)+1)=((i+1:Nat):Int):=by rw[Jo (by omega) (by omega)];rfl
   rw[Jb];simp only[XY,simprocAttr,f34,f35,hi'];rw[Je];simp only[XY,simprocAttr];rw[Je];simp only[XY,simprocAttr];rw[Jb];simp only[XY,simprocAttr,f33,f35,a1,a4,hnS,oq,d1,d2,d3,d4];obtain⟨S4,hS4⟩:=exE ((S.new fun t=> .cells t [ofL [], .int .i64 0,ofL [], .snil, .snil]).wr (up 0 nS) S.t fun u=> .cells u [ofL N, .int .i64 T.kind,ofL T.name,nv1,kv1]);have g4:Gr S S4:=by rw[hS4];exact(Gr.refl wS).nw hnS (Ja _) (Ja _)
   obtain⟨t4,r4⟩:∃t,S4.row (up 0 nS)= .cells t [ofL N, .int .i64 T.kind,ofL T.name,nv1,kv1]:=⟨_,by rw[hS4];simp only[XZ,simprocAttr,hnS];rfl⟩
   rw[<-hS4];rw[Jb];simp only[XY,simprocAttr,f4,r4];refine Jd (mayD (deep:=1) g4.wf (hL.gr g4) (hty.gr g4) (by decide) hmet) ?_;rintro _ S5 ⟨c5,L5,rfl⟩;have C5:Ch (fun r=>r=kr) S3 S5:=(hC.trans (Ch.of _ g4) fun r w=> .inl w).trans c5 fun r w=> .inl w;have hm4:=K7 (hasN l) T 1 met hmet;by_cases he:(mayS (hasN l) T 1 met).1=0
   ·rw[if_neg (by simpa using he)]at hrec;simp only[XZ,simprocAttr,he,f35,hadd1];exact⟨l.length-(i+1),by omega,(hI _ _ _).2 ⟨i+1,_,by omega,f1,f4,f33,f34,rfl,C5,L5,hm4.2 he,hrec⟩⟩
   ·rw[if_pos (by simpa using he)]at hrec;simp only[XZ,simprocAttr,he];refine fin _ _ (keep C5) fun _=> ?_;rw[hchk,hrec,if_pos he]
  ·have hi':¬(i:Int)<l.length:=by omega
   rw[List.drop_eq_nil_of_le (by simp;omega),KR]at hrec;simp only[XZ,simprocAttr,f34,f35,hi'];exact(hJ1 _ _).2 ⟨f1,f4,hC,by rw[hrec];exact hL,by rw[hrec]⟩
 intro fr S hJf;obtain⟨f1,f4,hC,hL,hm0⟩:=(hJ1 _ _).1 hJf;rw[if_neg (fun h=>h hm0)]at hchk;have hcn:=ku (hasN l) (l.map Prod.snd) 1 0 hm0;have hmt:=(QJ (hasN l) (l.map Prod.snd) 1 0 (by decide)).2 hm0;obtain⟨m1,hm1⟩:∃m,m=(Jq (hasN l) (l.map Prod.snd) 1 0).2:=⟨_,rfl⟩
 rw[<-hm1]at hchk hL hmt hcn;have r0':=kcell hC r0 n0k;rw[Je,Jb];simp only[XY,simprocAttr,f1,f4,r0',cs1,cs2,cs3,cs4];refine Jd (mayD (deep:=1) hC.wf hL (hM0.imp fun r p e=>⟨p,keep hC r e⟩) (by decide) hmt) ?_;rintro _ S4 ⟨c4,L4,rfl⟩;have C4:Ch (fun r=>r=kr) S3 S4:=hC.trans c4 fun r w=> .inl w;by_cases he:(mayS (hasN l) M 1 m1).1=0;rotate_left
 ·simp only[XZ,simprocAttr,he];refine fin _ _ (keep C4) fun _=> ?_;rw[hchk,if_pos he]
 rw[if_neg (fun h=>h he)]at hchk;have hcnM:=qO (hasN l) M 1 m1 he;have hmM:=(K7 (hasN l) M 1 m1 hmt).2 he;obtain⟨m2,hm2⟩:∃m,m=(mayS (hasN l) M 1 m1).2:=⟨_,rfl⟩
 rw[<-hm2]at hchk L4 hmM hcnM;simp only[XY,simprocAttr];rw[Jb];simp only[XY,simprocAttr,he];have r0':=kcell C4 r0 n0k;rw[Je,Jb];simp only[XY,simprocAttr,f1,f4,r0'];refine Jd (JsC C4.wf L4 (h3.imp (fun e x h=>h.imp fun r p e=>⟨p,keep C4 r e⟩) fun r p e=>⟨p,keep C4 r e⟩) (by omega) hmM) ?_;rintro _ S5 ⟨c5,L5,rfl⟩;have C5:Ch (fun r=>r=kr) S3 S5:=C4.trans c5 fun r w=> .inl w;by_cases hs0:(KN (hasN l) none fs m2).1=0;rotate_left
 ·simp only[XZ,simprocAttr,hs0];refine fin _ _ (keep C5) fun _=> ?_;rw[hchk,if_pos hs0]
 rw[if_neg (fun h=>h hs0)]at hchk;obtain⟨hp4,hpc,hms⟩:=JbN (hasN l) none fs m2 hmM hs0;obtain⟨m3,hm3⟩:∃m,m=(KN (hasN l) none fs m2).2:=⟨_,rfl⟩
 rw[<-hm3]at L5 hms;simp only[XY,simprocAttr];rw[Jb];simp only[XY,simprocAttr,hs0];have r0':=kcell C5 r0 n0k;have kst5:∀{S':St},Gr S5 S'->∀r,st.row r≠ .none->S'.row r=st.row r:=fun g r e=>by rw[g.same r (by rw[keep C5 r e];exact e),keep C5 r e]
 obtain⟨J2,hJ2⟩:=opE fun fr S=>(fr 1= .ptr (up 0 n) 0/\fr 4= .ptr kr 0/\Gr S5 S/\(l.any fun p=> !finS l p.2)=false)
 refine JM J2 ?_ ?_
 ·rw[Jb];simp only[XY,simprocAttr,f1,r0',l1];obtain⟨I,hI⟩:=loE fun j fr S=>∃(i:Nat),j+i=l.length/\fr 1= .ptr (up 0 n) 0/\fr 4= .ptr kr 0/\fr 62=tv/\fr 63= .int .i64 l.length/\fr 64= .int .i64 i/\Gr S5 S/\(l.any fun p=> !finS l p.2)=((l.drop i).any fun p=> !finS l p.2);refine Jn I l.length (by omega) ((hI _ _ _).2 ⟨0,by omega,f1,f4,rfl,rfl,by simp only[XZ,simprocAttr]<;>rfl,Gr.refl C5.wf,rfl⟩) ?_;clear f1 f4;intro j fr S hIj;obtain⟨i,hj,f1,f4,f62,f63,f64,hg,hrec⟩:=(hI _ _ _).1 hIj;by_cases hi:i<l.length
  ·have hi':(i:Int)<l.length:=by omega
   obtain⟨r,q,nv1,kv1,a1,a3,a4,hty,d1,d2,d3,d4⟩:=Jdp h2 (kst5 hg) hi;rw[List.drop_eq_getElem_cons hi,List.any_cons]at hrec;obtain⟨N,hN'⟩:∃N,N=l[i].1:=⟨_,rfl⟩
   obtain⟨T,hT⟩:∃T,T=l[i].2:=⟨_,rfl⟩
   rw[<-hT]at hty hrec;rw[<-hN',<-hT]at a4;have wS:=hg.wf;obtain⟨nS,hnS⟩:=nxE S;have oq:=fun k=>nes (Jz wS hnS a3 k);have hadd1:IntKind.i64.wrap ((i:Int)+1)=((i+1:Nat):Int):=by rw[Jo (by omega) (by omega)];rfl
   rw[Jb];simp only[XY,simprocAttr,f63,f64,hi'];rw[Je];simp only[XY,simprocAttr];rw[Je];simp only[XY,simprocAttr];rw[Jb];simp only[XY,simprocAttr,f62,f64,a1,a4,hnS,oq,d1,d2,d3,d4];obtain⟨S6,hS6⟩:=exE ((S.new fun t=> .cells t [ofL [], .int .i64 0,ofL [], .snil, .snil]).wr (up 0 nS) S.t fun u=> .cells u [ofL N, .int .i64 T.kind,ofL T.name,nv1,kv1]);have g6:Gr S S6:=by rw[hS6];exact(Gr.refl wS).nw hnS (Ja _) (Ja _)
   obtain⟨t6,r6⟩:∃t,S6.row (up 0 nS)= .cells t [ofL N, .int .i64 T.kind,ofL T.name,nv1,kv1]:=⟨_,by rw[hS6];simp only[XZ,simprocAttr,hnS];rfl⟩
   rw[<-hS6];have G6:=hg.trans g6;have r0S:=G6.cells r0';rw[Jb];simp only[XY,simprocAttr,f1,r0S,r6];refine Jd (JpV (s:=s) G6.wf (hsch.imp fun r p e=>⟨p,kst5 G6 r e⟩) (hty.gr g6) (by rw[<-hll];omega) (by rw[<-hll];exact hnd)) ?_;rw[<-hll];rintro _ S7 ⟨g7,rfl⟩
   cases hf:finS l T with
   | true=>
     rw[hf]at hrec;simp only[XZ,simprocAttr,f64,hadd1];exact⟨l.length-(i+1),by omega,(hI _ _ _).2 ⟨i+1,by omega,f1,f4,f62,f63,rfl,G6.trans g7,by rw[hrec];rfl⟩⟩
   | false=>
     rw[hf]at hrec;simp only[XZ,simprocAttr];refine fin _ _ (kst5 (G6.trans g7)) fun _=> ?_;rw[hchk,hrec];rfl
  ·have hi':¬(i:Int)<l.length:=by omega
   rw[List.drop_eq_nil_of_le (by omega)]at hrec;simp only[XZ,simprocAttr,f63,f64,hi'];exact(hJ2 _ _).2 ⟨f1,f4,hg,hrec⟩
 clear f1 f4;intro fr S hJf;obtain⟨f1,f4,hg,hany⟩:=(hJ2 _ _).1 hJf;rw[hany]at hchk;have hchk:Qv s=if Y4 l (Qj s)then 17 else 0:=hchk;have r0S:=hg.cells r0';rw[Je,Jb];simp only[XY,simprocAttr,f1,r0S,cs1,cs2,cs3,cs4,cv1.1,cv1.2,cv2.1,cv2.2];refine Jd (JrJ (P:=P) (Q:=fun r=>P r\/S.row r= .none) hg.wf (hsch.imp fun r p e=>⟨p,kst5 hg r e⟩) (by rw[<-hll];omega) (by rw[<-hfs];omega) (fun f hf=>by have:=hp4 f (by rw[hfs];exact hf);omega) (fun r p=> .inl p) fun r p=> .inr p) ?_;rintro ev S6 ⟨g6,hevl⟩;have kS:S.row kr≠ .none:=by rw[hg.same kr L5.krne];exact L5.krne
 have LS:Ks (fun r=>P r\/S.row r= .none) S kr rm l m3:=by
  have:=L5.gr hg;exact⟨this.map.imp rfl fun r p _=>⟨.inl p,rfl⟩,this.cell,fun r p=>by rcases p with p|p;exact this.sep r p;exact fun e=>kS (by rw[<-e];exact p),this.ne⟩
 have hcnt:∀t∈Qj s,cntT t<1000000:=fun t ht=>by
  rw[hev]at ht;rcases List.mem_append.1 ht with ht|ht
  ·rcases List.mem_append.1 ht with ht|ht
   ·have:=Jdm ht;omega
   ·rw[List.mem_singleton.1 ht];omega
  ·unfold KU at ht;obtain⟨x,hx,htx⟩:=List.mem_flatten.1 ht;obtain⟨f,hf,rfl⟩:=List.mem_map.1 hx;have h5:=Jdm htx;have h6:=hpc f hf;omega
 have hlenE:(Qj s).length<1000000:=by
  have hk:=JcA fs fun f hf=>by have:=hp4 f hf;omega
  rw[hev];simp only[List.length_append,List.length_map,List.length_singleton];omega
 simp only[XY,simprocAttr,f4];refine Jd (YT (fa:=[.ptr kr 0]) (fb:=[]) (qN l) g6.wf hevl hlenE fun i hi S' E' g' hE'=>JqN _ _ (Nat.lt_succ_self _) _ S' kr rm l m3 E' g'.wf (LS.gr (g6.trans g')) hE' (by omega) (hcnt _ (List.getElem_mem hi))) ?_;rintro _ S7 ⟨g7,rfl⟩;rw[j8]at hchk;have GF:=kst5 (hg.trans (g6.trans g7))
 cases ho:(Qj s).any (qN l)with
 | true=>
   simp only[XZ,simprocAttr];refine fin _ _ GF fun _=> ?_;rw[hchk,ho];rfl
 | false=>
   simp only[XZ,simprocAttr];refine fin _ _ GF fun _=> ?_;rw[hchk,ho];rfl
theorem JrM {P:Pt->Prop}{st:St}{e1:List V}{s:Sch}(hw:WF st)(h:SchC P st e1 s):
  Does (tabT tabD) 50 [.agg e1] st fun v' st'=>Gr st st'/\v'= .int .i64 (Qv s):=
 JrL (P:=fun r=>P r/\st.row r≠ .none) hw (h.imp fun r p e=>⟨⟨p,e⟩,rfl⟩) fun r p=>p.2
theorem addX {W:Pt->Prop}{st:St}{rt:Pt}{tb:Tb}{e:List V}{ty:Ty}(hT:TabX st W rt tb)(hx:TyC (fun r=>¬W r) st e ty):
  Does (tabT tabD) 51 [.ptr rt 0, .agg e] st fun v S=>∃W',TabX S W' rt (addT ty 400 tb).1/\Kept st W S W'/\v= .tup [.int .i64 ((addT ty 400 tb).2.1:Nat), .int .i64 (addT ty 400 tb).2.2.1]:=by
 obtain⟨hw,F,hT⟩:=hT;refine(addTop hw hT hx fun r n=>n).mono ?_;rintro v S ⟨c,⟨W',F',b1,b2,b3,T'⟩,rfl⟩;exact⟨W',⟨c.wf,F',T'⟩,Kept.ch c b2,rfl⟩
theorem addZ {W Z:Pt->Prop}{st:St}{rt:Pt}{tb:Tb}{e:List V}{ty:Ty}(hT:TabZ st W Z rt tb)(hZ:∀r,Z r->st.row r≠ .none)(hx:TyC (fun r=>¬W r) st e ty):
  Does (tabT tabD) 51 [.ptr rt 0, .agg e] st fun v S=>∃W',TabZ S W' Z rt (addT ty 400 tb).1/\Kept st W S W'/\v= .tup [.int .i64 ((addT ty 400 tb).2.1:Nat), .int .i64 (addT ty 400 tb).2.2.1]:=by
 obtain⟨hw,F,hT,hF⟩:=hT;refine(addTop hw hT hx fun r n=>n).mono ?_;rintro v S ⟨c,⟨W',F',b1,b2,b3,T'⟩,rfl⟩;exact⟨W',⟨c.wf,F',T',fun r f z=>by rcases b3 r f with f|f;exact hF r f z;exact hZ r z f⟩,Kept.ch c b2,rfl⟩
theorem newC {P:Pt->Prop}{st:St}{e1:List V}{s:Sch}(hw:WF st)(h:SchC P st e1 s):
  Does (tabT tabD) 21 [.agg e1] st fun v S=>Gr st S/\NewX st v S (newS s):=by
 refine Ju tabM (aT Tryz.func21 rfl) rfl hw fun K fin=> ?_;obtain⟨n,hn0⟩:=nxE st;have hnew:=JbR s;have hsch:=h;obtain⟨c,tv,sv,rfl,h1,h2,h3⟩:=h;obtain⟨M,hM⟩:∃M,M=s.main:=⟨_,rfl⟩
 obtain⟨l,hll⟩:∃l,l=s.types:=⟨_,rfl⟩
 obtain⟨fs,hfs⟩:∃l,l=s.sigs:=⟨_,rfl⟩
 rw[<-hM]at h1;rw[<-hll]at h2;rw[<-hfs]at h3;rw[<-hll,<-hM,<-hfs]at hnew;have hM0:=h1;obtain⟨nv,kv,es,rfl,x1,x2,x3,x4⟩:=h1.inv;have l1:=h2.len;have l2:=h3.len;have cs1:=x1.cells;have cs2:=x1.sc;have cs3:=x2.cells;have cs4:=x2.sc;have cv1:=h2.sc;have cv2:=h3.sc;simp only[CT,Tryz.f21,XY,simprocAttr];rw[Jb];simp only[XY,simprocAttr,hn0,cs1,cs2,cs3,cs4,cv1.1,cv1.2,cv2.1,cv2.2];obtain⟨S0,hS0⟩:=exE (st.new fun t=> .cells t [.int .i64 M.kind,ofL M.name,nv,kv,tv,sv]);have g0:Gr st S0:=by rw[hS0];exact Gr.new hw (Ja _)
 obtain⟨t0,r0⟩:∃t,S0.row (up 0 n)= .cells t [.int .i64 M.kind,ofL M.name,nv,kv,tv,sv]:=⟨_,by rw[hS0];simp only[XZ,simprocAttr,hn0];rfl⟩
 rw[<-hS0];clear hS0;rw[Je,Jb];simp only[XY,simprocAttr,r0,cs1,cs2,cs3,cs4,cv1.1,cv1.2,cv2.1,cv2.2];refine Jd (JrM (P:=P) g0.wf (hsch.imp fun r p e=>⟨p,g0.same r e⟩)) ?_;rintro _ S1 ⟨g1,rfl⟩;have G1:=g0.trans g1;by_cases hc:Qv s=0;rotate_left
 ·simp only[XZ,simprocAttr,hc];refine fin _ _ (fun r e=>G1.same r e) fun _=> ?_;rw[hnew,if_pos hc];exact rfl
 rw[if_neg (fun h=>h hc)]at hnew;obtain⟨hl12,hs12,_,_,_,hp4⟩:=jJ hc;rw[<-hll]at hl12;rw[<-hfs]at hs12 hp4;simp only[XY,simprocAttr];rw[Jb];simp only[XY,simprocAttr,hc];have w1:=g1.wf;obtain⟨n1,hn1⟩:=nxE S1;rw[Jb];simp only[XY,simprocAttr,hn1,Jgu,Ja7];obtain⟨S2,hS2⟩:=exE ((((S1.new fun t=> .mob t []).new fun t=> .mob t []).new fun t=> .mob t []).new fun t=> .cells t [.snil, .map (up 0 n1), .map (up 1 n1), .int .i64 0, .map (up 2 n1)]);have g2:Gr S1 S2:=by rw[hS2];exact(((Gr.new w1 (K1 _)).nn (K1 _)).nn (K1 _)).nn (Ja _)
 have hT:Tab (fun r=>r=up 0 n1\/r=up 1 n1\/r=up 2 n1\/r=up 3 n1) (fun _=>False) S2 (up 3 n1) JC:=by
  refine⟨.snil,up 0 n1,up 1 n1,up 2 n1,[],[],⟨⟨_,by rw[hS2];simp only[XZ,simprocAttr,hn1];rfl⟩,⟨.inr (.inr (.inr rfl)), .inl rfl, .inr (.inl rfl), .inr (.inr (.inl rfl))⟩, ?_,fun r f=>f.elim,⟨?_, ?_, ?_⟩,⟨rfl, .inl ⟨rfl,rfl⟩⟩,fun e h=>absurd h (by simp),rfl,fun i h=>absurd h (by simp),fun n h=>absurd h (by simp[JC]),by decide,⟨_,by rw[hS2];simp only[XZ,simprocAttr,hn1];rfl⟩,⟨_,by rw[hS2];simp only[XZ,simprocAttr,hn1];rfl⟩,⟨_,by rw[hS2];simp only[XZ,simprocAttr,hn1];rfl⟩,rfl,fun i h=>absurd h (by simp)⟩⟩
  ·intro r hr;rcases hr with e|e|e|e
   all_goals rw[hS2,e];simp only[XZ,simprocAttr,hn1]
   all_goals exact fun e=>by cases e
  ·rw[jE];decide
  ·rw[jE];decide
  ·rw[jE];decide
 rw[<-hS2];obtain⟨W2,hW2⟩:∃W:Pt->Prop,W=fun r=>r=up 0 n1\/r=up 1 n1\/r=up 2 n1\/r=up 3 n1:=⟨_,rfl⟩
 obtain⟨rt,hrt⟩:=exE (up 3 n1);rw[<-hW2,<-hrt]at hT;rw[<-hrt];have T2:TabX S2 W2 rt JC:=⟨g2.wf,_,hT⟩
 have K2:Kept S1 (fun _=>False) S2 W2:=fun r e _=>⟨g2.same r e,fun w=>by
  rw[hW2]at w;rcases w with w|w|w|w<;>exact e (by rw[w];exact nx0 w1 hn1 _)⟩
 have K02:Kept S0 (fun _=>False) S2 W2:=fun r e n=>by
  obtain⟨a,b⟩:=K2 r (by rw[g1.same r e];exact e) n;exact⟨by rw[a,g1.same r e],b⟩
 clear hS2 hW2 hrt hT;have kst:∀{S:St} {W:Pt->Prop},Kept S0 (fun _=>False) S W->∀r,st.row r≠ .none->S.row r=st.row r:=fun k r e=>by
  rw[(k r (by rw[g0.same r e];exact e) fun h=>h).1,g0.same r e]
 have kty:∀{S:St} {W:Pt->Prop} {e:List V} {t:Ty},Kept S0 (fun _=>False) S W->TyC P st e t->TyC (fun r=>¬W r) S e t:=fun k h=>h.imp fun r p e=>⟨(k r (by rw[g0.same r e];exact e) fun h=>h).2,kst k r e⟩
 have kcell:∀{S:St} {W:Pt->Prop},Kept S0 (fun _=>False) S W->S.row (up 0 n)= .cells t0 [.int .i64 M.kind,ofL M.name,nv,kv,tv,sv]:=fun k=>k.row r0 fun h=>h;obtain⟨J1,hJ1⟩:=opE fun fr S=>(∃W,fr 1= .ptr (up 0 n) 0/\fr 5= .ptr rt 0/\TabX S W rt (Jr l JC).1/\Kept S0 (fun _=>False) S W/\(Jr l JC).2=0)
 refine JM J1 ?_ ?_
 ·rw[Jb];simp only[XY,simprocAttr,kcell K02,l1];obtain⟨I,hI⟩:=loE fun j fr S=>∃(i:Nat) (W:Pt->Prop) (tb:Tb),j+i=l.length/\fr 1= .ptr (up 0 n) 0/\fr 5= .ptr rt 0/\fr 30=tv/\fr 31= .int .i64 l.length/\fr 32= .int .i64 i/\TabX S W rt tb/\Kept S0 (fun _=>False) S W/\Jr l JC=Jr (l.drop i) tb;refine Jn I l.length (by omega) ((hI _ _ _).2 ⟨0,W2,JC,by omega,rfl,rfl,rfl,rfl,by simp only[XZ,simprocAttr]<;>rfl,T2,K02,rfl⟩) ?_;intro j fr S hIj;obtain⟨i,W,tb,hj,f1,f5,f30,f31,f32,hT,hK,hrec⟩:=(hI _ _ _).1 hIj;by_cases hi:i<l.length
  ·have hi':(i:Int)<l.length:=by omega
   obtain⟨r,q,nv1,kv1,a1,a3,a4,hty,d1,d2,d3,d4⟩:=JcW h2 (kst hK) hi;obtain⟨N,hN'⟩:∃N,N=l[i].1:=⟨_,rfl⟩
   obtain⟨T,hT'⟩:∃T,T=l[i].2:=⟨_,rfl⟩
   have hd:l.drop i=(N,T)::l.drop (i+1):=by rw[List.drop_eq_getElem_cons hi,hN',hT']
   rw[hd,JbO]at hrec;rw[<-hT']at hty;rw[<-hN',<-hT']at a4;have wS:=hT.1;obtain⟨nS,hnS⟩:=nxE S;have oq:=fun k=>nes (Jz wS hnS a3 k);have hadd1:IntKind.i64.wrap ((i:Int)+1)=((i+1:Nat):Int):=by rw[Jo (by omega) (by omega)];rfl
   rw[Jb];simp only[XY,simprocAttr,f31,f32,hi'];rw[Je];simp only[XY,simprocAttr];rw[Je];simp only[XY,simprocAttr];rw[Jb];simp only[XY,simprocAttr,f30,f32,a1,a4,hnS,oq,d1,d2,d3,d4];obtain⟨S3,hS3⟩:=exE ((S.new fun t=> .cells t [ofL [], .int .i64 0,ofL [], .snil, .snil]).wr (up 0 nS) S.t fun u=> .cells u [ofL N, .int .i64 T.kind,ofL T.name,nv1,kv1]);have g3:Gr S S3:=by rw[hS3];exact(Gr.refl wS).nw hnS (Ja _) (Ja _)
   obtain⟨t3,r3⟩:∃t,S3.row (up 0 nS)= .cells t [ofL N, .int .i64 T.kind,ofL T.name,nv1,kv1]:=⟨_,by rw[hS3];simp only[XZ,simprocAttr,hnS];rfl⟩
   have q3:¬W (up 0 nS):=hT.own (nx0 wS hnS 0);rw[<-hS3];have K3:=hK.trans (Kept.gr g3 W);have T3:=hT.gr g3;rw[Jb];simp only[XY,simprocAttr,f5,r3];refine Jd (addX T3 (kty K3 hty)) ?_;rintro _ S4 ⟨W4,T4,K4,rfl⟩;have KK:=K3.trans K4;have r4:=K4.row r3 q3;simp only[XY,simprocAttr];by_cases he:(addT T 400 tb).2.2.1=0
   ·rw[if_neg (fun h=>h he)]at hrec;obtain⟨tt,lv,ra,rn,rs,rc,tm,ms,hup,T5,K5⟩:=T4.setNamed N (addT T 400 tb).2.1;have hup:=hup S4 rfl;rw[Je,Jb];simp only[XY,simprocAttr,he];simp only[XZ,simprocAttr,f5,rc,r4,hup,Jj,f32,hadd1];exact⟨l.length-(i+1),by omega,(hI _ _ _).2 ⟨i+1,W4,_,by omega,f1,f5,f30,f31,rfl,T5,KK.trans K5,hrec⟩⟩
   ·rw[if_pos he]at hrec;simp only[XZ,simprocAttr,he];refine fin _ _ (kst KK) fun _=> ?_;rw[hnew,hrec,if_pos he];exact rfl
  ·have hi':¬(i:Int)<l.length:=by omega
   rw[List.drop_eq_nil_of_le (by omega),Jr]at hrec;simp only[XZ,simprocAttr,f31,f32,hi'];exact(hJ1 _ _).2 ⟨W,f1,f5,by rw[hrec];exact hT,hK,by rw[hrec]⟩
 intro fr S hJf;obtain⟨W,f1,f5,hT,hK,hz⟩:=(hJ1 _ _).1 hJf;rw[if_neg (fun h=>h hz)]at hnew;obtain⟨tbA,htbA⟩:∃t,t=(Jr l JC).1:=⟨_,rfl⟩
 rw[<-htbA]at hT hnew;rw[Jb];simp only[XY,simprocAttr,f1,f5,kcell hK,cs1,cs2,cs3,cs4];refine Jd (addX hT (kty hK hM0)) ?_;rintro _ S3 ⟨W3,T3,K3,rfl⟩;have KK:=hK.trans K3;simp only[XY,simprocAttr];by_cases he:(addT M 400 tbA).2.2.1=0;rotate_left
 ·rw[if_pos he]at hnew;simp only[XZ,simprocAttr,he];refine fin _ _ (kst KK) fun _=> ?_;rw[hnew];exact rfl
 rw[if_neg (fun h=>h he)]at hnew;rw[Je,Jb];simp only[XY,simprocAttr,he];obtain⟨tm,lv,ra,rn,rs,rc,T4,K4⟩:=T3.setMain (addT M 400 tbA).2.1;rw[Jb];simp only[XY,simprocAttr,f5,rc];obtain⟨S4,hS4⟩:=exE (S3.wr rt tm fun u=> .cells u [lv, .map ra, .map rn, .int .i64 ((addT M 400 tbA).2.1:Nat), .map rs]);rw[<-hS4]at T4 K4⊢;clear hS4;have K04:=KK.trans K4;obtain⟨tbB,htbB⟩:∃t:Tb,t={(addT M 400 tbA).1 with main:=(addT M 400 tbA).2.1}:=⟨_,rfl⟩
 rw[<-htbB]at T4 hnew;obtain⟨J2,hJ2⟩:=opE fun fr S=>(∃W,fr 5= .ptr rt 0/\TabX S W rt (Kl fs tbB).1/\Kept S0 (fun _=>False) S W/\(Kl fs tbB).2=0)
 refine JM J2 ?_ ?_
 ·rw[Jb];simp only[XY,simprocAttr,f1,kcell K04,l2];obtain⟨I,hI⟩:=loE fun j fr S=>∃(i:Nat) (W:Pt->Prop) (tb:Tb),j+i=fs.length/\fr 5= .ptr rt 0/\fr 69=sv/\fr 70= .int .i64 fs.length/\fr 71= .int .i64 i/\TabX S W rt tb/\Kept S0 (fun _=>False) S W/\Kl fs tbB=Kl (fs.drop i) tb;refine Jn I fs.length (by omega) ((hI _ _ _).2 ⟨0,W3,tbB,by omega,f5,rfl,rfl,by simp only[XZ,simprocAttr]<;>rfl,T4,K04,rfl⟩) ?_;clear f1 f5;intro j fr S hIj;obtain⟨i,W,tb,hj,f5,f69,f70,f71,hT,hK,hrec⟩:=(hI _ _ _).1 hIj;by_cases hi:i<fs.length
  ·have hi':(i:Int)<fs.length:=by omega
   obtain⟨r,q,pv,nv1,kv1,a1,a3,a4,hps,hres,⟨d5,d6⟩,d1,d2,d3,d4⟩:=Jii h3 (kst hK) hi;obtain⟨f,hf⟩:∃f,f=fs[i]:=⟨_,rfl⟩
   have hd:fs.drop i=f::fs.drop (i+1):=by rw[List.drop_eq_getElem_cons hi,hf]
   have hf4:=hp4 f (by rw[hf];exact List.getElem_mem hi);rw[hd,JbQ]at hrec;rw[<-hf]at a4 hps hres;have lp:Kf pv=some (.int .i64 f.params.length, .no):=(Jpl.1 hps).len;have wS:=hT.1;obtain⟨nS,hnS⟩:=nxE S;have oq:=fun k=>nes (Jz wS hnS a3 k);have hadd1:IntKind.i64.wrap ((i:Int)+1)=((i+1:Nat):Int):=by rw[Jo (by omega) (by omega)];rfl
   obtain⟨c,hcl⟩:∃c,c=f.params.length+1:=⟨_,rfl⟩
   have haddp:IntKind.i64.wrap ((f.params.length:Int)+1)=(c:Int):=by rw[Jo (by omega) (by omega),hcl];rfl
   rw[Jb];simp only[XY,simprocAttr,f70,f71,hi'];rw[Je];simp only[XY,simprocAttr];rw[Je];simp only[XY,simprocAttr];rw[Jb];simp only[XY,simprocAttr,f69,f71,a1,a4,hnS,oq,d1,d2,d3,d4,d5,d6];obtain⟨S5,hS5⟩:=exE ((S.new fun t=> .cells t [ofL [], .snil, .int .i64 0,ofL [], .snil, .snil]).wr (up 0 nS) S.t fun u=> .cells u [ofL f.name,pv, .int .i64 f.result.kind,ofL f.result.name,nv1,kv1]);have g5:Gr S S5:=by rw[hS5];exact(Gr.refl wS).nw hnS (Ja _) (Ja _)
   obtain⟨t5,r5⟩:∃t,S5.row (up 0 nS)= .cells t [ofL f.name,pv, .int .i64 f.result.kind,ofL f.result.name,nv1,kv1]:=⟨_,by rw[hS5];simp only[XZ,simprocAttr,hnS];rfl⟩
   have q5:¬W (up 0 nS):=hT.own (nx0 wS hnS 0);rw[<-hS5];have K5:=hK.trans (Kept.gr g5 W);have T5:=hT.gr g5;have w5:=g5.wf;obtain⟨n5,hn5⟩:=nxE S5;have hmk:=JlV (st:=S5) (c:=c) (by omega);rw[hn5]at hmk;rw[Jb];simp only[XY,simprocAttr,r5,lp,haddp,hmk];obtain⟨rl,hrl⟩:=exE (up 0 n5);have ql:S5.row rl= .none:=by rw[hrl];exact nx0 w5 hn5 0
   obtain⟨S6,hS6⟩:=exE (S5.new fun t=> .cells t (List.replicate c (.int .i64 0)));have g6:Gr S5 S6:=by rw[hS6];exact Gr.new w5 (Ja _)
   obtain⟨t6,r6⟩:∃t,S6.row rl= .cells t (List.replicate c (.int .i64 0)):=⟨_,by rw[hS6,hrl];simp only[XZ,simprocAttr,hn5];rfl⟩
   rw[<-hS6,<-hrl];have n5l:up 0 nS≠rl:=fun e=>by rw[e,ql]at r5;cases r5
   clear hS6;have K6:=K5.trans (Kept.gr g6 W);have T6:=T5.z g6 ql;have r56:=g6.cells r5;have qlW:¬W rl:=T5.own ql;have stl:st.row rl= .none:=by
    cases hh:st.row rl with
    |none=>rfl
    | _=>
      have:=kst K5 rl (by rw[hh];exact fun e=>by cases e);rw[ql,hh]at this;cases this
   have w6:=g6.wf;obtain⟨ep,p1,p2,p3⟩:=hps;have hK6ty:∀{e t},TyC P st e t->TyC (fun r=>¬(W r\/r=rl)) S6 e t:=fun h=>h.imp fun r p e=>by
    have e0:S0.row r≠ .none:=by rw[g0.same r e];exact e
    exact⟨fun w=>by rcases w with w|w;exact(K6 r e0 fun h=>h).2 w;exact e (by rw[w];exact stl),kst K6 r e⟩
   have p1S:SlAt (fun r=>¬(W r\/r=rl)) S6 pv 4 ep:=p1.imp fun r p e=>by
    have e0:S0.row r≠ .none:=by rw[g0.same r e];exact e
    exact⟨fun w=>by rcases w with w|w;exact(K6 r e0 fun h=>h).2 w;exact e (by rw[w];exact stl),kst K6 r e⟩
   have hep:okC ep:=fun e he=>by
    obtain⟨j,hj,rfl⟩:=List.mem_iff_getElem.1 he;exact(p3 j hj (by omega)).ok
   obtain⟨ts,hts⟩:∃ts,ts=f.params++[f.result]:=⟨_,rfl⟩
   have htl:ts.length=c:=by rw[hts,hcl];simp
   rw[<-hts]at hrec;obtain⟨J3,hJ3⟩:=opE fun fr S=>(∃W' t,fr 5= .ptr rt 0/\fr 13= .ptr (up 0 nS) 0/\fr 14= .slx rl 0 c 1 c/\fr 69=sv/\fr 70= .int .i64 fs.length/\fr 71= .int .i64 i/\TabX S W' rt (Jx ts tb).1/\Kept S6 (fun r=>W r\/r=rl) S (fun r=>W' r\/r=rl)/\S.row rl= .cells t ((Jx ts tb).2.1.map fun n:Nat=>V.int .i64 (n:Int))/\¬W' rl/\(Jx ts tb).2.1.length=c/\(Jx ts tb).2.2=0)
   refine JM J3 ?_ ?_
   ·rw[Jb];simp only[XY,simprocAttr,r56];refine Ji (Jae (JD w6 S6.t) (p1S.low _) hep (by omega)) ?_;rintro cv S7 g7 hcv;have hcv:SlF S6 S7 cv 4 ep:=hcv;have r57:=g7.cells r56;have w7:=g7.wf;obtain⟨n7,hn7⟩:=nxE S7;simp only[XY,simprocAttr,r57,hn7,d1,d2,d3,d4];have gn:Gr S7 (S7.new fun t=> .cells t [.int .i64 f.result.kind,ofL f.result.name,nv1,kv1]):=Gr.new w7 (Ja _);have hres6:=hK6ty hres;have hcvT:TysF (fun r=>¬(W r\/r=rl)) S6 S7 cv f.params:=⟨ep,hcv,p2,fun i a b=>hK6ty (p3 i a b)⟩
    refine kg (ts':=[f.result]) (g7.trans gn) (hcvT.gr gn) (Ja8 hn7 hres.four) rfl (fun i a b=>by
     have:i=0:=by simpa using a
     subst this;exact hres6) (by simp) (by simp;omega) ?_
    intro S8 v8 g8 h8 _ _;rw[<-hts]at h8;have hv8:LstAt (TyC (fun r=>¬(W r\/r=rl)) S8) (fun r=>¬(W r\/r=rl)) S8 v8 4 ts:=h8.lst g8 (fun r p=>p) fun r e w=>by
     rcases w with w|w
     ·exact T6.x.own e w
     ·rw[w,r6]at e;cases e
    have l8:=hv8.len;have rl8:=g8.cells r6;have T8:=T6.gr g8;simp only[XY,simprocAttr,l8,htl,Jj];obtain⟨I3,hI3⟩:=loE fun j fr S=>∃(k:Nat) (W':Pt->Prop) (tb':Tb) (t:Nat) (ids:List Nat),j+k=c/\fr 5= .ptr rt 0/\fr 13= .ptr (up 0 nS) 0/\fr 14= .slx rl 0 k 1 c/\fr 69=sv/\fr 70= .int .i64 fs.length/\fr 71= .int .i64 i/\fr 86=v8/\fr 87= .int .i64 c/\fr 88= .int .i64 k/\TabZ S W' (fun r=>r=rl) rt tb'/\Kept S8 (fun r=>W r\/r=rl) S (fun r=>W' r\/r=rl)/\S.row rl= .cells t ((ids.map fun n:Nat=>V.int .i64 (n:Int))++List.replicate (c-k) (.int .i64 0))/\¬W' rl/\ids.length=k/\Jx ts tb=((Jx (ts.drop k) tb').1,ids++(Jx (ts.drop k) tb').2.1,(Jx (ts.drop k) tb').2.2);refine Jn I3 c (by omega) ((hI3 _ _ _).2 ⟨0,W,tb,_,[],by omega,f5,rfl,rfl,f69,f70,f71,rfl,rfl,by simp only[XZ,simprocAttr]<;>rfl,T8,Kept.refl _ _,rl8,qlW,rfl,by simp⟩) ?_;clear f5 f69 f70 f71;intro j3 fr Sa hIa;obtain⟨k,Wa,ta,ua,ids,hjk,f5,f13,f14,f69,f70,f71,f86,f87,f88,hTa,hKa,hra,hWa,hids,hreca⟩:=(hI3 _ _ _).1 hIa;by_cases hk:k<c
    ·have hk':(k:Int)<c:=by omega
     have haddk:IntKind.i64.wrap ((k:Int)+1)=((k+1:Nat):Int):=by rw[Jo (by omega) (by omega)];rfl
     have hkts:k<ts.length:=by omega
     obtain⟨r',q',e',b1,b2,b3,b4,b5,b6,b7⟩:=hv8.elem hkts;have b3a:=(hKa r' b3 b2).1;rw[<-b3a]at b4;have b3':Sa.row r'≠ .none:=by rw[b3a];exact b3
     have b5':TyC (fun r=>¬(Wa r\/r=rl)) Sa e' ts[k]:=hKa.ty b5;obtain⟨nv2,kv2,es2,rfl,y1,y2,y3,y4⟩:=b5.inv;have c1:=y1.cells;have c2:=y1.sc;have c3:=y2.cells;have c4:=y2.sc;have wA:=hTa.1;obtain⟨nA,hnA⟩:=nxE Sa;have oq:=fun k=>nes (Jz wA hnA b3' k);rw[List.drop_eq_getElem_cons hkts,JbP]at hreca;obtain⟨T,hTt⟩:∃T,T=ts[k]:=⟨_,rfl⟩
     rw[<-hTt]at hreca b4 b5';rw[Jb];simp only[XY,simprocAttr,f87,f88,hk'];rw[Je];simp only[XY,simprocAttr];rw[Je];simp only[XY,simprocAttr];rw[Jb];simp only[XY,simprocAttr,f86,f88,b1,b4,hnA,oq,c1,c2,c3,c4];obtain⟨Sb,hSb⟩:=exE ((Sa.new fun t=> .cells t [.int .i64 0,ofL [], .snil, .snil]).wr (up 0 nA) Sa.t fun u=> .cells u [.int .i64 T.kind,ofL T.name,nv2,kv2]);have gb:Gr Sa Sb:=by rw[hSb];exact(Gr.refl wA).nw hnA (Ja _) (Ja _)
     obtain⟨tb2,rb⟩:∃t,Sb.row (up 0 nA)= .cells t [.int .i64 T.kind,ofL T.name,nv2,kv2]:=⟨_,by rw[hSb];simp only[XZ,simprocAttr,hnA];rfl⟩
     rw[<-hSb];have hTb:=hTa.gr gb;have hrb:=gb.cells hra;rw[Jb];simp only[XY,simprocAttr,f5,rb];refine Jd (addZ hTb (fun r e=>by rw[e,hrb];exact fun e=>by cases e) ((b5'.gr gb).imp fun r p _=>⟨fun w=>p (.inl w),rfl⟩)) ?_;rintro _ Sc ⟨Wc,Tc,Kc,rfl⟩;have KK:=hKa.trans (((Kept.gr gb Wa).trans Kc).plus fun r=>r=rl);have hrc:=Kc.row hrb hWa;have hWc:¬Wc rl:=Kc.out (Jc hrb) hWa;simp only[XY,simprocAttr];by_cases he:(addT T 400 ta).2.2.1=0
     ·rw[if_neg (fun h=>h he)]at hreca;rw[Je,Jb];simp only[XY,simprocAttr,he];have wc:=Tc.1;obtain⟨nc,hnc⟩:=nxE Sc;have gd:Gr Sc (Sc.new fun t=> .cells t [.int .i64 ((addT T 400 ta).2.1:Nat)]):=Gr.new wc (Ja _);have happ:=JnX (st:=Sc.new fun t=> .cells t [.int .i64 ((addT T 400 ta).2.1:Nat)]) (r:=rl) (q:=up 0 nc) (i:=k) (c:=c) (gd.cells hrc) (by simp;omega) (by rw[<-hnc];exact JG _ _) rfl (by omega) (by omega);have hspl:JI ((ids.map fun n:Nat=>V.int .i64 (n:Int))++List.replicate (c-k) (.int .i64 0)) k [V.int .i64 ((addT T 400 ta).2.1:Nat)]=((ids++[(addT T 400 ta).2.1]).map fun n:Nat=>V.int .i64 (n:Int))++List.replicate (c-(k+1)) (.int .i64 0):=by
       have hl:(ids.map fun n:Nat=>V.int .i64 (n:Int)).length=k:=by simp[hids]
       have hck:c-k=(c-(k+1))+1:=by omega
       unfold JI;rw[List.take_append_of_le_length (by omega),<-hl,List.take_length,List.drop_append,hl,hck,List.replicate_succ];simp;omega
      rw[hspl]at happ;simp only[XZ,simprocAttr,f14,hnc,happ,f88,haddk];have hKd:=KK.trans (((Kept.gr gd Wc).plus fun r=>r=rl).trans (Kept.wr (S:=Sc.new fun t=> .cells t [.int .i64 ((addT T 400 ta).2.1:Nat)]) (W:=fun r=>Wc r\/r=rl) (t:=ua) (f:=fun u=> .cells u (((ids++[(addT T 400 ta).2.1]).map fun n:Nat=>V.int .i64 (n:Int))++List.replicate (c-(k+1)) (.int .i64 0))) (p:=rl) (.inr rfl)));have hrd:=gd.cells hrc;exact⟨c-(k+1),by omega,(hI3 _ _ _).2 ⟨k+1,Wc,_,_,ids++[(addT T 400 ta).2.1],by omega,f5,f13,rfl,f69,f70,f71,f86,f87,rfl,(Tc.gr gd).wr rfl hWc (Jc hrd) (by rw[hrd];rfl) (Ja _),hKd,Jm _ _ _ _,hWc,by simp[hids],by rw[hreca];simp⟩⟩
     ·rw[if_pos he]at hreca;simp only[XZ,simprocAttr,he];refine fin _ _ (fun r e=> ?_) fun _=> ?_
      ·have e0:S0.row r≠ .none:=by rw[g0.same r e];exact e
       have k6:=K6 r e0 fun h=>h;have ne:r≠rl:=fun h=>e (by rw[h];exact stl);have k8:=KK r (by rw[g8.same r (by rw[k6.1];exact e0),k6.1];exact e0) (fun w=>by rcases w with w|w;exact k6.2 w;exact ne w);rw[k8.1,g8.same r (by rw[k6.1];exact e0),k6.1,g0.same r e]
      ·have h1:(Jx ts tb).2.2=(addT T 400 ta).2.2.1:=by rw[hreca]
       rw[hnew,hrec,if_pos (by rw[if_pos (by rw[h1];exact he)];simp only;rw[h1];exact he),if_pos (by rw[h1];exact he)];show _=V.tup [.pnil, .int .i64 (Jx ts tb).2.2];rw[h1]
    ·have hk':¬(k:Int)<c:=by omega
     have hkc:k=c:=by omega
     subst hkc;rw[List.drop_eq_nil_of_le (by omega),Jx]at hreca;simp only[XZ,simprocAttr,f87,f88,hk'];have e1:(Jx ts tb).1=ta:=by rw[hreca]
     have e2:(Jx ts tb).2.1=ids:=by rw[hreca];simp
     have e3:(Jx ts tb).2.2=0:=by rw[hreca]
     rw[Nat.sub_self]at hra;exact(hJ3 _ _).2 ⟨Wa,ua,f5,f13,f14,f69,f70,f71,by rw[e1];exact hTa.x,(Kept.gr g8 _).trans hKa,by rw[e2];simpa using hra,hWa,by rw[e2];exact hids,e3⟩
   clear f5 f69 f70 f71;intro fr Sa hJa;obtain⟨Wa,ua,f5,f13,f14,f69,f70,f71,hTa,hKa,hra,hWa,hids,he0⟩:=(hJ3 _ _).1 hJa;rw[if_neg (fun h=>h he0)]at hrec;have hsl:SlAt (fun r=>¬Wa r) Sa (.slx rl 0 c 1 c) 1 (ints (Jx ts tb).2.1):=by
    have hi:(ints (Jx ts tb).2.1).length=c:=by rw[<-hids];unfold ints;simp
    have:=SlAt.freshx (P:=fun r=>¬Wa r) (st:=Sa) (r:=rl) (t:=ua) (z:=1) (es:=ints (Jx ts tb).2.1) (by rw[hra,Jcb]) hWa (fun e he=>by unfold ints at he;obtain⟨x,_,rfl⟩:=List.mem_map.1 he;rfl);rw[hi]at this;exact this
   obtain⟨tt,lv2,ra2,rn2,rs2,rc2,tm2,ms2,hup,Tz,Kz⟩:=hTa.setSigs f.name hsl;have hup:=hup Sa rfl;have rna:Sa.row (up 0 nS)= .cells t5 [ofL f.name,pv, .int .i64 f.result.kind,ofL f.result.name,nv1,kv1]:=hKa.row r56 fun w=>by rcases w with w|w;exact q5 w;exact n5l w
   simp only[XZ,simprocAttr,f5,f13,f14,rc2,rna,hup,Jj,f71,hadd1];have K0a:Kept S0 (fun _=>False) Sa Wa:=fun r e n=>by
    have k6:=K6 r e n;have ne:r≠rl:=fun h=>by
     have:=g6.same r (by rw[(K5 r e n).1];exact e);rw[h,ql,r6]at this;cases this
    have k8:=hKa r (by rw[k6.1];exact e) (fun w=>by rcases w with w|w;exact k6.2 w;exact ne w);exact⟨by rw[k8.1,k6.1],fun w=>k8.2 (.inl w)⟩
   exact⟨fs.length-(i+1),by omega,(hI _ _ _).2 ⟨i+1,Wa,_,by omega,f5,f69,f70,rfl,Tz,K0a.trans Kz,hrec⟩⟩
  ·have hi':¬(i:Int)<fs.length:=by omega
   rw[List.drop_eq_nil_of_le (by omega),Kl]at hrec;simp only[XZ,simprocAttr,f70,f71,hi'];exact(hJ2 _ _).2 ⟨W,f5,by rw[hrec];exact hT,hK,by rw[hrec]⟩
 clear f1 f5;intro fr S hJf;obtain⟨W,f5,hT,hK,hz⟩:=(hJ2 _ _).1 hJf;rw[if_neg (fun h=>h hz)]at hnew;simp only[XZ,simprocAttr,f5];refine fin _ _ (kst hK) fun _=> ?_;rw[hnew];exact⟨rt,W,rfl,hT,fun r e _=>⟨kst hK r e,(hK r (by rw[g0.same r e];exact e) fun h=>h).2⟩⟩
end Go.Proofs.YtgmmjcgkklgeeaaGreat
