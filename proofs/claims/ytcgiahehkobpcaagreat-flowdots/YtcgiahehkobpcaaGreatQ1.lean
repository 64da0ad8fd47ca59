/- Slices copied: what Clone answers. The key of a node. A node laid in a table. A type ad -/
import Derived.Test.YtcgiahehkobpcaaGreatRel
set_option maxHeartbeats 4000000
set_option linter.unusedVariables false
set_option linter.unusedSimpArgs false
set_option linter.unusedSectionVars false
set_option maxRecDepth 100000
namespace Go.Proofs.YtcgiahehkobpcaaGreat
open Eva Go.RowKit
theorem JgN {P Q:Pt->Prop}{st:St}{v:V}{es:List (List V)}(hw:WF st)(h:SlAt P st v 1 es)(hok:okC es)(hn:es.length<2^20)(hQ:∀r,st.row r= .none->Q r):
  Does (tabT tabD) Jbj [v] st fun v' st'=>Gr st st'/\SlAt Q st' v' 1 es:=by
 refine Does.gr tabM hw (JA Jaz rfl ?_);obtain⟨n,hn0⟩:=nxE st;have hold:=fun r (h:st.row r≠ .none)=>YT hw hn0 h;rcases h.2 with⟨rfl,rfl⟩|⟨r,o,hp,hv,l,hl,h1,h2⟩
 ·have e1:eqV (.one .l) false .snil .snil=some (.bool true, .no):=rfl;simp only[J9,XZ,simprocAttr,e1];exact⟨fun _ _=>trivial,SlAt.nil _ _ _⟩
 ·have e1:eqV (.one .l) false v .snil=some (.bool false, .no):=by rcases hv with rfl|⟨c,_,rfl⟩<;>rfl
  have h':SlAt P (st.new fun t=> .cells t []) v 1 es:=h.imp fun r p e=>⟨p,Q6 hw _ e⟩
  have r0:=Ka st fun t=> .cells t [];have ha:appV (st.new fun t=> .cells t []) 1 (.slx st.nx 0 0 1 0) v=if 0<es.length then some (.sl (st.new fun t=> .cells t []).nx 0 es.length 1, .new fun u=> .cells u es.flatten)else some (.slx st.nx 0 0 1 0, .no):=by
   by_cases h0:0<es.length
   ·rw[if_pos h0];exact Jgn h' hok hn h0 r0
   ·rw[if_neg h0];have:es=[]:=List.length_eq_zero_iff.1 (by omega);subst this;exact Jet h'
  rw[hn0]at ha;by_cases h0:0<es.length
  ·simp only[h0]at ha;simp only[J9,XZ,simprocAttr,e1,hn0,JbE,ha];refine⟨fun r hr=>by simp only[hold r hr,if_false], ?_⟩;refine SlAt.fresh (t:=(st.new fun t=> .cells t []).t) (by simp only[XZ,simprocAttr,hn0]) (hQ _ ?_) h.1;exact nx0 hw hn0 1
  ·simp only[h0]at ha;simp only[J9,XZ,simprocAttr,e1,hn0,JbE,ha];refine⟨fun r hr=>by simp only[hold r hr,if_false], ?_⟩;have:es=[]:=List.length_eq_zero_iff.1 (by omega);subst this;exact SlAt.freshx (t:=st.t) (by simp only[XZ,simprocAttr,hn0,List.flatten_nil]) (hQ _ (nx0 hw hn0 0)) h.1
theorem JbY {P Q:Pt->Prop}{st:St}{v:V}{es:List (List V)}(hw:WF st)(h:SlAt P st v 1 es)(hok:okC es)(hn:es.length<2^20)(hQ:∀r,st.row r= .none->Q r):
  Does (tabT tabD) qm [v] st fun v' st'=>Gr st st'/\SlAt Q st' v' 1 es:=by
 refine Does.gr tabM hw (JA j9 rfl ?_);obtain⟨n,hn0⟩:=nxE st;have hold:=fun r (h:st.row r≠ .none)=>YT hw hn0 h;rcases h.2 with⟨rfl,rfl⟩|⟨r,o,hp,hv,l,hl,h1,h2⟩
 ·have e1:eqV (.one .l) false .snil .snil=some (.bool true, .no):=rfl;simp only[JP,XZ,simprocAttr,e1];exact⟨fun _ _=>trivial,SlAt.nil _ _ _⟩
 ·have e1:eqV (.one .l) false v .snil=some (.bool false, .no):=by rcases hv with rfl|⟨c,_,rfl⟩<;>rfl
  have h':SlAt P (st.new fun t=> .cells t []) v 1 es:=h.imp fun r p e=>⟨p,Q6 hw _ e⟩
  have r0:=Ka st fun t=> .cells t [];have ha:appV (st.new fun t=> .cells t []) 1 (.slx st.nx 0 0 1 0) v=if 0<es.length then some (.sl (st.new fun t=> .cells t []).nx 0 es.length 1, .new fun u=> .cells u es.flatten)else some (.slx st.nx 0 0 1 0, .no):=by
   by_cases h0:0<es.length
   ·rw[if_pos h0];exact Jgn h' hok hn h0 r0
   ·rw[if_neg h0];have:es=[]:=List.length_eq_zero_iff.1 (by omega);subst this;exact Jet h'
  rw[hn0]at ha;by_cases h0:0<es.length
  ·simp only[h0]at ha;simp only[JP,XZ,simprocAttr,e1,hn0,JbE,ha];refine⟨fun r hr=>by simp only[hold r hr,if_false], ?_⟩;refine SlAt.fresh (t:=(st.new fun t=> .cells t []).t) (by simp only[XZ,simprocAttr,hn0]) (hQ _ ?_) h.1;exact nx0 hw hn0 1
  ·simp only[h0]at ha;simp only[JP,XZ,simprocAttr,e1,hn0,JbE,ha];refine⟨fun r hr=>by simp only[hold r hr,if_false], ?_⟩;have:es=[]:=List.length_eq_zero_iff.1 (by omega);subst this;exact SlAt.freshx (t:=st.t) (by simp only[XZ,simprocAttr,hn0,List.flatten_nil]) (hQ _ (nx0 hw hn0 0)) h.1
theorem keyed {P:Pt->Prop}{st:St}{e:List V}{nd:Nd}(hw:WF st)(h:NdC P st e nd)(hf:nd.fit):
  Does (tabT tabD) JhD [.agg e] st fun v st'=>Gr st st'/\v= .agg (keyL nd):=by
 refine Does.gr tabM hw (JA JfA rfl ?_);obtain⟨n,hn0⟩:=nxE st;have hold:=fun r (h:st.row r≠ .none)=>YT hw hn0 h;obtain⟨nv,kv,rfl,h1,h2⟩:=h;have l1:=h1.len;have l2:=h2.len;rw[QW]at l1;rw[kj]at l2;simp only[Yc,XZ,simprocAttr,hn0,h1.cells,h2.cells,h1.sc,h2.sc,l1,l2,List.getElem?_cons_zero,List.getElem?_cons_succ];have hS:=fun(r:Pt) (hr:st.row r≠ .none)=>hold r hr;refine JlT (st0:=st) (t:= ?t) (l:= ?l) h1 ?hS (JbI _) ?hr ?hle ?hn ?k
 case hr=>simp only[XZ,simprocAttr,hn0];rfl
 case hS=>intro r hr;simp only[XZ,simprocAttr,hn0,hold r hr]
 case hle=>simp only[XZ,simprocAttr]
 case hn=>rw[QW];exact hf.1
 intro S1 t1 r1 o1 n1;have q0:S1.row (up 0 n)= .cells _ _:=(o1 _ (by simp only[JaJ];decide)).trans (by simp only[XZ,simprocAttr,hn0];rfl);have q1:S1.row (up 1 n)= .cells _ _:=(o1 _ (by simp only[JaJ];decide)).trans (by simp only[XZ,simprocAttr,hn0];rfl);have eo:∀r,st.row r≠ .none->S1.row r=st.row r:=fun r hr=>(o1 r (JE hw hn0 hr 2)).trans (by simp only[XZ,simprocAttr,hn0,hold r hr]);have m1:S1.nx=up 3 n:=n1.trans (by simp only[XZ,simprocAttr,hn0]);clear o1 n1;rw[Jgo,JtM _ _ _ _ _ _ _ (by simpa using hf.1)]at r1;obtain⟨L1,hL1⟩:∃L,L=[V.int IntKind.i64 nd.kind,V.int IntKind.i64 ↑nd.names.length,V.int IntKind.i64 ↑nd.kids.length,ofL nd.name]++(pad (nd.names.map ofL) (ofL [])++List.replicate 8 (V.int IntKind.i64 0)):=⟨_,rfl⟩
 rw[<-hL1]at r1;have h12:20<=L1.length:=by
  rw[hL1,List.length_append,List.length_append,Jdx (by simpa using hf.1),List.length_replicate];exact Nat.le_refl _
 simp only[XZ,simprocAttr,r1,q0,q1,h12];refine JlT (st0:=st) h2 eo (Jhg _) r1 h12 (by rw[kj];exact hf.2) ?_;intro S2 t2 r2 o2 n2;have q1:S2.row (up 1 n)= .cells _ _:=(o2 _ (by simp only[JaJ];decide)).trans q1;have eo:∀r,st.row r≠ .none->S2.row r=st.row r:=fun r hr=>(o2 r (JE hw hn0 hr 2)).trans (eo r hr);have m1:S2.nx=up 3 n:=n2.trans m1;clear o2 n2;rw[Jgp,hL1,JtN _ _ _ _ _ _ _ _ (by simpa using hf.1) (by simpa using hf.2)]at r2;have r2:S2.row (up 2 n)= .cells t2 (keyL nd):=r2;have k1:=qA hf;have k2:20<=(keyL nd).length:=by rw[k1];decide
 have k3:(keyL nd).take 20=keyL nd:=by rw[<-k1,List.take_length]
 simp only[XZ,simprocAttr,r2,q1,k2,k3,k1,Jdy];exact fun r hr=>by simp only[hold r hr,if_false];exact eo r hr
theorem lay {W F P:Pt->Prop}{st:St}{rt:Pt}{tb:Tb}{e:List V}{nd:Nd}(hw:WF st)(hT:Tab W F st rt tb)(hn:NdC P st e nd)(hf:nd.fit):
  Does (tabT tabD) jM [.ptr rt 0, .agg e] st fun v st'=>Ch W st st'/\(∃W' F':Pt->Prop,(∀r,W r->W' r)/\(∀r,W' r->W r\/st.row r= .none)/\(∀r,F' r->F r\/st.row r= .none)/\Tab W' F' st' rt (layS tb nd).1)/\v= .tup [.int .i64 ((layS tb nd).2.1:Nat), .int .i64 (layS tb nd).2.2]:=by
 refine Does.ch tabM hw (JA jl rfl ?_);obtain⟨lv,ra,rn,rs,es,sv,hT⟩:=hT.live;obtain⟨n,hn0⟩:=nxE st;have hnd:=hn;obtain⟨nv,kv,rfl,h1,h2⟩:=hn;have g0:Gr st (st.new fun t=> .cells t [.int .i64 nd.kind,ofL nd.name,nv,kv]):=Gr.new hw fun u=>⟨rfl,fun e=>by cases e⟩
 simp only[KT,XZ,simprocAttr,hn0,h1.cells,h2.cells,h1.sc,h2.sc];refine Je (keyed (P:=P) g0.wf (hnd.gr g0) hf) ?_;rintro _ st1 ⟨g1,rfl⟩;have G1:=g0.trans g1;have w1:=G1.wf;have b0:st1.row (up 0 n)= .cells st.t [.int .i64 nd.kind,ofL nd.name,nv,kv]:=g1.cells (by simp only[XZ,simprocAttr,hn0]);have hT1:=hT.gr G1;have hnd1:=hnd.gr G1;obtain⟨n1,hn1⟩:=nxE st1;have hold1:=fun r (h:st1.row r≠ .none)=>YT w1 hn1 h;have o0:=hold1 (up 0 n) (by rw[b0];exact fun e=>by cases e);obtain⟨tt,c1⟩:=hT1.cell;have ort:=hold1 rt hT1.rt_ne;have k1:=qA hf;have k2:20<=(keyL nd).length:=by rw[k1];decide
 have k3:(keyL nd).take 20=keyL nd:=by rw[<-k1,List.take_length]
 have hfit:ekN.fit (encN nd)=true:=by
  have:(keyL nd).length==20:=by rw[k1];rfl
  exact this
 have heq:∀p∈(tb.nodes.zipIdx.map fun p=>(p.1,V.int .i64 (p.2:Int))),ekN.eq (encN nd) (encN p.1)=some (decide (nd=p.1)):=fun p hp=>by
  obtain⟨q,hq,rfl⟩:=List.mem_map.1 hp;exact Jop hf (hT1.fit _ (List.fst_mem_of_mem_zipIdx hq))
 have hlk:∀S:St,S.row ra=st1.row ra->lookupV S ekN (.int .i64 0) true (.map ra) (.agg (keyL nd))=some (ansL (.int .i64 0) true (at_ nd (tb.nodes.zipIdx.map fun p=>(p.1,V.int .i64 (p.2:Int)))), .no):=fun S hS=>
  jz (enc:=encN) (hT1.key.of hS) _ _ nd heq hfit
 have ora:=hold1 ra hT1.key.ne;have k4:splice [V.int .i64 0,V.int .i64 0,V.int .i64 0,ofL [],ofL [],ofL [],ofL [],ofL [],ofL [],ofL [],ofL [],ofL [],V.int .i64 0,V.int .i64 0,V.int .i64 0,V.int .i64 0,V.int .i64 0,V.int .i64 0,V.int .i64 0,V.int .i64 0] 0 (keyL nd)=keyL nd:=YJ (by rw[k1];rfl);have hlay:layS tb nd=match idx nd tb.nodes 0 with
  |some i=>(tb,i,0)
  |none=>if 120<=tb.nodes.length then(tb,0,20)else({tb with nodes:=tb.nodes++[nd]},tb.nodes.length,0):=rfl
 have g2:Gr st1 ((st1.new fun t=> .cells t zk).wr (up 0 n1) st1.t fun u=> .cells u (keyL nd)):=(Gr.refl w1).nw hn1 (Ja _) (Ja _);have hz:=Jdz nd tb.nodes 0
 cases hi:idx nd tb.nodes 0 with
 | some i=>
   simp only[hi]at hlay hz;obtain⟨_,i1,i2⟩:=Jkm hi;simp only[Nat.sub_zero]at i1 i2;have i3:i<es.length:=by rw[hT.len];exact i1
   obtain⟨q,qo,a1,a2,a3,a4,a5,a6⟩:=hT1.elem i3;have oq:=hold1 q a2;simp only[XM,simprocAttr,b0,hn1,o0,ort,c1,k1,k2,k3,Jdy,k4,hlk,ora,hz,Option.map_some,ansL,a1,oq,a5];refine JF (keyed (KN g2.wf _) (((hT1.nd i i3 i1).gr g2).low _) (hT1.fit _ (List.getElem_mem i1))) ?_;rintro _ st3 g3 rfl;rw[i2];have kk:st3.row (up 0 n1)= .cells _ (keyL nd):=g3.cells (by simp only[XZ,simprocAttr,hn1];rfl);have l1:(padI nd.kids).length=8:=by have:=hf.2;simp[padI];omega
   simp only[XZ,simprocAttr,k1,k2,Jgr hf,kk,JlU l1];rw[hlay];have G3:=G1.trans (g2.trans g3);exact⟨fun r h _=>G3.same r h,⟨W,_,fun _ h=>h,fun _ h=> .inl h,fun _ h=> .inl h.1,lv,ra,rn,rs,es,sv,hT.gr G3⟩,rfl⟩
 | none=>
   simp only[hi]at hlay hz;simp only[XM,simprocAttr,b0,hn1,o0,ort,c1,k1,k2,k3,Jdy,k4,hlk,ora,hz,Option.map_none,ansL,hT1.l.len];by_cases h120:120<=tb.nodes.length
   ·have h120':(120:Int)<=(tb.nodes.length:Int):=by omega
    simp only[XZ,simprocAttr,h120'];rw[hlay,if_pos h120];have G3:=G1.trans g2;exact⟨fun r h _=>by have:=G3.same r h;simpa only[Kb,Jo,hn1]using this,⟨W,_,fun _ h=>h,fun _ h=> .inl h,fun _ h=> .inl h.1,lv,ra,rn,rs,es,sv,hT.gr G3⟩,rfl⟩
   have h120':¬(120:Int)<=(tb.nodes.length:Int):=by omega
   simp only[XZ,simprocAttr,h120',b0,o0,hn1];refine JF (JbY (Q:=fun r=>st.row r= .none/\¬W r/\r≠up 0 n) (KN g2.wf _) (((h1.gr G1).gr g2).low _) (JbI _) (by rw[QW];have:=hf.1;omega) ?_) ?_
   ·exact fun r hr=>⟨Ch.fresh (Ch.of W (G1.trans g2)) hr,fun w=>hT.own r w (by rw[<-(G1.trans g2).same r (hT.own r w)];exact hr),fun e=>Jd (g2.cells b0) (by rw[<-e];exact hr)⟩
   rintro nv' st3 g3 c3;have c3:=c3.unlow;have b3:st3.row (up 0 n)= .cells _ _:=g3.cells (g2.cells b0);simp only[XZ,simprocAttr,b3];refine JF (JgN (Q:=fun r=>st.row r= .none/\¬W r/\r≠up 0 n) (KN g3.wf _) ((((h2.gr G1).gr g2).gr g3).low _) (Jhg _) (by rw[kj];have:=hf.2;omega) ?_) ?_
   ·exact fun r hr=>⟨Ch.fresh (Ch.of W ((G1.trans g2).trans g3)) hr,fun w=>hT.own r w (by rw[<-((G1.trans g2).trans g3).same r (hT.own r w)];exact hr),fun e=>Jd b3 (by rw[<-e];exact hr)⟩
   rintro kv' st4 g4 c4;have c4:=c4.unlow;have c3:=c3.gr g4;have b4:st4.row (up 0 n)= .cells _ _:=g4.cells b3;have kk:st4.row (up 0 n1)= .cells _ (keyL nd):=g4.cells (g3.cells (by simp only[XZ,simprocAttr,hn1];rfl));have G4:Gr st st4:=((G1.trans g2).trans g3).trans g4;have hT4:=hT.gr G4;obtain⟨t4,d4⟩:=hT4.cell;obtain⟨t5,m5⟩:=hT4.key;have hne1:=nes (JE hw hn0 hT.rt_ne 0);have hne2:=nes (JE w1 hn1 hT1.rt_ne 0);have hne3:=nes (JE hw hn0 hT.key.ne 0);have hne4:=nes (JE w1 hn1 (Jd b0) 0);have hne5:=nes (show rt≠ra from fun e=>by rw[e,m5]at d4;cases d4);have hne6:=nes (JE w1 hn1 hT1.key.ne 0);have hmu:∀(S:St) (v:V),S.row ra=st4.row ra->mupdV S ekN (.map ra) (.agg (keyL nd)) v=_:=fun S v hS=>Jqu (enc:=encN) (hS.trans m5) nd v heq hfit;obtain⟨n4,hn4⟩:=nxE st4;have w4:=g4.wf;have hold4:=fun r (h:st4.row r≠ .none)=>YT w4 hn4 h;have o4a:=nes (JE w4 hn4 hT4.rt_ne 0);have o4b:=nes (JE w4 hn4 (Jd b4) 0);have o4c:=nes (JE w4 hn4 hT4.key.ne 0);have o4d:=nes (JE w4 hn4 hT4.rt_ne 1);have gw:Gr st1 st1:=Gr.refl w1;have wS:WF ((((st4.wr (up 0 n) st.t fun u=>Row.cells u [V.int IntKind.i64 nd.kind,ofL nd.name,nv',kv]).wr (up 0 n) st4.t fun u=>Row.cells u [V.int IntKind.i64 nd.kind,ofL nd.name,nv',kv']).wr ra t5 fun u=>Row.mob u
        (List.map (fun p=>(encN p.fst,p.snd)) (Jfm nd (V.int IntKind.i64 ↑tb.nodes.length) (List.map (fun p=>(p.fst,V.int IntKind.i64 ↑p.snd)) tb.nodes.zipIdx)))).new fun u=>Row.cells u [V.int IntKind.i64 nd.kind,ofL nd.name,nv',kv']):=by
    refine(kf (YR (YR (YR w4 (Jd b4) (by rw[b4];rfl) (Ja _)).wf ?_ ?_ (Ja _)).wf ?_ ?_ (JbK _)).wf (Ja _)).wf
    all_goals simp only[Jo,hne3,if_true,if_false,m5]
    ·exact fun e=>by cases e
    ·rfl
    ·exact fun e=>by cases e
    ·rfl
   have hm5:st4.row ra≠ .none:=hT4.key.ne;simp only[XZ,simprocAttr,b4,kk,d4,c3.cells,c4.cells,c3.sc,c4.sc,hne1,hne2,hne3,hne4,hne5,hne6,k2,k3,hT4.l.len,hmu,hn4];refine Joq (rt:=rt) (hT4.l.imp fun r t hr1 hr2 hr3=> ?_) (tq:= ?tq) (new:=[V.int IntKind.i64 nd.kind,ofL nd.name,nv',kv']) ?hq rfl ?hsc (by omega) wS ?_
   ·have e1:=nes (JE w4 hn4 (Jd hr3) 0);have e2:=nes (JE hw hn0 (hT.own r hr1) 0);have e3:=nes (show r≠ra from fun e=>by rw[e,m5]at hr3;cases hr3);simp only[Kb,Jo,ki,hn4,e1,e2,e3,if_false]
   case hq=>simp only[Kb,Jo,ki,hn4,if_true];rfl
   case hsc=>simp only[XZ,simprocAttr,c3.sc,c4.sc]
   intro S5 t6 r5 n5 s5 x5 _;simp only[YF,ki,hn4,Yw,Nat.reduceAdd,Nat.zero_add]at r5 n5;have f5:∀r,r≠up 1 n4->rowOf lv≠some r->r≠up 0 n4->r≠ra->r≠up 0 n->S5.row r=st4.row r:=fun r a1 a2 a3 a4 a5=>by
    rw[s5 r (by simp only[YF,ki,hn4,Yw];exact a1) a2];simp only[Kb,Jo,ki,hn4,a3,a4,a5,if_false]
   have hlr:rowOf lv≠some rt:=fun e=>(hT.l.row e).2.1 rfl;have d5:S5.row rt= .cells t4 [lv, .map ra, .map rn, .int .i64 tb.main, .map rs]:=by
    rw[f5 rt (JE w4 hn4 hT4.rt_ne 1) hlr (JE w4 hn4 hT4.rt_ne 0) (by have:=hne5.1;simpa using this) (JE hw hn0 hT.rt_ne 0),d4]
   simp only[XZ,simprocAttr,d5,hn4,Jg9];rw[hlay,if_neg h120];have q1:st4.row (up 1 n4)= .none:=nx0 w4 hn4 1;have q2:st.row (up 1 n4)= .none:=Classical.byContradiction fun e=>by rw[G4.same _ e]at q1;exact e q1
   refine⟨fun r hr hW=> ?_,⟨fun r=>W r\/r=up 1 n4,fun r=>(F r/\st.row r≠ .none)\/(st.row r= .none/\¬W r/\r≠up 1 n4),fun r w=> .inl w, ?_, ?_, .sl (up 1 n4) 0 (tb.nodes.length+1) 4,ra,rn,rs,es++[[.int .i64 nd.kind,ofL nd.name,nv',kv']],sv,hT.push q2 ⟨S5.t, ?_⟩ ⟨t6, ?_⟩ ⟨(((st4.wr (up 0 n) st.t fun u=>Row.cells u [V.int IntKind.i64 nd.kind,ofL nd.name,nv',kv]).wr (up 0 n) st4.t fun u=>Row.cells u [V.int IntKind.i64 nd.kind,ofL nd.name,nv',kv'])).t, ?_⟩ ?_ ?_ (fun r f=> .inl f) ?_ ?_ hf hi (by omega)⟩, ?_⟩
   ·have e1:r≠rt:=fun e=>hW (by rw[e];exact hT.w.1);have e4:st4.row r≠ .none:=by rw[G4.same r hr];exact hr
    simp only[e1,if_false];rw[f5 r (JE w4 hn4 e4 1) (fun e=>hW (hT.l.row e).1) (JE w4 hn4 e4 0) (fun e=>hW (by rw[e];exact hT.w.2.1)) (JE hw hn0 hr 0),G4.same r hr]
   ·rintro r (w|rfl)
    ·exact .inl w
    ·exact .inr q2
   ·rintro r (f|f)
    ·exact .inl f.1
    ·exact .inr f.1
   ·simp only[Jo,if_true]
   ·simp only[Jo,o4d,if_false];exact r5
   ·simp only[Jo,hne5,if_false];rw[s5 ra (by simp only[YF,ki,hn4,Yw];exact JE w4 hn4 hm5 1) (fun e=>by obtain⟨_,_,t2,h2⟩:=hT4.l.row e;rw[h2]at m5;cases m5)];simp only[Kb,Jo,ki,hn4,o4c,if_true,if_false]
   ·intro r hr a1 a2 a3;have hr4:st4.row r≠ .none:=by rw[G4.same r hr];exact hr
    simp only[Jo,a1,if_false];rw[f5 r (JE w4 hn4 hr4 1) a3 (JE w4 hn4 hr4 0) a2 (JE hw hn0 hr 0),G4.same r hr]
   ·intro r hr;have hr4:st4.row r≠ .none:=by rw[G4.same r hr];exact hr
    simp only[Jo]
    split
    ·exact fun e=>by cases e
    ·refine x5 r ?_;simp only[Kb,Jo,ki,hn4]
     repeat' split
     all_goals first|exact hr4|exact fun e=>by cases e
   ·rintro r (f|f)
    ·exact⟨hT.fw r f,fun e=>f.2 (by rw[e];exact q2)⟩
    ·exact f.2
   ·refine⟨nv',kv',rfl,c3.imp fun r p e=> ?_,c4.imp fun r p e=> ?_⟩
    all_goals
     refine⟨.inr ⟨p.1,p.2.1,JE w4 hn4 e 1⟩, ?_⟩;have e1:r≠rt:=fun k=>p.2.1 (by rw[k];exact hT.w.1);simp only[Jo,e1,if_false];exact f5 r (JE w4 hn4 e 1) (fun k=>p.2.1 (hT.l.row k).1) (JE w4 hn4 e 0) (fun k=>p.2.1 (by rw[k];exact hT.w.2.1)) p.2.2
   ·rw[Jx (by omega) (by omega)];simp
def AddPost (W F:Pt->Prop)(st st':St)(rt lp:Pt)(tb':Tb)(left':Int):Prop:=
 Ch (fun r=>W r\/r=lp) st st'/\(∃W' F':Pt->Prop,(∀r,W r->W' r)/\(∀r,W' r->W r\/st.row r= .none)/\(∀r,F' r->F r\/st.row r= .none)/\Tab W' F' st' rt tb')/\∃t,st'.row lp= .cells t [.int .i64 left']
theorem JqQ (x:Tb×List Nat×Int×Int):pre [] x=x:=by simp[pre]
structure AddI (W F:Pt->Prop) (st:St) (rt lp:Pt) (n:Pt) (k:Int) (nm:Str) (nv kv:V) (ks:List Ty) (left:Int) (tb:Tb) (j:Nat) (fr:Fr) (S:St) (i:Nat) (Wi Fi:Pt->Prop) (tbi:Tb) (lefti:Int) (ids:List Nat) (kvi:V) (tli tp:Nat):Prop where
 hj:j+i=ks.length
 f0:fr 0= .ptr rt 0
 f2:fr 2= .ptr lp 0
 f8:fr 8= .ptr (up 1 n) 0
 f42:fr 42=kv
 f43:fr 43= .int .i64 ks.length
 f44:fr 44= .int .i64 i
 ch:Ch (fun r=>W r\/r=lp) st S
 w1:∀r,W r->Wi r
 w2:∀r,Wi r->W r\/st.row r= .none
 w3:∀r,Fi r->F r\/st.row r= .none
 nw1:¬Wi (up 1 n)
 nw2:¬Wi lp
 nf1:¬Fi (up 1 n)
 nf2:¬Fi lp
 tab:Tab Wi Fi S rt tbi
 rlp:S.row lp= .cells tli [.int .i64 lefti]
 rn:S.row (up 1 n)= .cells tp [.int .i64 k,ofL nm,nv,kvi]
 ls:LsAt (fun r=>¬Wi r/\¬Fi r/\st.row r= .none/\r≠up 1 n) S lp kvi 1 ids.length (ids.map fun a:Nat=>V.int .i64 (a:Int))
 hids:ids.length=i
 l0:0<=lefti
 l1:lefti<=left
 rec_:addTs ks (left-1) tb=pre ids (addTs (ks.drop i) lefti tbi)
theorem add :∀(m:Nat) (ty:Ty),tsz ty<m->∀(W F P:Pt->Prop) (st:St) (rt lp:Pt) (tb:Tb) (e:List V) (left:Int) (tl:Nat),WF st->Tab W F st rt tb->TyC P st e ty->(∀r,P r->¬W r/\r≠lp)->st.row lp= .cells tl [.int .i64 left]->¬W lp->¬F lp->0<=left->left<1000000->
  Does (tabT tabD) JcH [.ptr rt 0, .agg e, .ptr lp 0] st fun v st'=>AddPost W F st st' rt lp (addT ty left tb).1 (addT ty left tb).2.2.2/\v= .tup [.int .i64 ((addT ty left tb).2.1:Nat), .int .i64 (addT ty left tb).2.2.1]
 |0,_,h=>absurd h (by omega)
 | m+1, .mk k nm ns ks,hm=>by
   intro W F P st rt lp tb e left tl hw hT hx hP hlp hWl hFl h0 h1;have hadd:=Q7 k nm ns ks left tb;refine(Does.mon tabM hw (JA (Q:=fun v st'=>(∀r,st.row r≠ .none->¬(W r\/r=lp)->st'.row r=st.row r)/\(∃W' F':Pt->Prop,(∀r,W r->W' r)/\(∀r,W' r->W r\/st.row r= .none)/\(∀r,F' r->F r\/st.row r= .none)/\Tab W' F' st' rt (addT (.mk k nm ns ks) left tb).1)/\(∃t,st'.row lp= .cells t [.int .i64 (addT (.mk k nm ns ks) left tb).2.2.2])/\v= .tup [.int .i64 ((addT (.mk k nm ns ks) left tb).2.1:Nat), .int .i64 (addT (.mk k nm ns ks) left tb).2.2.1]) Jb4 rfl ?_)).mono fun v st' ⟨mn,a,b,c,d⟩=>⟨⟨⟨mn.mono,a⟩,b,c⟩,d⟩
   obtain⟨n,hn0⟩:=nxE st;have hold:=fun r (h:st.row r≠ .none)=>YT hw hn0 h;obtain⟨nv,kv,es,rfl,x1,x2,x3,x4⟩:=hx.inv';have l1:=x1.len;have l2:=x2.len;rw[QW]at l1;rw[x3]at l2;have olp:=fun k=>nes (JE hw hn0 (Jd hlp) k);have ort:=fun k=>nes (JE hw hn0 (by obtain⟨_,_,_,_,_,_,h⟩:=hT;exact h.rt_ne) k);have rtlp:=nes (show rt≠lp from fun e=>hWl (by obtain⟨_,_,_,_,_,_,h⟩:=hT;rw[<-e];exact h.w.1));have hleft:IntKind.i64.wrap (left-1)=left-1:=Jx (by omega) (by omega);have e0:Gr st (st.new fun t=> .cells t [.int .i64 k,ofL nm,nv,kv]):=Gr.new hw (Ja _);by_cases c1:left-1<0\/8<ks.length\/8<ns.length
   ·rw[hadd,if_pos c1];have fin:∀S:St,(∀r,st.row r≠ .none->¬(r=lp)->S.row r=st.row r)->(S.row lp= .cells (st.t+1) [.int .i64 (left-1)])->(∀r,st.row r≠ .none->¬(W r\/r=lp)->S.row r=st.row r)/\(∃W' F':Pt->Prop,(∀r,W r->W' r)/\(∀r,W' r->W r\/st.row r= .none)/\(∀r,F' r->F r\/st.row r= .none)/\Tab W' F' S rt tb)/\(∃t,S.row lp= .cells t [.int .i64 (left-1)]):=fun S h1 h2=>
     ⟨fun r e n=>h1 r e fun k=>n (.inr k),⟨W,F,fun _ w=>w,fun _ w=> .inl w,fun _ w=> .inl w,hT.keep fun r w e=>h1 r e fun k=>by rw[k]at w;rcases w with w|w;exact hWl w;exact hFl w⟩,_,h2⟩
    have fin2:∀r,st.row r≠ .none->¬(r=lp)->((st.new fun t=> .cells t [.int .i64 k,ofL nm,nv,kv]).wr lp tl fun u=> .cells u [.int .i64 (left-1)]).row r=st.row r:=fun r e n=>by simp only[Jo,Kb,hn0,hold r e,n,if_false]
    have F:=fin _ fin2 (by rw[J7];rfl);by_cases d1:left-1<0
    ·simp only[Kf,XZ,Nat.reduceEqDiff,↓reduceIte,reduceCtorEq,Int.reduceToNat,Nat.reduceAdd,Nat.reduceMul,Int.reduceAdd,Int.reduceSub,Int.reduceLE,Int.reduceLT,Int.reduceNeg,Int.reduceMul,Int.reduceEq,Int.reduceNe,Nat.reduceLeDiff,Nat.reduceSub,hn0,x1.cells,x2.cells,x1.sc,x2.sc,l1,l2,olp,hlp,hleft,d1];exact⟨fun r e n=>by have:=F.1 r e n;simpa only[Jo,Kb,hn0]using this,F.2.1,⟨_,rfl⟩,rfl⟩
    by_cases d2:(8:Int)<ks.length
    ·simp only[Kf,XZ,Nat.reduceEqDiff,↓reduceIte,reduceCtorEq,Int.reduceToNat,Nat.reduceAdd,Nat.reduceMul,Int.reduceAdd,Int.reduceSub,Int.reduceLE,Int.reduceLT,Int.reduceNeg,Int.reduceMul,Int.reduceEq,Int.reduceNe,Nat.reduceLeDiff,Nat.reduceSub,hn0,x1.cells,x2.cells,x1.sc,x2.sc,l1,l2,olp,hlp,hleft,d1,d2];exact⟨fun r e n=>by have:=F.1 r e n;simpa only[Jo,Kb,hn0]using this,F.2.1,⟨_,rfl⟩,rfl⟩
    have d3:(8:Int)<ns.length:=by rcases c1 with c|c|c<;>omega
    simp only[Kf,XZ,Nat.reduceEqDiff,↓reduceIte,reduceCtorEq,Int.reduceToNat,Nat.reduceAdd,Nat.reduceMul,Int.reduceAdd,Int.reduceSub,Int.reduceLE,Int.reduceLT,Int.reduceNeg,Int.reduceMul,Int.reduceEq,Int.reduceNe,Nat.reduceLeDiff,Nat.reduceSub,hn0,x1.cells,x2.cells,x1.sc,x2.sc,l1,l2,olp,hlp,hleft,d1,d2,d3];exact⟨fun r e n=>by have:=F.1 r e n;simpa only[Jo,Kb,hn0]using this,F.2.1,⟨_,rfl⟩,rfl⟩
   ·have c2:¬left-1<0:=fun e=>c1 (.inl e);have c3:¬(8:Int)<ks.length:=fun e=>c1 (.inr (.inl (by omega)));have c4:¬(8:Int)<ns.length:=fun e=>c1 (.inr (.inr (by omega)));rw[hadd,if_neg c1];simp only[Kf,XZ,Nat.reduceEqDiff,↓reduceIte,reduceCtorEq,Int.reduceToNat,Nat.reduceAdd,Nat.reduceMul,Int.reduceAdd,Int.reduceSub,Int.reduceLE,Int.reduceLT,Int.reduceNeg,Int.reduceMul,Int.reduceEq,Int.reduceNe,Nat.reduceLeDiff,Nat.reduceSub,hn0,x1.cells,x2.cells,x1.sc,x2.sc,l1,l2,olp,hlp,hleft,c2,c3,c4];have g1:Gr st ((st.new fun t=> .cells t [.int .i64 k,ofL nm,nv,kv])):=e0;refine JK (fun j fr S=>∃i Wi Fi tbi lefti ids kvi tli tp,AddI W F st rt lp n k nm nv kv ks left tb j fr S i Wi Fi tbi lefti ids kvi tli tp) ks.length (by omega) ?_ ?_
    ·refine⟨0,W,fun r=>F r/\st.row r≠ .none,tb,left-1,[], .snil, ?ta, ?tb,⟨by omega, ?_, ?_, ?_, ?_, ?_, ?_, ?ch,fun _ w=>w,fun _ w=> .inl w,fun _ w=> .inl w.1, ?_,hWl, ?_,fun w=>hFl w.1, ?tab, ?rlp, ?rn,⟨rfl, .inl ⟨rfl,rfl⟩⟩,rfl,by omega,by omega,(JqQ _).symm⟩⟩
     case rlp=>simp only[XZ,Nat.reduceEqDiff,↓reduceIte,reduceCtorEq,Int.reduceToNat,Nat.reduceAdd,Nat.reduceMul,Int.reduceAdd,Int.reduceSub,Int.reduceLE,Int.reduceLT,Int.reduceNeg,Int.reduceMul,Int.reduceEq,Int.reduceNe,Nat.reduceLeDiff,Nat.reduceSub,hn0,olp];rfl
     case rn=>simp only[XZ,Nat.reduceEqDiff,↓reduceIte,reduceCtorEq,Int.reduceToNat,Nat.reduceAdd,Nat.reduceMul,Int.reduceAdd,Int.reduceSub,Int.reduceLE,Int.reduceLT,Int.reduceNeg,Int.reduceMul,Int.reduceEq,Int.reduceNe,Nat.reduceLeDiff,Nat.reduceSub,hn0,olp];rfl
     case ch=>exact(((Ch.of _ e0).wr (Jd (e0.cells hlp)) (by rw[e0.cells hlp];rfl) (.inl (.inr rfl)) (Ja _))).nw (by simp only[ki,YF,hn0,Yw]) (Ja _) (Ja _)
     case tab=>
      refine hT.live.keep fun r w e=> ?_;have e1:r≠lp:=fun k=>by rw[k]at w;rcases w with w|w;exact hWl w;exact hFl w.1
      simp only[XZ,Nat.reduceEqDiff,↓reduceIte,reduceCtorEq,Int.reduceToNat,Nat.reduceAdd,Nat.reduceMul,Int.reduceAdd,Int.reduceSub,Int.reduceLE,Int.reduceLT,Int.reduceNeg,Int.reduceMul,Int.reduceEq,Int.reduceNe,Nat.reduceLeDiff,Nat.reduceSub,hn0,hold r e,e1]
     all_goals try simp only[XZ,Nat.reduceEqDiff,↓reduceIte,reduceCtorEq,Int.reduceToNat,Nat.reduceAdd,Nat.reduceMul,Int.reduceAdd,Int.reduceSub,Int.reduceLE,Int.reduceLT,Int.reduceNeg,Int.reduceMul,Int.reduceEq,Int.reduceNe,Nat.reduceLeDiff,Nat.reduceSub,hn0,olp]
     ·rfl
     ·obtain⟨_,_,_,_,_,_,hT⟩:=hT;exact fun w=>hT.own _ w (nx0 hw hn0 1)
     ·exact fun w=>w.2 (nx0 hw hn0 1)
    ·rintro j fr S ⟨i,Wi,Fi,tbi,lefti,ids,kvi,tli,tp,h⟩;have wS:=h.ch.wf;obtain⟨nS,hnS⟩:=nxE S;by_cases hi:i<ks.length
     ·have hi':(i:Int)<ks.length:=by omega
      have hie:i<es.length:=by omega
      obtain⟨q,qo,a1,a2,a3,a4,a5⟩:=x2.elem hie;have hSr:∀r,P r->st.row r≠ .none->S.row r=st.row r:=fun r p e=>h.ch.same r e fun w=>by rcases w with w|w;exact(hP r p).1 w;exact(hP r p).2 w
      have a4':ldn (S.row q) qo 4=some (.agg es[i], .no):=by rw[hSr q a2 a3];exact a4
      have oq:=fun k=>nes (JE wS hnS (by rw[hSr q a2 a3];exact a3) k);have hx4:=x4 i hie hi;obtain⟨E,hE⟩:∃E,E=es[i]:=⟨_,rfl⟩
      obtain⟨T,hT'⟩:∃T,T=ks[i]:=⟨_,rfl⟩
      rw[<-hE]at a4' hx4;rw[<-hT']at hx4;obtain⟨k',n',ns',ks'⟩:=T;obtain⟨nv',kv',es',rfl,y1,y2,y3,y4⟩:=hx4.inv';simp only[XZ,Nat.reduceEqDiff,↓reduceIte,reduceCtorEq,Int.reduceToNat,Nat.reduceAdd,Nat.reduceMul,Int.reduceAdd,Int.reduceSub,Int.reduceLE,Int.reduceLT,Int.reduceNeg,Int.reduceMul,Int.reduceEq,Int.reduceNe,Nat.reduceLeDiff,Nat.reduceSub,h.f0,h.f2,h.f8,h.f42,h.f43,h.f44,hi',a1,a4',hnS,oq,y1.cells,y2.cells,y1.sc,y2.sc];have gS:Gr S ((S.new fun t=> .cells t [.int .i64 0,ofL [], .snil, .snil]).wr (up 0 nS) S.t fun u=> .cells u [.int .i64 k',ofL n',nv',kv']):=(Gr.refl wS).nw hnS (Ja _) (Ja _);refine Je (add m (.mk k' n' ns' ks') (by rw[hT'];have:=jf (k:=k) (n:=nm) (ns:=ns) hi;omega) Wi Fi (fun r=>P r/\st.row r≠ .none) _ rt lp tbi _ lefti tli gS.wf (h.tab.gr gS) ((hx4.imp fun r p e=>⟨⟨p,e⟩,hSr r p e⟩).gr gS) (fun r p=>⟨fun w=>by rcases h.w2 r w with w|w;exact(hP r p.1).1 w;exact p.2 w,(hP r p.1).2⟩) (gS.cells h.rlp) h.nw2 h.nf2 h.l0 (by have:=h.l1;omega)) ?_;rintro _ S2 ⟨⟨c2,⟨W2,F2,b1,b2,b3,T2⟩,t2,lp2⟩,rfl⟩;have hrec:=h.rec_;rw[List.drop_eq_getElem_cons hi,<-hT']at hrec;have hlt:=qX (.mk k' n' ns' ks') lefti tbi h.l0;have hstep:=Jkk (ids:=ids) (t:= .mk k' n' ns' ks') (r:=ks.drop (i+1)) (left:=lefti) (tb:=tbi);have hstop:=Jkl (ids:=ids) (t:= .mk k' n' ns' ks') (r:=ks.drop (i+1)) (left:=lefti) (tb:=tbi);generalize addT (.mk k' n' ns' ks') lefti tbi=A at*;obtain⟨tb2,id2,er2,left2⟩:=A;simp only at*;have cS2:Ch (fun r=>W r\/r=lp) st S2:=(h.ch.gr gS).trans c2 fun r w=>by
       rcases w with w|w
       ·rcases h.w2 r w with w|w
        ·exact .inl (.inl w)
        ·exact .inr w
       ·exact .inl (.inr w)
      have hW2:∀r,W2 r->W r\/st.row r= .none:=fun r w=>by
       rcases b2 r w with w|w
       ·exact h.w2 r w
       ·exact .inr ((h.ch.gr gS).fresh w)
      have hF2:∀r,F2 r->F r\/st.row r= .none:=fun r w=>by
       rcases b3 r w with w|w
       ·exact h.w3 r w
       ·exact .inr ((h.ch.gr gS).fresh w)
      by_cases he:er2=0
      ·subst he;have hL2:=hrec.trans (hstep rfl);have S1n:∀r,S.row r≠ .none->((S.new fun t=> .cells t [.int .i64 0,ofL [], .snil, .snil]).wr (up 0 nS) S.t fun u=> .cells u [.int .i64 k',ofL n',nv',kv']).row r≠ .none:=fun r e=>by rw[gS.same r e];exact e
       have nW:∀r,S.row r≠ .none->¬Wi r->¬W2 r:=fun r e w w2=>by rcases b2 r w2 with k|k;exact w k;exact S1n r e k
       have nF:∀r,S.row r≠ .none->¬Fi r->¬F2 r:=fun r e w w2=>by rcases b3 r w2 with k|k;exact w k;exact S1n r e k
       have keep:∀r,S.row r≠ .none->¬Wi r->r≠lp->S2.row r=S.row r:=fun r e w n=>by
        rw[c2.same r (S1n r e) (fun x=>by rcases x with x|x;exact w x;exact n x),gS.same r e]
       have u1lp:up 1 n≠lp:=by have:=(olp 1).2;simpa using this
       have rn2:S2.row (up 1 n)= .cells tp [.int .i64 k,ofL nm,nv,kvi]:=by rw[keep _ (Jd h.rn) h.nw1 u1lp,h.rn]
       have hls:LsAt (fun r=>¬W2 r/\¬F2 r/\st.row r= .none/\r≠up 1 n) S2 lp kvi 1 ids.length (ids.map fun a:Nat=>V.int .i64 (a:Int)):=by
        refine⟨h.ls.1, ?_⟩;rcases h.ls.2 with l|⟨r,t,l1,l2,l3,l4⟩
        ·exact .inl l
        ·exact .inr ⟨r,t,l1,by rw[keep r (Jd l2) l3.1 l4,l2],⟨nW r (Jd l2) l3.1,nF r (Jd l2) l3.2.1,l3.2.2⟩,l4⟩
       have w2:=c2.wf;obtain⟨n2,hn2⟩:=nxE S2;have o2n:=fun k=>nes (JE w2 hn2 (Jd rn2) k);have o2l:=fun k=>nes (JE w2 hn2 (Jd lp2) k);simp only[XZ,Nat.reduceEqDiff,↓reduceIte,reduceCtorEq,Int.reduceToNat,Nat.reduceAdd,Nat.reduceMul,Int.reduceAdd,Int.reduceSub,Int.reduceLE,Int.reduceLT,Int.reduceNeg,Int.reduceMul,Int.reduceEq,Int.reduceNe,Nat.reduceLeDiff,Nat.reduceSub,h.f0,h.f2,h.f8,h.f42,h.f43,h.f44,rn2,hn2,o2n];refine Joq (rt:=lp) (hls.imp fun r t hr1 hr2 hr3=> ?_) (tq:= ?tq) (new:=[V.int IntKind.i64 id2]) ?hq rfl rfl (by have:=h.hids;omega) ?wf ?_
       ·have e1:=nes (JE w2 hn2 (Jd hr3) 0);simp only[Kb,Jo,ki,hn2,e1,if_false]
       case hq=>simp only[Kb,Jo,ki,hn2,if_true];rfl
       case wf=>exact(Gr.new w2 (Ja _)).wf
       intro S5 t6 r5 n5 s5 x5 m5;simp only[YF,ki,hn2,Yw,Nat.reduceAdd,Nat.zero_add]at r5 n5;have f5:∀r,S2.row r≠ .none->rowOf kvi≠some r->S5.row r=S2.row r:=fun r a1 a2=>by
        rw[s5 r (by simp only[YF,ki,hn2,Yw];exact JE w2 hn2 a1 1) a2];have e1:=nes (JE w2 hn2 a1 0);simp only[Kb,hn2,e1,if_false]
       have rn5:S5.row (up 1 n)= .cells tp [.int .i64 k,ofL nm,nv,kvi]:=by rw[f5 _ (Jd rn2) (fun e=>(hls.row e).1.2.2.2 rfl),rn2]
       have rl5:S5.row lp= .cells t2 [.int .i64 left2]:=(f5 _ (Jd lp2) (fun e=>(hls.row e).2.1 rfl)).trans lp2;have hadd1:IntKind.i64.wrap ((i:Int)+1)=((i+1:Nat):Int):=by rw[Jx (by omega) (by omega)];rfl
       have o1l:=nes u1lp;have o5:=fun k=>nes (JE w2 hn2 (Jd rn2) k);simp only[XZ,Nat.reduceEqDiff,↓reduceIte,reduceCtorEq,Int.reduceToNat,Nat.reduceAdd,Nat.reduceMul,Int.reduceAdd,Int.reduceSub,Int.reduceLE,Int.reduceLT,Int.reduceNeg,Int.reduceMul,Int.reduceEq,Int.reduceNe,Nat.reduceLeDiff,Nat.reduceSub,rn5,h.f0,h.f2,h.f8,h.f42,h.f43,h.f44,hn2,hadd1];have g5:Ch (fun r=>W r\/r=lp) st S5:=by
        refine cS2.trans (W':=fun r=>rowOf kvi=some r) ⟨(kf w2 (Ja [.int .i64 (id2:Int)])).trans m5,fun r e n=>f5 r e n⟩ fun r e=> .inr ((hls.row e).1.2.2.1)
       have ntop:st.row (up 1 n2)= .none:=cS2.fresh (nx0 w2 hn2 1);have w5W:∀r,S2.row r≠ .none->r≠up 1 n2:=fun r e=>JE w2 hn2 e 1;have hW5:¬W2 (up 1 n2):=fun w=>by obtain⟨_,_,_,_,_,_,hT2⟩:=T2;exact hT2.own _ w (nx0 w2 hn2 1)
       refine⟨ks.length-(i+1),by have:=h.hj;omega,i+1,W2,fun r=>F2 r/\S2.row r≠ .none,tb2,left2,ids++[id2], .sl (up 1 n2) 0 (ids.length+1) 1,t2,S5.t,⟨by omega, ?_, ?_, ?_, ?_, ?_, ?_, ?ch,fun r w=>b1 r (h.w1 r w),hW2,fun r w=>hF2 r w.1,nW _ (Jd h.rn) h.nw1,nW _ (Jd h.rlp) h.nw2,fun w=>nF _ (Jd h.rn) h.nf1 w.1,fun w=>nF _ (Jd h.rlp) h.nf2 w.1, ?tab, ?rlp, ?rn, ?ls,by simp[h.hids],hlt.2.2 rfl,by have:=h.l1;omega,hL2⟩⟩
       case ch=>exact g5.wr (Jd rn5) (by rw[rn5];rfl) (.inr (nx0 hw hn0 1)) (Ja _)
       all_goals try simp only[XZ,Nat.reduceEqDiff,↓reduceIte,reduceCtorEq,Int.reduceToNat,Nat.reduceAdd,Nat.reduceMul,Int.reduceAdd,Int.reduceSub,Int.reduceLE,Int.reduceLT,Int.reduceNeg,Int.reduceMul,Int.reduceEq,Int.reduceNe,Nat.reduceLeDiff,Nat.reduceSub,h.f0,h.f2,h.f8,h.f42,h.f43,h.f44]
       case tab=>
        refine T2.live.keep fun r w e=> ?_;have e1:r≠up 1 n:=fun k=>by
         rcases w with w|w
         ·exact nW _ (Jd h.rn) h.nw1 (by rw[<-k];exact w)
         ·exact nF _ (Jd h.rn) h.nf1 (by rw[<-k];exact w.1)
        rw[Jo,if_neg e1];refine f5 r e fun k=> ?_;rcases w with w|w
        ·exact(hls.row k).1.1 w
        ·exact(hls.row k).1.2.1 w.1
       case rlp=>simp only[o1l,if_false];exact rl5
       case ls=>
        refine⟨by simp, .inr ⟨up 1 n2,t6,by simp, ?_,⟨hW5,fun w=>w.2 (nx0 w2 hn2 1),ntop, ?_⟩, ?_⟩⟩
        ·rw[Jo,if_neg (w5W _ (Jd rn2)).symm,r5];simp
        ·exact fun e=>(w5W _ (Jd rn2)) e.symm
        ·exact fun e=>(w5W _ (Jd lp2)) e.symm
      ·have hL2:=hrec.trans (hstop he);have he':¬er2=0:=he;simp only[XZ,Nat.reduceEqDiff,↓reduceIte,reduceCtorEq,Int.reduceToNat,Nat.reduceAdd,Nat.reduceMul,Int.reduceAdd,Int.reduceSub,Int.reduceLE,Int.reduceLT,Int.reduceNeg,Int.reduceMul,Int.reduceEq,Int.reduceNe,Nat.reduceLeDiff,Nat.reduceSub,he',h.f0,h.f2,h.f8];rw[hL2];simp only[he',ne_eq,not_false_eq_true,if_true];exact⟨cS2.same,⟨W2,F2,fun r w=>b1 r (h.w1 r w),hW2,hF2,T2⟩,⟨t2,lp2⟩,rfl⟩
     ·have hie:i=ks.length:=by have:=h.hj;omega
      have hi':¬(i:Int)<ks.length:=by omega
      have hrec:=h.rec_;rw[hie,List.drop_length,Qw]at hrec;have hrec:addTs ks (left-1) tb=(tbi,ids,0,lefti):=by rw[hrec];simp[pre]
      rw[hrec];simp only[XZ,Nat.reduceEqDiff,↓reduceIte,reduceCtorEq,Int.reduceToNat,Nat.reduceAdd,Nat.reduceMul,Int.reduceAdd,Int.reduceSub,Int.reduceLE,Int.reduceLT,Int.reduceNeg,Int.reduceMul,Int.reduceEq,Int.reduceNe,Nat.reduceLeDiff,Nat.reduceSub,h.f0,h.f2,h.f8,h.f42,h.f43,h.f44,hi',h.rn];have hSr:∀r,P r->st.row r≠ .none->S.row r=st.row r:=fun r p e=>h.ch.same r e fun w=>by rcases w with w|w;exact(hP r p).1 w;exact(hP r p).2 w
      have hks:SlAt (fun _=>True) S kvi 1 (ints ids):=(LsAt.sl (es:=ints ids) (by rw[Jgp];exact h.ls) (Jew _) (kj _)).imp fun _ _ _=>⟨trivial,rfl⟩
      refine Je (lay (nd:=⟨k,nm,ns,ids⟩) wS h.tab ⟨nv,kvi,rfl,x1.imp fun r p e=>⟨trivial,hSr r p e⟩,hks⟩ ⟨(by show ns.length<=8;omega),(by show ids.length<=8;have:=h.hids;omega)⟩) ?_;rintro _ S2 ⟨c2,⟨W2,F2,b1,b2,b3,T2⟩,rfl⟩;simp only[XZ,Nat.reduceEqDiff,↓reduceIte,reduceCtorEq,Int.reduceToNat,Nat.reduceAdd,Nat.reduceMul,Int.reduceAdd,Int.reduceSub,Int.reduceLE,Int.reduceLT,Int.reduceNeg,Int.reduceMul,Int.reduceEq,Int.reduceNe,Nat.reduceLeDiff,Nat.reduceSub];refine⟨fun r e n=> ?_,⟨W2,F2,fun r w=>b1 r (h.w1 r w),fun r w=> ?_,fun r w=> ?_,T2⟩,tli, ?_⟩
      ·have e2:=h.ch.same r e n;rw[c2.same r (by rw[e2];exact e) fun w=>by rcases h.w2 r w with w|w;exact n (.inl w);exact e w,e2]
      ·rcases b2 r w with w|w
       ·exact h.w2 r w
       ·exact .inr (h.ch.fresh w)
      ·rcases b3 r w with w|w
       ·exact h.w3 r w
       ·exact .inr (h.ch.fresh w)
      ·rw[c2.same lp (Jd h.rlp) h.nw2,h.rlp]
theorem mainC {W F:Pt->Prop}{st:St}{rt:Pt}{tb:Tb}(hT:Tab W F st rt tb):Does (tabT tabD) Jb0 [.ptr rt 0] st fun v st'=>v= .int .i64 tb.main/\st=st':=by
 refine JA Ja6 rfl ?_;obtain⟨lv,ra,rn,rs,es,sv,hT⟩:=hT;obtain⟨t,c⟩:=hT.cell;simp only[KZ,XZ,simprocAttr,c]
theorem addTop {W F P:Pt->Prop}{st:St}{rt:Pt}{tb:Tb}{e:List V}{ty:Ty}(hw:WF st)(hT:Tab W F st rt tb)(hx:TyC P st e ty)(hP:∀r,P r->¬W r):
  Does (tabT tabD) JcF [.ptr rt 0, .agg e] st fun v st'=>Ch W st st'/\(∃W' F':Pt->Prop,(∀r,W r->W' r)/\(∀r,W' r->W r\/st.row r= .none)/\(∀r,F' r->F r\/st.row r= .none)/\Tab W' F' st' rt (addT ty 400 tb).1)/\v= .tup [.int .i64 ((addT ty 400 tb).2.1:Nat), .int .i64 (addT ty 400 tb).2.2.1]:=by
 refine JA Jb3 rfl ?_;obtain⟨n,hn0⟩:=nxE st;have e4:=hx.four;have etk:e.take 4=e:=by rw[<-e4,List.take_length]
 have edl:4<=e.length:=by omega
 have hsp:splice [V.int .i64 0] 0 [.int .i64 400]=[.int .i64 400]:=rfl;simp only[Qf,XM,simprocAttr,hn0,hx.ok,e4,etk,hsp];have gS:Gr st (((st.new fun t=> .cells t e).new fun t=> .cells t [.int .i64 0]).wr (up 1 n) (st.new fun t=> .cells t e).t fun u=> .cells u [.int .i64 400]):=(Gr.new hw (Ja _)).nw (by simp only[YF,hn0,Yw,Nat.zero_add]) (Ja _) (Ja _);obtain⟨lv,ra,rn,rs,es,sv,hT0⟩:=hT.live;have hT1:Tab W (fun r=>F r/\st.row r≠ .none) _ rt tb:=Tab.gr ⟨lv,ra,rn,rs,es,sv,hT0⟩ gS;have q1:=nx0 hw hn0 1;refine Je (add _ ty (Nat.lt_succ_self _) W _ (fun r=>P r/\st.row r≠ .none) _ rt (up 1 n) tb e 400 _ gS.wf hT1 ((hx.imp fun r p e=>⟨⟨p,e⟩,rfl⟩).gr gS) (fun r p=>⟨hP r p.1,fun k=>p.2 (by rw[k];exact q1)⟩) (by rw[J7]) (fun w=>hT0.own _ w q1) (fun w=>w.2 q1) (by decide) (by decide)) ?_;rintro _ S2 ⟨⟨c2,⟨W2,F2,b1,b2,b3,T2⟩,_⟩,rfl⟩;simp only[XZ,simprocAttr];refine⟨(Ch.of W gS).trans c2 fun r w=> ?_,W2,F2,b1,fun r w=> ?_,fun r w=> ?_,T2⟩
 ·rcases w with w|w
  ·exact .inl w
  ·exact .inr (by rw[w];exact q1)
 ·rcases b2 r w with w|w;exact .inl w;exact .inr (Ch.fresh (Ch.of W gS) w)
 ·rcases b3 r w with w|w;exact .inl w.1;exact .inr (Ch.fresh (Ch.of W gS) w)
theorem nodeC {W F Q:Pt->Prop}{st:St}{rt:Pt}{tb:Tb}{id:Nat}(hw:WF st)(hT:Tab W F st rt tb)(hi:id<tb.nodes.length)(hQ:∀r,st.row r= .none->Q r):
  Does (tabT tabD) Jcd [.ptr rt 0, .int .i64 id] st fun v st'=>Gr st st'/\∃e,v= .tup [.agg e, .bool true]/\NdC Q st' e tb.nodes[id]:=by
 refine JW tabM Jbi rfl hw fun K fin=> ?_;obtain⟨lv,ra,rn,rs,es,sv,hT⟩:=hT;obtain⟨n,hn0⟩:=nxE st;have hold:=fun r (h:st.row r≠ .none)=>YT hw hn0 h;obtain⟨t,c⟩:=hT.cell;have hie:id<es.length:=by rw[hT.len];exact hi
 obtain⟨q,qo,a1,a2,a3,a4,a5,a6⟩:=hT.elem hie;have hnd:=hT.nd id hie hi;have hfit:=hT.fit _ (List.getElem_mem hi);obtain⟨E,hE⟩:∃E,E=es[id]:=⟨_,rfl⟩
 rw[<-hE]at a5 hnd;obtain⟨nv,kv,rfl,h1,h2⟩:=hnd;have ort:=fun k=>nes (JE hw hn0 hT.rt_ne k);have oq:=fun k=>nes (JE hw hn0 a2 k);have i0:¬(id:Int)<0:=by omega
 have i1:¬(tb.nodes.length:Int)<=(id:Int):=by omega
 have g1:Gr st (((st.new fun t=> .cells t [.int .i64 0,ofL [], .snil, .snil]).new fun t=> .cells t [.int .i64 0,ofL [], .snil, .snil]).wr (up 1 n) (st.new fun t=> .cells t [.int .i64 0,ofL [], .snil, .snil]).t fun u=> .cells u [.int .i64 tb.nodes[id].kind,ofL tb.nodes[id].name,nv,kv]):=(Gr.new hw (Ja _)).nw (by simp only[YF,hn0,Yw,Nat.zero_add]) (Ja _) (Ja _);have r0:St.row (((st.new fun t=> .cells t [.int .i64 0,ofL [], .snil, .snil]).new fun t=> .cells t [.int .i64 0,ofL [], .snil, .snil]).wr (up 1 n) (st.new fun t=> .cells t [.int .i64 0,ofL [], .snil, .snil]).t fun u=> .cells u [.int .i64 tb.nodes[id].kind,ofL tb.nodes[id].name,nv,kv]) (up 0 n)= .cells st.t [.int .i64 0,ofL [], .snil, .snil]:=by simp only[XZ,simprocAttr,hn0]
 have r1:St.row (((st.new fun t=> .cells t [.int .i64 0,ofL [], .snil, .snil]).new fun t=> .cells t [.int .i64 0,ofL [], .snil, .snil]).wr (up 1 n) (st.new fun t=> .cells t [.int .i64 0,ofL [], .snil, .snil]).t fun u=> .cells u [.int .i64 tb.nodes[id].kind,ofL tb.nodes[id].name,nv,kv]) (up 1 n)= .cells _ [.int .i64 tb.nodes[id].kind,ofL tb.nodes[id].name,nv,kv]:=J7 _ _ _ _;simp only[K6,XZ,simprocAttr,hn0,ort,oq,c,hT.l.len,i0,i1,a1,a5,h1.cells,h2.cells,h1.sc,h2.sc];refine JF (JbY (Q:=fun r=>st.row r= .none/\r≠up 0 n/\r≠up 1 n) (KN g1.wf _) ((h1.gr g1).low _) (JbI _) (by rw[QW];have:=hfit.1;omega) ?_) ?_
 ·exact fun r hr=>⟨Ch.fresh (Ch.of (fun _=>False) g1) hr,(fun e=>Jd r0 ((congrArg (St.row _) e).symm.trans hr)),(fun e=>Jd r1 ((congrArg (St.row _) e).symm.trans hr))⟩
 rintro nv' S2 g2 c2;have c2:=c2.unlow;have b1:S2.row (up 1 n)= .cells _ [.int .i64 tb.nodes[id].kind,ofL tb.nodes[id].name,nv,kv]:=g2.cells r1;have b0:S2.row (up 0 n)= .cells _ [.int .i64 0,ofL [], .snil, .snil]:=g2.cells r0;simp only[XZ,simprocAttr,b1];refine JF (JgN (Q:=fun r=>st.row r= .none/\r≠up 0 n/\r≠up 1 n) (KN g2.wf _) (((h2.gr g1).gr g2).low _) (Jhg _) (by rw[kj];have:=hfit.2;omega) ?_) ?_
 ·exact fun r hr=>⟨Ch.fresh (Ch.of (fun _=>False) (g1.trans g2)) hr,fun e=>Jd b0 (by rw[<-e];exact hr),fun e=>Jd b1 (by rw[<-e];exact hr)⟩
 rintro kv' S3 g3 c3;have c3:=c3.unlow;have c2:=c2.gr g3;have b1:=g3.cells b1;have b0:=g3.cells b0;have G3:=(g1.trans g2).trans g3;simp only[XZ,simprocAttr,b1,b0,c2.cells,c3.cells,c2.sc,c3.sc];refine fin _ _ (fun r e=>by simp only[Jo,hold r e,if_false];exact G3.same r e) fun _=>⟨_,rfl,nv',kv',rfl,c2.imp fun r p e=>⟨hQ r p.1, ?_⟩,c3.imp fun r p e=>⟨hQ r p.1, ?_⟩⟩
 ·simp only[Jo,p.2.1,p.2.2,if_false]
 ·simp only[Jo,p.2.1,p.2.2,if_false]
def openZS (tb:Tb)(z:Int):Nat×Bool:=if z<0 then(0,false)else openS tb (tb.nodes.length+1) z.toNat
theorem openI {W F:Pt->Prop}{st:St}{rt:Pt}{tb:Tb}{id:Int}(hw:WF st)(hT:Tab W F st rt tb):
  Does (tabT tabD) YX [.ptr rt 0, .int .i64 id] st fun v st'=>v= .tup [.int .i64 ((openZS tb id).1:Nat), .bool (openZS tb id).2]/\st=st':=by
 refine JA Jbh rfl ?_;obtain⟨lv,ra,rn,rs,es,sv,hT⟩:=hT;obtain⟨t,c⟩:=hT.cell;have hadd:IntKind.i64.wrap ((tb.nodes.length:Int)+1)=((tb.nodes.length+1:Nat):Int):=by have:=hT.few;rw[Jx (by omega) (by omega)];rfl
 simp only[K5,XZ,simprocAttr,c,hT.l.len,hadd];obtain⟨K,hK⟩:∃K:V->St->Prop,∀v S,K v S<->(v= .tup [.int .i64 ((openZS tb id).1:Nat), .bool (openZS tb id).2]/\st=S):=⟨_,fun _ _=>Iff.rfl⟩
 simp only[<-hK];obtain⟨L,hL⟩:=loE fun j fr S=>∃(i:Nat) (z:Int),S=st/\j+i=tb.nodes.length+1/\fr 0= .ptr rt 0/\fr 1= .int .i64 z/\fr 13= .int .i64 ((tb.nodes.length+1:Nat):Int)/\fr 14= .int .i64 i/\openZS tb id=if z<0 then(0,false)else openS tb (tb.nodes.length+1-i) z.toNat;have:=hT.few;refine JK L (tb.nodes.length+1) (by omega) ((hL _ _ _).2 ⟨0,id,rfl,by omega,rfl,rfl,rfl,by simp only[XZ,simprocAttr]<;>rfl,rfl⟩) ?_;intro j fr S hLj;obtain⟨i,z,rfl,hj,f0,f1,f13,f14,hrec⟩:=(hL _ _ _).1 hLj;by_cases hi:i<tb.nodes.length+1
 ·have hi':(i:Int)<((tb.nodes.length+1:Nat):Int):=by omega
  by_cases z0:z<0
  ·simp only[XZ,simprocAttr,f0,f1,f13,f14,hi',z0];rw[hK,hrec,if_pos z0];exact⟨rfl,rfl⟩
  obtain⟨a,rfl⟩:∃a:Nat,z=a:=⟨z.toNat,by omega⟩
  rw[if_neg (by omega),show tb.nodes.length+1-i=(tb.nodes.length-i)+1 by omega]at hrec;simp only[Int.toNat_natCast]at hrec;by_cases z1:tb.nodes.length<=a
  ·have z1':(tb.nodes.length:Int)<=(a:Int):=by omega
   rw[jX z1]at hrec;simp only[XZ,simprocAttr,f0,f1,f13,f14,hi',z0,c,hT.l.len,z1'];rw[hK,hrec];exact⟨rfl,rfl⟩
  have z1':¬(tb.nodes.length:Int)<=(a:Int):=by omega
  have ha:a<tb.nodes.length:=by omega
  have hie:a<es.length:=by rw[hT.len];exact ha
  obtain⟨q,qo,a1,a2,a3,a4,a5,a6⟩:=hT.elem hie;have hnd:=hT.nd a hie ha;have E0:=a6 0;have E1:=a6 1;obtain⟨E,hE⟩:∃E,E=es[a]:=⟨_,rfl⟩
  simp only[<-hE]at hnd E0 E1;obtain⟨nv,kv,rfl,h1,h2⟩:=hnd;have E0:=E0 (by simp);have E1:=E1 (by simp);simp only[List.getElem_cons_zero,List.getElem_cons_succ,Nat.add_zero]at E0 E1;by_cases k9:tb.nodes[a].kind=9
  ·have k9':(tb.nodes[a].kind=9)=True:=eq_true k9;have hlk:=jz (e:= .one .s) hT.named (.int .i64 0) true tb.nodes[a].name (Jhh _ _) rfl;rw[JlV]at hlk;have hadd1:IntKind.i64.wrap ((i:Int)+1)=((i+1:Nat):Int):=by rw[Jx (by omega) (by omega)];rfl
   have hdef:defI tb tb.nodes[a].name=(tb.named.find? fun p=>tb.nodes[a].name=p.1).map (·.2):=rfl;rw[<-hdef]at hlk
   cases hd:defI tb tb.nodes[a].name with
   | none=>
     rw[qB ha k9 hd]at hrec;rw[hd]at hlk;simp only[Option.map_none,ansL,if_true]at hlk;simp only[XZ,simprocAttr,f0,f1,f13,f14,hi',z0,c,hT.l.len,z1',a1,E0,E1,k9',hlk,hadd1];exact⟨tb.nodes.length+1-(i+1),by omega,(hL _ _ _).2 ⟨i+1,-1,rfl,by omega,f0,rfl,f13,rfl,by rw[hrec,if_pos (by omega)]⟩⟩
   | some b=>
     rw[jA ha k9 hd]at hrec;rw[hd]at hlk;simp only[Option.map_some,ansL,if_true]at hlk;simp only[XZ,simprocAttr,f0,f1,f13,f14,hi',z0,c,hT.l.len,z1',a1,E0,E1,k9',hlk,hadd1];exact⟨tb.nodes.length+1-(i+1),by omega,(hL _ _ _).2 ⟨i+1,b,rfl,by omega,f0,rfl,f13,rfl,by rw[hrec,if_neg (by omega)];congr 1;omega⟩⟩
  ·have k9':(tb.nodes[a].kind=9)=False:=eq_false k9;rw[QX ha k9]at hrec;simp only[XZ,simprocAttr,f0,f1,f13,f14,hi',z0,c,hT.l.len,z1',a1,E0,E1,k9'];rw[hK,hrec];exact⟨rfl,rfl⟩
 ·have hi':¬(i:Int)<((tb.nodes.length+1:Nat):Int):=by omega
  have hie:i=tb.nodes.length+1:=by omega
  simp only[XZ,simprocAttr,f0,f1,f13,f14,hi'];rw[hK,hrec,hie,Nat.sub_self];refine⟨?_,rfl⟩
  split<;>rfl
theorem openC {W F:Pt->Prop}{st:St}{rt:Pt}{tb:Tb}{id:Nat}(hw:WF st)(hT:Tab W F st rt tb):
  Does (tabT tabD) YX [.ptr rt 0, .int .i64 id] st fun v st'=>v= .tup [.int .i64 ((openS tb (tb.nodes.length+1) id).1:Nat), .bool (openS tb (tb.nodes.length+1) id).2]/\st=st':=by
 have e:openZS tb (id:Int)=openS tb (tb.nodes.length+1) id:=by unfold openZS;rw[if_neg (by omega)];rfl
 rw[<-e];exact openI hw hT
theorem digitC (x:Nat)(hx:x<256)(st:St):Does (tabT tabD) JhC [.int .u8 x] st fun v st'=>v= .bool (digB x)/\st=st':=by
 refine JA Jfz rfl ?_;by_cases h1:(48:Int)<=(x:Int)
 ·by_cases h2:(x:Int)<=57
  ·simp only[QL,XZ,simprocAttr,h1,h2];rw[digB,decide_eq_true (by omega),decide_eq_true (by omega)];rfl
  ·simp only[QL,XZ,simprocAttr,h1,h2];rw[digB,decide_eq_true (by omega),decide_eq_false (by omega)];rfl
 ·simp only[QL,XZ,simprocAttr,h1];rw[digB,decide_eq_false (by omega)];rfl
theorem letterC (x:Nat)(hx:x<256)(st:St):Does (tabT tabD) JfE [.int .u8 x] st fun v st'=>v= .bool (letB x)/\st=st':=by
 refine JA Jfc rfl ?_;by_cases h0:x=95
 ·have h0':((x:Int)=95)=True:=eq_true (by omega);simp only[KV,XZ,simprocAttr,h0'];rw[letB,decide_eq_true h0];rfl
 ·have h0':¬(x:Int)=95:=by omega
  have ho:=JtO x hx;by_cases h1:(97:Int)<=((x|||32:Nat):Int)
  ·by_cases h2:((x|||32:Nat):Int)<=122
   ·simp only[KV,XZ,simprocAttr,h0',ho,h1,h2];rw[letB,decide_eq_false h0,decide_eq_true (by omega),decide_eq_true (by omega)];rfl
   ·simp only[KV,XZ,simprocAttr,h0',ho,h1,h2];rw[letB,decide_eq_false h0,decide_eq_true (by omega),decide_eq_false (by omega)];rfl
  ·simp only[KV,XZ,simprocAttr,h0',ho,h1];rw[letB,decide_eq_false h0,decide_eq_false (by omega)];rfl
theorem JtZ (x:Nat)(hx:x<256)(st:St):Does (tabT tabD) qb [.int .u8 x] st fun v st'=>v= .bool (okB x)/\st=st':=by
 refine JA JfD rfl ?_;simp only[Yb,XZ,simprocAttr];refine Je (letterC x hx _) ?_;rintro _ _ ⟨rfl,rfl⟩
 cases h:letB x with
 | true=>
   simp only[XZ,simprocAttr];rw[okB,h];rfl
 | false=>
   simp only[XZ,simprocAttr];refine Je (digitC x hx _) ?_;rintro _ _ ⟨rfl,rfl⟩;simp only[XZ,simprocAttr];rw[okB,h];rfl
theorem frontC (l:List UInt8)(st:St)(hw:WF st)(hl:l.length<=100000):
  Does (tabT tabD) JhF [ofL l, .fn qb [] []] st fun v st'=>Gr st st'/\v= .int .i64 (fore l):=by
 refine JA JfC rfl ?_;simp only[Ya,XM,simprocAttr,JsY,JnM];refine JK (fun k fr st'=>∃(p t:Nat),k+p=l.length/\(∀j (hj:j<l.length),j<p->okB l[j].toNat=true)/\fr 0=ofL l/\fr 1= .fn qb [] []/\fr 7= .ptr st.nx 0/\st'.row st.nx= .sit t l.length (snum l) p/\Gr st st') l.length (by omega) ?_ ?_
 ·refine⟨0,st.t,by omega,fun j _ h=>absurd h (by omega), ?_, ?_, ?_, ?_,Gr.new hw fun u=>⟨rfl,fun e=>by cases e⟩⟩
  all_goals simp only[XM,simprocAttr,Ka]
  all_goals rfl
 ·rintro k fr st1 ⟨p,t,hk,hok,h0,h1,h7,hr,hg⟩;by_cases hp:p<l.length
  ·have hrs:=Jkg hp;have gw:∀p':Nat,Gr st (st1.wr st.nx t fun u=>Row.sit u l.length (snum l) p'):=fun p'=>
    hg.wr (Q3 hw) (by rw[hr];exact fun e=>by cases e) (by rw[hr];rfl) fun u=>⟨rfl,fun e=>by cases e⟩
   have hb:=Y5 hp;have hin:(0:Int)<=(p:Int)/\(p:Int)<(l.length:Int):=by omega
   simp only[XM,simprocAttr,h0,h1,h7,Jlk,Jkh hr hp,hin,hb];refine Je (JtZ _ (UInt8.toNat_lt _) _) ?_;rintro _ _ ⟨rfl,rfl⟩
   cases ho:okB l[p].toNat with
   | true=>
     have hwd:=Jkn hp (JmD (UInt8.toNat_lt _) ho);simp only[XM,simprocAttr,h0,h1,h7];refine⟨k-1,by omega,p+1,st1.t,by omega, ?_, ?_,gw _⟩
     ·intro j hj hjp;by_cases e:j=p
      ·subst e;exact ho
      ·exact hok j hj (by omega)
     ·rw[hwd]
   | false=>
     simp only[XM,simprocAttr,h0,h1,h7];refine⟨gw _, ?_⟩;rw[JiZ l p (by omega) hok hp ho]
  ·have hpe:p=l.length:=by omega
   simp only[XM,simprocAttr,h0,h1,h7,Jlk,Jki hr hp];refine⟨hg, ?_⟩;rw[(Jcp l).2 (by rw[okAll,List.all_eq_true];intro c hc;obtain⟨j,hj,rfl⟩:=List.getElem_of_mem hc;exact hok j hj (by omega))]
theorem rowC (l:List UInt8)(st:St)(hw:WF st)(hl:l.length<=100000):Does (tabT tabD) JkS [ofL l] st fun v st'=>Gr st st'/\v= .int .i64 (fore l):=by
 refine JA JjQ rfl ?_;simp only[Yy,XZ,simprocAttr];refine Je (frontC l _ hw hl) ?_;rintro _ st1 ⟨hg,rfl⟩;simp only[XZ,simprocAttr];exact hg
theorem identC (l:List UInt8)(st:St)(hw:WF st):Does (tabT tabD) Jhz [ofL l] st fun v st'=>Gr st st'/\v= .bool (identB l):=by
 refine JA Jfw rfl ?_
 cases l with
 | nil=>
   simp only[QK,XZ,simprocAttr];exact⟨Gr.refl hw,rfl⟩
 | cons c r=>
   obtain⟨l,hle⟩:∃l,l=c::r:=⟨_,rfl⟩
   rw[<-hle];have hne:¬l=[]:=by rw[hle];simp
   have hb:byteAt l 0=c.toNat:=by rw[hle];exact Y5 (l:=c::r) (i:=0) (by simp)
   have h0:(0:Int)<=0/\(0:Int)<(l.length:Int):=by rw[hle];simp only[List.length_cons];omega
   have hid:identB l=(decide (l.length<=16)&&(!digB c.toNat&&okAll l)):=by rw[hle];rfl
   by_cases h16:(l.length:Int)<=16
   ·simp only[QK,XZ,simprocAttr,hne,h16,h0,hb];refine Je (digitC c.toNat (UInt8.toNat_lt _) _) ?_;rintro _ _ ⟨rfl,rfl⟩
    cases hd:digB c.toNat with
    | true=>
      simp only[XZ,simprocAttr];refine⟨Gr.refl hw, ?_⟩;rw[hid,hd];simp
    | false=>
      simp only[XZ,simprocAttr];refine Je (rowC l _ hw (by omega)) ?_;rintro _ st1 ⟨hg,rfl⟩;simp only[XZ,simprocAttr];refine⟨hg, ?_⟩;rw[hid,hd,decide_eq_true (show l.length<=16 by omega)];by_cases ha:fore l=l.length
      ·rw[(Jcp l).1 ha];simp[ha]
      ·have:okAll l=false:=by
        cases ho:okAll l with
        |false=>rfl
        |true=>exact absurd ((Jcp l).2 ho) ha
       have ha':¬(fore l:Int)=(l.length:Int):=by omega
       rw[this];simp[ha']
   ·simp only[QK,XZ,simprocAttr,hne,h16];refine⟨Gr.refl hw, ?_⟩;rw[hid,decide_eq_false (show¬l.length<=16 by omega)];rfl
theorem JjE (l:List UInt8)(st:St)(hw:WF st):
  Does (tabT tabD) Jdp [ofL l] st fun v st'=>Gr st st'/\v= .bool (identB l&&Lib.contains jB (32::(l++[32]))):=by
 refine JA JcN rfl ?_;simp only[Qy,XZ,simprocAttr];refine Je (identC l _ hw) ?_;rintro _ st1 ⟨hg,rfl⟩
 cases hi:identB l with
 | false=>
   simp only[XZ,simprocAttr];exact hg
 | true=>
   have hl:=Jko hi;simp only[XZ,simprocAttr,List.length_append];refine⟨by omega,by omega, ?_⟩;refine Je (Jf4 (Q:=fun v st'=>v= .bool (Lib.contains jB (32::(l++[32])))/\st1=st') Jax (Ji0 jB (32::(l++[32])) (by decide)) ⟨rfl,rfl⟩) ?_;rintro _ _ ⟨rfl,rfl⟩;simp only[XZ,simprocAttr];exact hg
theorem kidsC {P:Pt->Prop}{st:St}{e:List V}{t:Ty}(hw:WF st)(h:TyC P st e t):Does (tabT tabD) JhA [.agg e] st fun v st'=>Gr st st'/\v= .int .i64 (kidsS t:Nat):=by
 refine JW tabM Jfx rfl hw fun K fin=> ?_;obtain⟨n,hn0⟩:=nxE st;have hold:=fun r (h:st.row r≠ .none)=>YT hw hn0 h;obtain⟨k,nm,ns,ks⟩:=t;obtain⟨nv,kv,es,rfl,x1,x2,x3,x4⟩:=h.inv';have l1:=x1.len;rw[QW]at l1;have hk:kidsS (.mk k nm ns ks)=if k=4\/k=5\/k=6 then 1 else if k=7\/k=8 then ns.length else 0:=rfl;have fin':=fun v=>fin v (st.new fun t=> .cells t [.int .i64 k,ofL nm,nv,kv]) (fun r e=>by simp only[Kb,hn0,hold r e,if_false]);by_cases c4:k=4
 ·simp only[KK,XZ,simprocAttr,hn0,x1.cells,x2.cells,x1.sc,x2.sc,l1,c4];subst c4;exact fin' _ fun _=>rfl
 by_cases c5:k=5
 ·simp only[KK,XZ,simprocAttr,hn0,x1.cells,x2.cells,x1.sc,x2.sc,l1,c4,c5];subst c5;exact fin' _ fun _=>rfl
 by_cases c6:k=6
 ·simp only[KK,XZ,simprocAttr,hn0,x1.cells,x2.cells,x1.sc,x2.sc,l1,c4,c5,c6];subst c6;exact fin' _ fun _=>rfl
 by_cases c7:k=7
 ·simp only[KK,XZ,simprocAttr,hn0,x1.cells,x2.cells,x1.sc,x2.sc,l1,c4,c5,c6,c7];subst c7;exact fin' _ fun _=>rfl
 by_cases c8:k=8
 ·simp only[KK,XZ,simprocAttr,hn0,x1.cells,x2.cells,x1.sc,x2.sc,l1,c4,c5,c6,c7,c8];subst c8;exact fin' _ fun _=>rfl
 simp only[KK,XZ,simprocAttr,hn0,x1.cells,x2.cells,x1.sc,x2.sc,l1,c4,c5,c6,c7,c8];refine fin' _ fun _=> ?_;rw[hk,if_neg (by omega),if_neg (by omega)];rfl
theorem Jde {p:Option Str}{n:Str}{r:List Str}(h1:identB n=true)(h2:notLess p n=false):namesS p (n::r)=namesS (some n) r:=by
 rw[namesS,if_neg (by rw[h1];simp),if_neg (by rw[h2];simp)]
theorem fieldsC {P:Pt->Prop}{st:St}{e:List V}{t:Ty}(hw:WF st)(h:TyC P st e t):Does (tabT tabD) Je4 [.agg e] st fun v st'=>Gr st st'/\v= .int .i64 (fieldsS t):=by
 refine JW tabM Jdo rfl hw fun K fin=> ?_;obtain⟨n,hn0⟩:=nxE st;have hold:=fun r (h:st.row r≠ .none)=>YT hw hn0 h;obtain⟨k,nm,ns,ks⟩:=t;obtain⟨nv,kv,es,rfl,x1,x2,x3,x4⟩:=h.inv';have l1:=x1.len;rw[QW]at l1;have g0:Gr st (st.new fun t=> .cells t [.int .i64 k,ofL nm,nv,kv]):=Gr.new hw (Ja _);have hk:fieldsS (.mk k nm ns ks)=if 8<ns.length then 3 else if namesS none ns≠0 then namesS none ns else if k=8/\ns=[]then 12 else 0:=rfl;have fin':=fun v=>fin v (st.new fun t=> .cells t [.int .i64 k,ofL nm,nv,kv]) (fun r e=>by simp only[Kb,hn0,hold r e,if_false]);by_cases c1:8<ns.length
 ·have c1':(8:Int)<ns.length:=by omega
  simp only[Qt,XZ,simprocAttr,hn0,x1.cells,x2.cells,x1.sc,x2.sc,l1,c1'];exact fin' _ fun _=>by rw[hk,if_pos c1]
 have c1':¬(8:Int)<ns.length:=by omega
 simp only[Qt,XZ,simprocAttr,hn0,x1.cells,x2.cells,x1.sc,x2.sc,l1,c1'];obtain⟨I,hI⟩:=loE fun j fr S=>∃i p,j+i=ns.length/\fr 1= .ptr (up 0 n) 0/\fr 10=nv/\fr 11= .int .i64 ns.length/\fr 12= .int .i64 i/\Gr (st.new fun t=> .cells t [.int .i64 k,ofL nm,nv,kv]) S/\namesS none ns=namesS p (ns.drop i)/\(p=if i=0 then none else ns[i-1]?);refine JK I ns.length (by omega) ?_ ?_
 ·refine(hI _ _ _).2 ⟨0,none,by omega, ?_, ?_, ?_, ?_,Gr.refl g0.wf,rfl,rfl⟩
  all_goals simp only[XZ,simprocAttr]
  all_goals rfl
 ·rintro j fr S hIj;obtain⟨i,p,hj,f1,f10,f11,f12,hg,hrec,hp⟩:=(hI _ _ _).1 hIj;have b0:S.row (up 0 n)= .cells st.t [.int .i64 k,ofL nm,nv,kv]:=hg.cells (by simp only[XZ,simprocAttr,hn0]);have x1S:=x1.gr (g0.trans hg);by_cases hi:i<ns.length
  ·have hi':(i:Int)<ns.length:=by omega
   obtain⟨q,qo,a1,a2,a3,a4⟩:=x1S.one (xs:=ns.map ofL) (i:=i) (by simpa using hi);simp only[List.getElem_map]at a4;simp only[XZ,simprocAttr,f1,f10,f11,f12,hi',a1,a4];have G:=g0.trans hg;have hd:=List.drop_eq_getElem_cons hi;refine Je (identC _ _ hg.wf) ?_;rintro _ S2 ⟨g2,rfl⟩;have G2:=G.trans g2;have b2:=g2.cells b0
   cases hid:identB ns[i]with
   | false=>
     simp only[XZ,simprocAttr];refine fin _ _ (fun r e=>G2.same r e) fun _=> ?_;rw[hk,if_neg c1,hrec,hd,namesS,if_pos hid];rfl
   | true=>
     have hadd1:IntKind.i64.wrap ((i:Int)+1)=((i+1:Nat):Int):=by rw[Jx (by omega) (by omega)];rfl
     have next:∀{fr':Fr},notLess p ns[i]=false->fr' 1= .ptr (up 0 n) 0->fr' 10=nv->fr' 11= .int .i64 ns.length->fr' 12= .int .i64 ((i+1:Nat):Int)->∃j',j'<j/\I j' fr' S2:=fun{fr'} hl e1 e10 e11 e12=>
      ⟨ns.length-(i+1),by omega,(hI _ _ _).2 ⟨i+1,some ns[i],by omega,e1,e10,e11,e12,hg.trans g2,by rw[hrec,hd,Jde hid hl],by rw[if_neg (by omega)];simp[hi]⟩⟩
     by_cases h0:i=0
     ·have h0':¬(0:Int)<(i:Int):=by omega
      simp only[XZ,simprocAttr,f1,f10,f11,f12,h0',hadd1];refine next (by rw[hp,if_pos h0];rfl) ?_ ?_ ?_ ?_<;>simp only[XZ,simprocAttr,f1,f10,f11,f12]
     ·have h0':(0:Int)<(i:Int):=by omega
      have hsub:IntKind.i64.wrap ((i:Int)-1)=((i-1:Nat):Int):=by rw[Jx (by omega) (by omega)];omega
      obtain⟨q',qo',d1,d2,d3,d4⟩:=(x1.gr G2).one (xs:=ns.map ofL) (i:=i-1) (by simp;omega);simp only[List.getElem_map]at d4;have hp':p=some ns[i-1]:=by rw[hp,if_neg h0,List.getElem?_eq_getElem (by omega)]
      cases hl:Op.bytesLess ns[i-1] ns[i]with
      | false=>
        simp only[XZ,simprocAttr,f1,f10,f11,f12,h0',b2,hsub,d1,d4,qW,hl];refine fin _ _ (fun r e=>G2.same r e) fun _=> ?_;have hv:namesS none ns=6:=by rw[hrec,hd,namesS,if_neg (by rw[hid];simp),if_pos (by rw[hp',notLess,hl];rfl)]
        rw[hk,if_neg c1,hv];rfl
      | true=>
        simp only[XZ,simprocAttr,f1,f10,f11,f12,h0',b2,hsub,d1,d4,qW,hl,hadd1];refine next (by rw[hp',notLess,hl];rfl) ?_ ?_ ?_ ?_<;>simp only[XZ,simprocAttr,f1,f10,f11,f12]
  ·have hi':¬(i:Int)<ns.length:=by omega
   have hie:i=ns.length:=by omega
   have hn:namesS none ns=0:=by rw[hrec,hie,List.drop_length,namesS]
   have G:=g0.trans hg;by_cases c8:k=8
   ·by_cases cn:ns.length=0
    ·have cn':((ns.length:Int)=0)=True:=eq_true (by omega);have c8':(k=8)=True:=eq_true c8;simp only[XZ,simprocAttr,f1,f10,f11,f12,hi',b0,l1,c8',cn'];refine fin _ _ (fun r e=>G.same r e) fun _=> ?_;rw[hk,if_neg c1,hn,if_neg (by simp),if_pos ⟨c8,List.length_eq_zero_iff.1 cn⟩]
    ·have cn':((ns.length:Int)=0)=False:=eq_false (by omega);have c8':(k=8)=True:=eq_true c8;simp only[XZ,simprocAttr,f1,f10,f11,f12,hi',b0,l1,c8',cn'];refine fin _ _ (fun r e=>G.same r e) fun _=> ?_;rw[hk,if_neg c1,hn,if_neg (by simp),if_neg fun h=>cn (by rw[h.2];rfl)]
   ·simp only[XZ,simprocAttr,f1,f10,f11,f12,hi',b0,l1,c8];refine fin _ _ (fun r e=>G.same r e) fun _=> ?_;rw[hk,if_neg c1,hn,if_neg (by simp),if_neg fun h=>c8 h.1]
def zty :V:= .agg [.int .i64 0,ofL [], .snil, .snil]
theorem mayC :∀(m:Nat) (ty:Ty),tsz ty<m->∀(P:Pt->Prop) (st:St) (kr rm:Pt) (l:List (Str×Ty)) (e:List V) (deep met tk:Nat),WF st->NmMap P st rm l->TyC P st e ty->(∀r,P r->r≠kr)->rm≠kr->st.row kr= .cells tk [.map rm, .int .i64 met]->deep<=13->met<=400->
  Does (tabT tabD) kX [.ptr kr 0, .agg e, .int .i64 deep] st fun v st'=>Ch (fun r=>r=kr) st st'/\(∃t,st'.row kr= .cells t [.map rm, .int .i64 ((mayS (hasN l) ty deep met).2:Nat)])/\v= .int .i64 (mayS (hasN l) ty deep met).1
 |0,_,h=>absurd h (by omega)
 | m+1, .mk k nm ns ks,hm=>by
   intro P st kr rm l e deep met tk hw hM hx hP hrm hkr hdeep hmet;refine YU tabM Jap rfl hw fun K fin=> ?_;obtain⟨n,hn0⟩:=nxE st;have hold:=fun r (h:st.row r≠ .none)=>YT hw hn0 h;obtain⟨nv,kv,es,rfl,x1,x2,x3,x4⟩:=hx.inv';have l1:=x1.len;have l2:=x2.len;rw[QW]at l1;rw[x3]at l2;have hS:=JbL (hasN l) k nm ns ks deep met;obtain⟨zv,hz,hz2⟩:=hM.look zty nm;have hz':∃c,zv= .agg c/\c.length=4/\allSc c=true:=by
    cases hd:defN l nm with
    |none=>rw[hd]at hz2;exact⟨_,hz2,rfl,rfl⟩
    |some t=>rw[hd]at hz2;obtain⟨c,a,b⟩:=hz2;exact⟨c,a,b.four,b.ok⟩
   obtain⟨zc,rfl,zc4,zok⟩:=hz';have zc4':(4:Nat)<=4:=Nat.le_refl 4;have hmetw:IntKind.i64.wrap ((met:Int)+1)=((met+1:Nat):Int):=by rw[Jx (by omega) (by omega)];rfl
   have okr:=fun k=>nes (JE hw hn0 (Jd hkr) k);have hrm0:st.row rm≠ .none:=by obtain⟨_,h,_⟩:=hM;exact h.ne
   have orm:=fun k=>nes (JE hw hn0 hrm0 k);have hrk:=nes hrm;have hlk:∀S:St,S.row rm=st.row rm->lookupV S (.one .s) (.agg [.int .i64 0,ofL [], .snil, .snil]) true (.map rm) (ofL nm)=some (.tup [.agg zc, .bool (hasN l nm)], .no):=fun S hS=>hz true S hS;have hsp:splice [V.int .i64 0,ofL [], .snil, .snil] 0 zc=zc:=YJ (by rw[zc4];rfl);have hsp2:splice [.map rm, .int .i64 (met:Int)] 1 [.int .i64 ((met+1:Nat):Int)]=[.map rm, .int .i64 ((met+1:Nat):Int)]:=rfl;have g0:Gr st (st.new fun t=> .cells t [.int .i64 k,ofL nm,nv,kv]):=Gr.new hw (Ja _);obtain⟨S1,hS1⟩:∃S1,S1=(((st.new fun t=>Row.cells t [V.int IntKind.i64 k,ofL nm,nv,kv]).wr kr tk fun u=>Row.cells u [V.map rm,V.int IntKind.i64 ((met+1:Nat):Int)]).new fun t=>Row.cells t [V.int IntKind.i64 0,ofL [],V.snil,V.snil]).wr (up 1 n) ((st.new fun t=>Row.cells t [V.int IntKind.i64 k,ofL nm,nv,kv]).wr kr tk fun u=>Row.cells u [V.map rm,V.int IntKind.i64 ((met+1:Nat):Int)]).t fun u=>Row.cells u zc:=⟨_,rfl⟩
   have c1:Ch (fun r=>r=kr) st S1:=by
    rw[hS1];exact((Ch.of (fun r=>r=kr) g0).wr (Jd (g0.cells hkr)) (by rw[g0.cells hkr];rfl) (.inl rfl) (Ja _)).nw (p:=up 1 n) (by simp only[ki,YF,hn0,Yw,Nat.zero_add]) (Ja _) (Ja _)
   have r1k:S1.row kr= .cells (st.t+1) [.map rm, .int .i64 ((met+1:Nat):Int)]:=by rw[hS1];simp only[XZ,simprocAttr,hn0,okr];rfl
   have r1b:S1.row (up 0 n)= .cells st.t [.int .i64 k,ofL nm,nv,kv]:=by rw[hS1];simp only[XZ,simprocAttr,hn0,okr]
   have hx1:TyC P S1 [.int .i64 k,ofL nm,nv,kv] (.mk k nm ns ks):=hx.imp fun r p e=>⟨p,c1.same r e (hP r p)⟩
   have done:∀(S:St) (e:Int),Ch (fun r=>r=kr) st S->(∃t,S.row kr= .cells t [.map rm, .int .i64 ((met+1:Nat):Int)])->mayS (hasN l) (.mk k nm ns ks) deep met=(e,met+1)->K (.int .i64 e) S:=fun S e h1 h2 h3=>by
    refine fin _ _ (fun r a b=>h1.same r a b) fun _=> ?_;rw[h3];exact⟨h2,rfl⟩
   simp only[KO,XY,simprocAttr];rw[Jb];simp only[XY,simprocAttr,hn0,x1.cells,x2.cells,x1.sc,x2.sc];rw[Jb];simp only[XY,simprocAttr,hn0,okr,hkr,hmetw];rw[Jb];simp only[XN,simprocAttr,hn0,okr,hkr,hlk,orm,hrk,zc4,zok,hsp,hsp2];simp only[<-hS1,ki,YF,hn0,Yw,Nat.reduceAdd,Nat.zero_add];refine kD (fun fr S=>S1=S/\fr 0= .ptr kr 0/\fr 2= .int .i64 deep/\fr 4= .ptr (up 0 n) 0/\fr 8= .bool (hasN l nm)/\fr 9= .bool (decide (k=7\/k=8))) ?_ ?_
   ·by_cases c7:k=7
    ·simp only[XZ,simprocAttr,r1b,c7];simp
    ·by_cases c8:k=8
     ·simp only[XZ,simprocAttr,r1b,c7,c8];simp
     ·simp only[XZ,simprocAttr,r1b,c7,c8];simp
   rintro fr _ ⟨rfl,f0,f2,f4,f8,f9⟩;by_cases d1:400<met+1
   ·have d1':(400:Int)<((met+1:Nat):Int):=by omega
    simp only[XZ,simprocAttr,f0,r1k,d1'];exact done _ _ c1 ⟨_,r1k⟩ (by rw[hS,if_pos d1])
   have d1':¬(400:Int)<((met+1:Nat):Int):=by omega
   rw[if_neg d1]at hS;by_cases d2:12<deep
   ·have d2':(12:Int)<(deep:Int):=by omega
    simp only[XZ,simprocAttr,f0,f2,r1k,d1',d2'];exact done _ _ c1 ⟨_,r1k⟩ (by rw[hS,if_pos d2])
   have d2':¬(12:Int)<(deep:Int):=by omega
   rw[if_neg d2]at hS;by_cases d3:k<1\/9<k
   ·rw[if_pos d3]at hS;by_cases d3a:k<1
    ·simp only[XZ,simprocAttr,f0,f2,f4,r1k,r1b,d1',d2',d3a];exact done _ _ c1 ⟨_,r1k⟩ hS
    ·have d3b:9<k:=by omega
     simp only[XZ,simprocAttr,f0,f2,f4,r1k,r1b,d1',d2',d3a,d3b];exact done _ _ c1 ⟨_,r1k⟩ hS
   have d3a:¬k<1:=by omega
   have d3b:¬9<k:=by omega
   rw[if_neg d3]at hS;obtain⟨J,hJ⟩:=opE fun fr S=>((¬(ks.length≠kidsS (.mk k nm ns ks)\/(nm≠[]/\k≠9)\/(0<ns.length/\¬(k=7\/k=8)))/\¬(k=9/\hasN l nm=false))/\Gr S1 S/\fr 0= .ptr kr 0/\fr 2= .int .i64 deep/\fr 4= .ptr (up 0 n) 0)
   refine Qc J ?_ ?_
   ·simp only[XY,simprocAttr];rw[Jb];simp only[XY,simprocAttr,f0,f2,f4,r1k,r1b,d1',d2',d3a,d3b];rw[Jb];simp only[XY,simprocAttr,f0,f2,f4,r1k,r1b,d1',d2',d3a,d3b];rw[Jb];simp only[XY,simprocAttr,f0,f2,f4,r1k,r1b,d1',d2',d3a,d3b];obtain⟨B,hB⟩:∃B:Prop,B=(ks.length≠kidsS (.mk k nm ns ks)\/(nm≠[]/\k≠9)\/(0<ns.length/\¬(k=7\/k=8))):=⟨_,rfl⟩
    obtain⟨I,hI⟩:=opE fun fr S=>(Gr S1 S/\fr 0= .ptr kr 0/\fr 2= .int .i64 deep/\fr 4= .ptr (up 0 n) 0/\fr 8= .bool (hasN l nm)/\∃b:Bool,fr 57= .bool b/\(b=true<->B))
    refine kD I ?_ ?_
    ·simp only[XZ,simprocAttr,f0,f2,f4,r1k,r1b,l2];refine JF (kidsC (KN c1.wf _) (hx1.low _)) ?_;rintro _ S2 g2 rfl;have b2:=g2.cells r1b;by_cases e1:(ks.length:Int)=(kidsS (.mk k nm ns ks):Nat)
     ·by_cases e2:nm=[]
      ·by_cases e4:(0:Int)<ns.length
       ·simp only[XZ,simprocAttr,f0,f2,f4,f8,f9,b2,l1,e1,e2,e4];refine(hI _ _).2 ⟨g2,f0,f2,f4,f8, ?b1,by simp only[XZ,simprocAttr]<;>rfl, ?_⟩;rw[hB];subst e2;simp;omega
       ·simp only[XZ,simprocAttr,f0,f2,f4,f8,f9,b2,l1,e1,e2,e4];refine(hI _ _).2 ⟨g2,f0,f2,f4,f8, ?b2,by simp only[XZ,simprocAttr]<;>rfl, ?_⟩;rw[hB];subst e2;simp;omega
      ·by_cases e3:k=9
       ·by_cases e4:(0:Int)<ns.length
        ·simp only[XZ,simprocAttr,f0,f2,f4,f8,f9,b2,l1,e1,e2,e3,e4];refine(hI _ _).2 ⟨g2,f0,f2,f4,f8, ?b3,by simp only[XZ,simprocAttr]<;>rfl, ?_⟩;rw[hB];simp;omega
        ·simp only[XZ,simprocAttr,f0,f2,f4,f8,f9,b2,l1,e1,e2,e3,e4];refine(hI _ _).2 ⟨g2,f0,f2,f4,f8, ?b4,by simp only[XZ,simprocAttr]<;>rfl, ?_⟩;rw[hB];simp;omega
       ·simp only[XZ,simprocAttr,f0,f2,f4,f8,f9,b2,l1,e1,e2,e3];refine(hI _ _).2 ⟨g2,f0,f2,f4,f8, ?b5,by simp only[XZ,simprocAttr]<;>rfl, ?_⟩;rw[hB];simp[e2,e3]
     ·simp only[XZ,simprocAttr,f0,f2,f4,f8,f9,b2,l1,e1];refine(hI _ _).2 ⟨g2,f0,f2,f4,f8, ?b6,by simp only[XZ,simprocAttr]<;>rfl, ?_⟩;rw[hB];simp;omega
    intro fr S2 hIf;obtain⟨g2,f0,f2,f4,f8,b,f57,hb⟩:=(hI _ _).1 hIf;rw[hB]at hb;have b2:=g2.cells r1b;have cS:Ch (fun r=>r=kr) st S2:=c1.gr g2
    cases b with
    | true=>
      simp only[XZ,simprocAttr,f57];exact done _ _ cS ⟨_,g2.cells r1k⟩ (by rw[hS,if_pos (hb.1 rfl)])
    | false=>
      have hb':¬(ks.length≠kidsS (.mk k nm ns ks)\/(nm≠[]/\k≠9)\/(0<ns.length/\¬(k=7\/k=8))):=fun h=>by cases hb.2 h
      rw[if_neg hb']at hS;by_cases e9:k=9
      ·have e9':(k=9)=True:=eq_true e9
       cases hh:hasN l nm with
       | false=>
         rw[hh]at f8;simp only[XZ,simprocAttr,f57,f4,f8,b2,e9'];exact done _ _ cS ⟨_,g2.cells r1k⟩ (by rw[hS,if_pos ⟨e9,hh⟩])
       | true=>
         rw[hh]at f8;simp only[XZ,simprocAttr,f57,f0,f2,f4,f8,b2,e9'];exact(hJ _ _).2 ⟨⟨hb',fun h=>by rw[hh]at h;cases h.2⟩,g2,f0,f2,f4⟩
      ·have e9':(k=9)=False:=eq_false e9;simp only[XZ,simprocAttr,f57,f0,f2,f4,f8,b2,e9'];exact(hJ _ _).2 ⟨⟨hb',fun h=>e9 h.1⟩,g2,f0,f2,f4⟩
   ·intro fr S2 hJf;obtain⟨⟨hb1,hb2⟩,g2,f0,f2,f4⟩:=(hJ _ _).1 hJf;rw[if_neg hb1,if_neg hb2]at hS;have b2:=g2.cells r1b;have cS:Ch (fun r=>r=kr) st S2:=c1.gr g2;simp only[XZ,simprocAttr,f4,b2];refine Je (fieldsC g2.wf (hx1.gr g2)) ?_;rintro _ S3 ⟨g3,rfl⟩;by_cases ef:fieldsS (.mk k nm ns ks)=0
    ·have ef':(fieldsS (.mk k nm ns ks)=0)=True:=eq_true ef;simp only[XZ,simprocAttr,ef',f0,f2,f4,g3.cells b2,l2];rw[if_neg (by simpa using ef)]at hS;have G3:=cS.gr g3;have r3k:=g3.cells (g2.cells r1k);obtain⟨L,hL⟩:=loE fun j fr S=>∃i mi ti,j+i=ks.length/\fr 0= .ptr kr 0/\fr 2= .int .i64 deep/\fr 98=kv/\fr 99= .int .i64 ks.length/\fr 100= .int .i64 (i:Nat)/\Ch (fun r=>r=kr) st S/\S.row kr= .cells ti [.map rm, .int .i64 (mi:Nat)]/\mi<=400/\maysS (hasN l) ks (deep+1) (met+1)=maysS (hasN l) (ks.drop i) (deep+1) mi;have hns:ns.length<=8:=by
      have h:(if 8<ns.length then(3:Int)else if namesS none ns≠0 then namesS none ns else if k=8/\ns=[]then 12 else 0)=0:=ef;by_cases e:8<ns.length
      ·rw[if_pos e]at h;cases h
      ·omega
     have hks:ks.length<1000000:=by
      have e1:ks.length=kidsS (.mk k nm ns ks):=Classical.byContradiction fun e=>hb1 (.inl e);have e2:kidsS (.mk k nm ns ks)<=8:=by
       show(if k=4\/k=5\/k=6 then 1 else if k=7\/k=8 then ns.length else 0)<=8
       split
       ·omega
       ·split<;>omega
      omega
     refine JK L ks.length hks ((hL _ _ _).2 ⟨0,met+1,_,by omega,f0,f2,rfl,rfl,by simp only[XZ,simprocAttr]<;>rfl,G3,r3k,by omega,rfl⟩) ?_;intro j fr S hLj;obtain⟨i,mi,ti,hj,f0,f2,f98,f99,f100,hC,rk,hmi,hrec⟩:=(hL _ _ _).1 hLj;have wS:=hC.wf;obtain⟨nS,hnS⟩:=nxE S;by_cases hi:i<ks.length
     ·have hi':(i:Int)<ks.length:=by omega
      have hie:i<es.length:=by omega
      have hSr:∀r,P r->st.row r≠ .none->S.row r=st.row r:=fun r p e=>hC.same r e (hP r p);obtain⟨q,qo,a1,a2,a3,a4,a5⟩:=(x2.imp fun r p e=>⟨p,hSr r p e⟩:SlAt P S kv 4 es).elem hie;have oq:=fun k=>nes (JE wS hnS a3 k);have hx4:=x4 i hie hi;obtain⟨E,hE⟩:∃E,E=es[i]:=⟨_,rfl⟩
      obtain⟨T,hT⟩:∃T,T=ks[i]:=⟨_,rfl⟩
      rw[<-hE]at a4 hx4;rw[<-hT]at hx4;have hsz:tsz T<m:=by rw[hT];have:=jf (k:=k) (n:=nm) (ns:=ns) hi;omega
      have e4:=hx4.four;have eok:=hx4.ok;have espl:splice [.int .i64 0,ofL [], .snil, .snil] 0 E=E:=YJ (by rw[e4];rfl);have etk:E.take 4=E:=by rw[<-e4,List.take_length]
      have edl:4<=E.length:=by omega
      have hdw:IntKind.i64.wrap ((deep:Int)+1)=((deep+1:Nat):Int):=by rw[Jx (by omega) (by omega)];rfl
      have hadd1:IntKind.i64.wrap ((i:Int)+1)=((i+1:Nat):Int):=by rw[Jx (by omega) (by omega)];rfl
      simp only[XM,simprocAttr,f0,f2,f98,f99,f100,hi',a1,a4,hnS,oq,e4,eok,espl,etk,hdw];have gS:Gr S ((S.new fun t=> .cells t [.int .i64 0,ofL [], .snil, .snil]).wr (up 0 nS) S.t fun u=> .cells u E):=(Gr.refl wS).nw hnS (Ja _) (Ja _);refine Je (mayC m T hsz P _ kr rm l E (deep+1) mi ti gS.wf (hM.imp (by rw[gS.same rm (by rw[hC.same rm hrm0 hrm];exact hrm0),hC.same rm hrm0 hrm]) fun r p e=>⟨p,by rw[gS.same r (by rw[hSr r p e];exact e),hSr r p e]⟩) ((hx4.imp fun r p e=>⟨p,hSr r p e⟩).gr gS) hP hrm (gS.cells rk) (by omega) hmi) ?_;rintro _ S4 ⟨c4,⟨t4,r4⟩,rfl⟩;rw[List.drop_eq_getElem_cons hi,Kv,<-hT]at hrec;have hmet2:=kn (hasN l) T (deep+1) mi hmi;have cS4:Ch (fun r=>r=kr) st S4:=(hC.gr gS).trans c4 fun r w=> .inl w;by_cases he:(mayS (hasN l) T (deep+1) mi).1=0
      ·rw[if_neg (by simpa using he)]at hrec;have he':((mayS (hasN l) T (deep+1) mi).1=0)=True:=eq_true he;simp only[XZ,simprocAttr,he',f0,f2,f98,f99,f100,hadd1];exact⟨ks.length-(i+1),by omega,(hL _ _ _).2 ⟨i+1,_,t4,by omega,f0,f2,f98,f99,rfl,cS4,r4,hmet2.2 he,hrec⟩⟩
      ·rw[if_pos (by simpa using he)]at hrec;have he':((mayS (hasN l) T (deep+1) mi).1=0)=False:=eq_false he;simp only[XZ,simprocAttr,he'];refine fin _ _ (fun r a b=>cS4.same r a b) fun _=> ?_;rw[hS,hrec];exact⟨⟨t4,r4⟩,rfl⟩
     ·have hi':¬(i:Int)<ks.length:=by omega
      have hie:i=ks.length:=by omega
      rw[hie,List.drop_length,Yh]at hrec;simp only[XZ,simprocAttr,f0,f2,f98,f99,f100,hi'];refine fin _ _ (fun r a b=>hC.same r a b) fun _=> ?_;rw[hS,hrec];exact⟨⟨ti,rk⟩,rfl⟩
    ·have ef':(fieldsS (.mk k nm ns ks)=0)=False:=eq_false ef;simp only[XZ,simprocAttr,ef'];exact done _ _ (cS.gr g3) ⟨_,g3.cells (g2.cells r1k)⟩ (by rw[hS,if_pos ef])
structure LookAt (P:Pt->Prop) (st:St) (kr rm:Pt) (l:List (Str×Ty)) (met:Nat):Prop where
 map:NmMap P st rm l
 cell:∃t,st.row kr= .cells t [.map rm, .int .i64 met]
 sep:∀r,P r->r≠kr
 ne:rm≠kr
theorem LookAt.mapne {P:Pt->Prop}{st:St}{kr rm:Pt}{l:List (Str×Ty)}{met:Nat}(h:LookAt P st kr rm l met):st.row rm≠ .none:=by
 obtain⟨_,h,_⟩:=h.map;exact h.ne
theorem LookAt.krne {P:Pt->Prop}{st:St}{kr rm:Pt}{l:List (Str×Ty)}{met:Nat}(h:LookAt P st kr rm l met):st.row kr≠ .none:=by
 obtain⟨_,h⟩:=h.cell;exact Jd h
theorem LookAt.ch {P:Pt->Prop}{st st':St}{kr rm:Pt}{l:List (Str×Ty)}{met met':Nat}(h:LookAt P st kr rm l met)(c:Ch (fun r=>r=kr) st st')(k:∃t,st'.row kr= .cells t [.map rm, .int .i64 met']):LookAt P st' kr rm l met':=
 ⟨h.map.imp (c.same rm h.mapne h.ne) fun r p e=>⟨p,c.same r e (h.sep r p)⟩,k,h.sep,h.ne⟩
theorem LookAt.gr {P:Pt->Prop}{st st':St}{kr rm:Pt}{l:List (Str×Ty)}{met:Nat}(h:LookAt P st kr rm l met)(g:Gr st st'):LookAt P st' kr rm l met:=
 h.ch (Ch.of _ g) (by obtain⟨t,e⟩:=h.cell;exact⟨t,g.cells e⟩)
theorem mayD {P:Pt->Prop}{st:St}{kr rm:Pt}{l:List (Str×Ty)}{met:Nat}{e:List V}{ty:Ty}{deep:Nat}(hw:WF st)(hL:LookAt P st kr rm l met)(hx:TyC P st e ty)(hd:deep<=13)(hmet:met<=400):
  Does (tabT tabD) kX [.ptr kr 0, .agg e, .int .i64 deep] st fun v st'=>Ch (fun r=>r=kr) st st'/\LookAt P st' kr rm l (mayS (hasN l) ty deep met).2/\v= .int .i64 (mayS (hasN l) ty deep met).1:=by
 obtain⟨t,ht⟩:=hL.cell;exact(mayC _ ty (Nat.lt_succ_self _) P st kr rm l e deep met t hw hL.map hx hL.sep hL.ne ht hd hmet).mono fun v st' ⟨a,b,c⟩=>⟨a,hL.ch a b,c⟩
theorem JkE {P:Pt->Prop}{st:St}{v:V}{ts:List Ty}{g:Nat}{fa fb:List V}(p:Ty->Bool)(hw:WF st)(h:LstAt (TyC P st) P st v 4 ts)(hl:ts.length<1000000)
  (hc:∀i (hi:i<ts.length) (S:St) (e:List V),Gr st S->TyC P S e ts[i]->Does (tabT tabD) g (fa++[.agg e]++fb) S fun v S'=>Gr S S'/\v= .bool (p ts[i])):
  Does (tabT tabD) jL [v, .fn g fa fb] st fun v' st'=>Gr st st'/\v'= .int .i64 (match firstI p ts 0 with|some j=>(j:Int)|none=> -1):=by
 refine JW tabM js rfl hw fun K fin=> ?_;have l1:=h.len;simp only[JX,XZ,simprocAttr,l1];obtain⟨L,hL⟩:=loE fun j fr S=>∃(i:Nat),Gr st S/\j+i=ts.length/\fr 0=v/\fr 1= .fn g fa fb/\fr 7= .int .i64 ts.length/\fr 8= .int .i64 i/\firstI p ts 0=firstI p (ts.drop i) i;refine JK L ts.length hl ((hL _ _ _).2 ⟨0,Gr.refl hw,by omega,rfl,rfl,rfl,by simp only[XZ,simprocAttr]<;>rfl,rfl⟩) ?_;intro j fr S hLj;obtain⟨i,hg,hj,f0,f1,f7,f8,hrec⟩:=(hL _ _ _).1 hLj;by_cases hi:i<ts.length
 ·have hi':(i:Int)<ts.length:=by omega
  obtain⟨q,qo,E,a1,a2,a3,a4,hx4,e4,a5⟩:=(h.imp (fun e x h=>h.gr hg) (fun r p e=>⟨p,hg.same r e⟩):LstAt (TyC P S) P S v 4 ts).elem hi;have hadd1:IntKind.i64.wrap ((i:Int)+1)=((i+1:Nat):Int):=by rw[Jx (by omega) (by omega)];rfl
  simp only[XZ,simprocAttr,f0,f1,f7,f8,hi',a1,a4];refine Je (by simpa using hc i hi S E hg hx4) ?_;rintro _ S2 ⟨g2,rfl⟩;rw[List.drop_eq_getElem_cons hi,firstI]at hrec
  cases hp:p ts[i]with
  | true=>
    rw[if_pos hp]at hrec;simp only[XZ,simprocAttr,f0,f1,f7,f8];refine fin _ _ (fun r e=>(hg.trans g2).same r e) fun _=> ?_;rw[hrec]
  | false=>
    rw[if_neg (by rw[hp];simp)]at hrec;simp only[XZ,simprocAttr,f0,f1,f7,f8,hadd1];exact⟨ts.length-(i+1),by omega,(hL _ _ _).2 ⟨i+1,hg.trans g2,by omega,f0,f1,f7,rfl,hrec⟩⟩
 ·have hi':¬(i:Int)<ts.length:=by omega
  have hie:i=ts.length:=by omega
  rw[hie,List.drop_length,firstI]at hrec;simp only[XZ,simprocAttr,f0,f1,f7,f8,hi'];refine fin _ _ (fun r e=>hg.same r e) fun _=> ?_;rw[hrec]
theorem JaM {P:Pt->Prop}{st:St}{v:V}{ts:List Ty}{g:Nat}{fa fb:List V}(p:Ty->Bool)(hw:WF st)(h:LstAt (TyC P st) P st v 4 ts)(hl:ts.length<1000000)
  (hc:∀i (hi:i<ts.length) (S:St) (e:List V),Gr st S->TyC P S e ts[i]->Does (tabT tabD) g (fa++[.agg e]++fb) S fun v S'=>Gr S S'/\v= .bool (p ts[i])):
  Does (tabT tabD) kY [v, .fn g fa fb] st fun v' st'=>Gr st st'/\v'= .bool (ts.any p):=by
 refine JW tabM kE rfl hw fun K fin=> ?_;simp only[JO,XZ,simprocAttr];refine Je (JkE p hw h hl hc) ?_;rintro _ S2 ⟨g2,rfl⟩;have ha:=Jey p ts 0
 cases hf:firstI p ts 0 with
 | none=>
   rw[hf]at ha;simp only[XZ,simprocAttr];refine fin _ _ (fun r e=>g2.same r e) fun _=> ?_;rw[<-ha];rfl
 | some j=>
   rw[hf]at ha;have h0:(0:Int)<=(j:Int):=by omega
   simp only[XZ,simprocAttr,h0];refine fin _ _ (fun r e=>g2.same r e) fun _=> ?_;rw[<-ha];rfl
theorem optsC :∀(m:Nat) (ty:Ty),tsz ty<m->∀(P:Pt->Prop) (st:St) (kr rm:Pt) (l:List (Str×Ty)) (met:Nat) (e:List V),WF st->LookAt P st kr rm l met->TyC P st e ty->l.length<1000000->cntT ty<1000000->
  Does (tabT tabD) Jar [.ptr kr 0, .agg e] st fun v st'=>Gr st st'/\v= .bool (optsS l ty)
 |0,_,h=>absurd h (by omega)
 | m+1, .mk k nm ns ks,hm=>by
   intro P st kr rm l met e hw hL hx hl hsz;refine JW tabM qM rfl hw fun K fin=> ?_;obtain⟨n,hn0⟩:=nxE st;obtain⟨nv,kv,es,rfl,x1,x2,x3,x4⟩:=hx.inv';have l2:=x2.len;rw[x3]at l2;have hS:=Ji1 l k nm ns ks;have g0:Gr st (st.new fun t=> .cells t [.int .i64 k,ofL nm,nv,kv]):=Gr.new hw (Ja _);have ok0:=fun k=>nes (JE hw hn0 hL.krne k);have orm:=fun k=>nes (JE hw hn0 hL.mapne k);have hlen:ks.length<1000000:=by have h1:=JdB ks;rw[jg]at hsz;omega
   have cl1:(ks.length=1)->((ks.length:Int)=1)=True:=fun h=>eq_true (by omega);have cl2:¬(ks.length=1)->((ks.length:Int)=1)=False:=fun h=>eq_false (by omega);have hx2:LstAt (TyC P st) P st kv 4 ks:=⟨es,x2,x3,x4⟩
   obtain⟨B,hB⟩:∃B:Bool,B=(if k=6/\ks.length=1 then decide ((openT l l.length (ks.headD zeroTy)).kind=6)else false):=⟨_,rfl⟩
   rw[<-hB]at hS;obtain⟨I,hI⟩:=opE fun fr S=>(Gr st S/\fr 0= .ptr kr 0/\fr 3= .ptr (up 0 n) 0/\S.row (up 0 n)= .cells st.t [.int .i64 k,ofL nm,nv,kv]/\B=false)
   simp only[KG,XY,simprocAttr];rw[Jb];simp only[XY,simprocAttr,hn0,x1.cells,x2.cells,x1.sc,x2.sc];have r0:(st.new fun t=> .cells t [.int .i64 k,ofL nm,nv,kv]).row (up 0 n)= .cells st.t [.int .i64 k,ofL nm,nv,kv]:=by simp only[XZ,simprocAttr,hn0]
   refine Qc I ?_ ?_
   ·by_cases k6:k=6
    ·have k6':(k=6)=True:=eq_true k6;by_cases c1:ks.length=1
     ·rw[if_pos ⟨k6,c1⟩]at hB;have hi0:0<ks.length:=by omega
      obtain⟨x,hx0⟩:∃x,ks=[x]:=List.length_eq_one_iff.1 c1;obtain⟨q,qo,E,a1,a2,a3,a4,hxE,e4,a5⟩:=hx2.elem hi0;have a1:iaddrSV 4 kv (.int .i64 0)=some (.ptr q qo, .no):=a1;have hxE:TyC P st E x:=by subst hx0;exact hxE
      have hhead:ks.headD zeroTy=x:=by rw[hx0];rfl
      rw[hhead]at hB;have oq:=fun k=>nes (JE hw hn0 a3 k);have eok:=hxE.ok;have espl:splice [.int .i64 0,ofL [], .snil, .snil] 0 E=E:=YJ (by rw[e4];rfl);obtain⟨tk,ck⟩:=hL.cell;obtain⟨em,hmm,hml,_⟩:=hL.map;obtain⟨tm,hmm⟩:=hmm;have hml':((em.map fun p=>(p.1,V.agg p.2)).map fun p=>(ofL p.1,p.2)).length=l.length:=by simp[hml]
      have hrng:∀S:St,S.row rm=st.row rm->rngMV S (.map rm)=some (.ptr S.nx 0, .new fun t=> .mit t (some rm) l.length 0):=fun S hS=>by rw[Jqx (hS.trans hmm),hml']
      simp only[XM,simprocAttr,hn0,l2,k6',cl1 c1,a1,oq,a4,e4,eok,espl,ok0,ck,Jqw,Js1,hrng,orm];obtain⟨L,hLp⟩:=loE fun j fr S=>∃(i t1 t2:Nat) (c:List V),j+i=l.length/\Gr st S/\fr 0= .ptr kr 0/\fr 3= .ptr (up 0 n) 0/\fr 5= .ptr (up 1 n) 0/\fr 23= .ptr (up 2 n) 0/\S.row (up 0 n)= .cells st.t [.int .i64 k,ofL nm,nv,kv]/\S.row (up 1 n)= .cells t1 c/\TyC (fun r=>P r/\st.row r≠ .none) S c (openT l i x)/\S.row (up 2 n)= .mit t2 (some rm) l.length i;have gS:Gr st ((((st.new fun t=> .cells t [.int .i64 k,ofL nm,nv,kv]).new fun t=> .cells t [.int .i64 0,ofL [], .snil, .snil]).wr (up 1 n) (st.new fun t=> .cells t [.int .i64 k,ofL nm,nv,kv]).t fun u=> .cells u E).new fun t=> .mit t (some rm) l.length 0):=(g0.nw (by simp only[YF,hn0,Yw,Nat.zero_add]) (Ja _) (Ja _)).nn fun u=>⟨rfl,fun e=>by cases e⟩
      refine JK L l.length hl ((hLp _ _ _).2 ⟨0,_,_,E,by omega,gS,rfl,rfl,rfl,rfl,by simp only[XZ,simprocAttr,hn0],by simp only[XZ,simprocAttr,hn0];rfl,(hxE.imp fun r p e=>⟨⟨p,e⟩,rfl⟩:TyC (fun r=>P r/\st.row r≠ .none) st E x).gr gS,by simp only[XZ,simprocAttr,hn0];rfl⟩) ?_;intro j fr S hLj;obtain⟨i,t1,t2,c,hj,hg,f0,f3,f5,f23,r0,r1,hc,r2⟩:=(hLp _ _ _).1 hLj;have hmS:S.row rm= .mob tm ((em.map fun p=>(p.1,V.agg p.2)).map fun p=>(ofL p.1,p.2)):=(hg.same rm hL.mapne).trans hmm;have ckS:=hg.cells ck;have c4:=hc.four;obtain⟨T,hT⟩:∃T,T=openT l i x:=⟨_,rfl⟩
      rw[<-hT]at hc;have hlast:=kN l i x;rw[<-hT]at hlast;obtain⟨k',n',ns',ks'⟩:=T;have hlast:openT l (i+1) x=if k'=9 then(defN l n').getD zeroTy else .mk k' n' ns' ks':=hlast;obtain⟨nv',kv',es',rfl,y1,y2,y3,y4⟩:=hc.inv';have hq0:=nx0 hw hn0;have rne2:=Jc6 2 1 n;by_cases hi:i<l.length
      ·have hnx:=Jkp (st:=S) (q:=up 2 n) (r:=rm) (n:=i) (t:=t2) (es:=((em.map fun p=>(p.1,V.agg p.2)).map fun p=>(ofL p.1,p.2))) (by rw[hml'];exact r2) hmS (by rw[hml'];exact hi);rw[hml']at hnx;have g2:Gr st (S.wr (up 2 n) t2 fun u=> .mit u (some rm) l.length (i+1)):=hg.wr (hq0 2) (by rw[r2];exact fun e=>by cases e) (by rw[r2];rfl) fun u=>⟨rfl,fun e=>by cases e⟩
       have o2m:=nes (JE hw hn0 hL.mapne 2);have o2k:=nes (JE hw hn0 hL.krne 2);by_cases k9:k'=9
       ·have k9':(k'=9)=True:=eq_true k9;obtain⟨zv,hz,hz2⟩:=hL.map.look (.agg [.int .i64 0,ofL [], .snil, .snil]) n';have hz':∃c',zv= .agg c'/\TyC P st c' ((defN l n').getD zeroTy):=by
         cases hd:defN l n' with
         |none=>rw[hd]at hz2;exact⟨_,hz2,Jor P st⟩
         |some t=>rw[hd]at hz2;obtain⟨c',a,b⟩:=hz2;exact⟨c',a,b⟩
        obtain⟨c',rfl,hc'⟩:=hz';have hlk:∀S':St,S'.row rm=S.row rm->lookupV S' (.one .s) (.agg [.int .i64 0,ofL [], .snil, .snil]) false (.map rm) (ofL n')=some (.agg c', .no):=fun S' hS'=>by
         have:=hz false S' (hS'.trans (hg.same rm hL.mapne));simpa using this
        have c'4:=hc'.four;have c'ok:=hc'.ok;have csp:splice [.int .i64 k',ofL n',nv',kv'] 0 c'=c':=YJ (by rw[c'4];rfl);simp only[XM,simprocAttr,f0,f3,f5,f23,JbM,JdA,hnx,r1,k9',ckS,hlk,o2m,o2k,c'4,c'ok,csp];have r1':(S.wr (up 2 n) t2 fun u=> .mit u (some rm) l.length (i+1)).row (up 1 n)= .cells t1 [.int .i64 k',ofL n',nv',kv']:=by rw[Jo,if_neg (by rw[Jc6];decide)];exact r1
        have g3:Gr st ((S.wr (up 2 n) t2 fun u=> .mit u (some rm) l.length (i+1)).wr (up 1 n) t1 fun u=> .cells u c'):=g2.wr (hq0 1) (Jd r1') (by rw[r1'];rfl) (Ja _);refine⟨l.length-(i+1),by omega,(hLp _ _ _).2 ⟨i+1,_,_,c',by omega,g3,f0,f3,f5,f23,by simp only[XZ,simprocAttr];exact r0,by simp only[XZ,simprocAttr]<;>rfl, ?_,by simp only[XZ,simprocAttr]<;>rfl⟩⟩;rw[hlast,if_pos k9];exact(hc'.imp fun r p e=>⟨⟨p,e⟩,rfl⟩:TyC (fun r=>P r/\st.row r≠ .none) st c' _).gr g3
       ·have k9':(k'=9)=False:=eq_false k9;simp only[XZ,simprocAttr,f0,f3,f5,f23,JbM,JdA,hnx,r1,k9'];refine⟨l.length-(i+1),by omega,(hLp _ _ _).2 ⟨i+1,t1,_,[.int .i64 k',ofL n',nv',kv'],by omega,g2,f0,f3,f5,f23,by simp only[XZ,simprocAttr];exact r0,by simp only[XZ,simprocAttr];exact r1, ?_,by simp only[XZ,simprocAttr]<;>rfl⟩⟩;rw[hlast,if_neg k9];exact hc.imp fun r p e=>⟨p,JR _ _ _ (JE hw hn0 p.2 2)⟩
      ·have hie:i=l.length:=by omega
       have hnx:=Jkq (st:=S) (q:=up 2 n) (r:=rm) (n:=i) (t:=t2) (es:=((em.map fun p=>(p.1,V.agg p.2)).map fun p=>(ofL p.1,p.2))) (by rw[hml'];exact r2) hmS (by rw[hml'];exact hi);rw[<-hie,<-hT]at hB;have hB:B=decide (k'=6):=hB;by_cases k6x:k'=6
       ·have k6x':(k'=6)=True:=eq_true k6x;simp only[XZ,simprocAttr,f0,f3,f5,f23,JbM,JdA,hnx,r1,k6x'];refine fin _ _ (fun r e=>hg.same r e) fun _=> ?_;rw[hS,hB,decide_eq_true k6x];rfl
       ·have k6x':(k'=6)=False:=eq_false k6x;simp only[XZ,simprocAttr,f0,f3,f5,f23,JbM,JdA,hnx,r1,k6x'];exact(hI _ _).2 ⟨hg,f0,f3,r0,by rw[hB];exact decide_eq_false k6x⟩
     ·rw[if_neg (fun h=>c1 h.2)]at hB;simp only[XZ,simprocAttr,hn0,l2,k6',cl2 c1];exact(hI _ _).2 ⟨g0,rfl,rfl,r0,hB⟩
    ·have k6':(k=6)=False:=eq_false k6;rw[if_neg (fun h=>k6 h.1)]at hB;simp only[XZ,simprocAttr,hn0,l2,k6'];exact(hI _ _).2 ⟨g0,rfl,rfl,r0,hB⟩
   ·intro fr S hIf;obtain⟨hg,f0,f3,r0,hBf⟩:=(hI _ _).1 hIf;simp only[XZ,simprocAttr,f0,f3,r0];refine Je (JaM (fa:=[.ptr kr 0]) (fb:=[]) (optsS l) hg.wf (hx2.imp (fun e x h=>h.gr hg) fun r p e=>⟨p,hg.same r e⟩) hlen fun i hi S' E' g' hE'=> ?_) ?_
    ·have h1:=q9 hi;have h2:=jg k nm ns ks;exact optsC m ks[i] (by have:=jf (k:=k) (n:=nm) (ns:=ns) hi;omega) P S' kr rm l met E' g'.wf (hL.gr (hg.trans g')) hE' hl (by omega)
    ·rintro _ S2 ⟨g2,rfl⟩;simp only[XZ,simprocAttr];refine fin _ _ (fun r e=>(hg.trans g2).same r e) fun _=> ?_;rw[hS,hBf,kO];rfl
theorem types0 {P:Pt->Prop}{st:St}{v:V}(h:LstAt (NmC P st) P st v 5 []):Does (tabT tabD) Jfs [v] st fun v' st'=>v'= .int .i64 0/\st=st':=by
 refine JA Je0 rfl ?_;simp only[Q0,XZ,simprocAttr,h.nil_len];refine QY (by decide) ?_;simp only[XZ,simprocAttr]
theorem sigs0 {P:Pt->Prop}{st:St}{v:V}{kr:Pt}(h:LstAt (SgC P st) P st v 6 []):Does (tabT tabD) Jaq [.ptr kr 0,v] st fun v' st'=>v'= .int .i64 0/\st=st':=by
 refine JA qL rfl ?_;simp only[KF,XZ,simprocAttr,h.nil_len];refine QY (by decide) ?_;simp only[XZ,simprocAttr]
theorem named0 {P:Pt->Prop}{st:St}{e:List V}{s:Sch}(hw:WF st)(h:SchC P st e s)(h0:s.types=[]):Does (tabT tabD) Jft [.agg e] st fun v' st'=>Gr st st'/\∃r,v'= .map r/\st.row r= .none/\∃t,st'.row r= .mob t []:=by
 refine JW tabM Je1 rfl hw fun K fin=> ?_;obtain⟨n,hn0⟩:=nxE st;have hold:=fun r (h:st.row r≠ .none)=>YT hw hn0 h;obtain⟨c,tv,sv,rfl,h1,h2,h3⟩:=h;obtain⟨k,nm,ns,ks⟩:=s.main;obtain⟨nv,kv,es,rfl,x1,x2,x3,x4⟩:=h1.inv;rw[h0]at h2;simp only[Q1,XZ,simprocAttr,hn0,x1.sc,x2.sc,h2.sc.1,h3.sc.1,h2.nil_len];refine QY (by decide) ?_;simp only[XZ,simprocAttr];refine fin _ _ (fun r e=>by simp only[Kb,YF,hn0,Yw,hold r e,if_false]) fun _=>⟨up 1 n,rfl,nx0 hw hn0 1,_,by simp only[XZ,simprocAttr,hn0];rfl⟩
theorem every0 {P Q:Pt->Prop}{st:St}{e:List V}{s:Sch}(hw:WF st)(h:SchC P st e s)(h0:s.types=[])(h00:s.sigs=[])(hQ:∀r,P r->Q r)(hN:∀r,st.row r= .none->Q r):Does (tabT tabD) Jfu [.agg e] st fun v' st'=>Gr st st'/\LstAt (TyC Q st') Q st' v' 4 [s.main]:=by
 refine JW tabM Je2 rfl hw fun K fin=> ?_;obtain⟨n,hn0⟩:=nxE st;have hold:=fun r (h:st.row r≠ .none)=>YT hw hn0 h;obtain⟨c,tv,sv,rfl,h1,h2,h3⟩:=h;obtain⟨M,hM⟩:∃M,M=s.main:=⟨_,rfl⟩
 rw[<-hM]at h1;simp only[<-hM]at fin;obtain⟨k,nm,ns,ks⟩:=M;have h1':=h1;obtain⟨nv,kv,es,rfl,x1,x2,x3,x4⟩:=h1.inv';rw[h0]at h2;rw[h00]at h3;simp only[Q2,XZ,simprocAttr,hn0,x1.sc,x2.sc,x1.cells,x2.cells,h2.sc.1,h3.sc.1,h2.nil_len];refine QY (by decide) ?_;simp only[XZ,simprocAttr,hn0,x1.sc,x2.sc,x1.cells,x2.cells];have g:Gr st ((st.new fun t=> .cells t [.int .i64 k,ofL nm,nv,kv,tv,sv]).new fun t=> .cells t [.int .i64 k,ofL nm,nv,kv]):=(Gr.new hw (Ja _)).nn (Ja _);have happ:∀S:St,S.row (up 1 n)= .cells (st.t+1) [.int .i64 k,ofL nm,nv,kv]->appV S 4 .snil (.slx (up 1 n) 0 1 4 1)=some (.sl S.nx 0 1 4, .new fun t=> .cells t [.int .i64 k,ofL nm,nv,kv]):=fun S hS=>by
  simp only[appV,slen,JD,loadN,hS];simp only[Nat.le_refl,true_and,if_true,Nat.one_mul,List.length_cons,List.length_nil,Nat.zero_add,Nat.reduceAdd,List.drop_zero];rw[show([V.int .i64 k,ofL nm,nv,kv].take 4)=[.int .i64 k,ofL nm,nv,kv]from rfl];simp only[jV,Jhe,Jhf,x1.sc,x2.sc,qY,Bool.and_self];rfl
 have hrow:((st.new fun t=> .cells t [.int .i64 k,ofL nm,nv,kv,tv,sv]).new fun t=> .cells t [.int .i64 k,ofL nm,nv,kv]).row (up 1 n)= .cells (st.t+1) [.int .i64 k,ofL nm,nv,kv]:=by simp only[Kb,YF,hn0,Yw,Nat.zero_add,if_true];rfl
 simp only[happ _ hrow,XZ,simprocAttr,hn0,h3.nil_len];refine QY (by decide) ?_;simp only[XZ,simprocAttr];have g3:Gr st (((st.new fun t=> .cells t [.int .i64 k,ofL nm,nv,kv,tv,sv]).new fun t=> .cells t [.int .i64 k,ofL nm,nv,kv]).new fun t=> .cells t [.int .i64 k,ofL nm,nv,kv]):=g.nn (Ja _);refine fin _ _ (fun r e=>g3.same r e) fun _=>⟨[[.int .i64 k,ofL nm,nv,kv]], ?_,rfl,fun i a b=> ?_⟩
 ·exact⟨fun e he=>by rw[List.mem_singleton.1 he];rfl, .inr ⟨up 2 n,0,hN _ (nx0 hw hn0 2), .inl rfl,[.int .i64 k,ofL nm,nv,kv], .inl ⟨_,by simp only[XZ,simprocAttr,hn0];rfl⟩,by simp,by simp⟩⟩
 ·have:i=0:=by simp at b;omega
  subst this;exact(h1'.imp fun r p e=>⟨hQ r p,g3.same r e⟩)
theorem checkS0 {s:Sch}(h0:s.types=[])(h00:s.sigs=[]):checkS s=if(mayS (hasN []) s.main 1 0).1≠0 then(mayS (hasN []) s.main 1 0).1 else if optssS [] [s.main]then 17 else 0:=by
 unfold checkS everyS;rw[h0,h00];simp only[List.length_nil,List.map_nil,typesS,Yh,sigsS];simp
theorem check0 {P:Pt->Prop}{st:St}{e:List V}{s:Sch}(hw:WF st)(h:SchC P st e s)(h0:s.types=[])(h00:s.sigs=[]):Does (tabT tabD) Jfn [.agg e] st fun v' st'=>Gr st st'/\v'= .int .i64 (checkS s):=by
 refine JW tabM JeY rfl hw fun K fin=> ?_;obtain⟨n,hn0⟩:=nxE st;have hchk:=checkS0 h0 h00;have hsch:=h;obtain⟨c,tv,sv,rfl,h1,h2,h3⟩:=h;obtain⟨M,hM⟩:∃M,M=s.main:=⟨_,rfl⟩
 rw[<-hM]at h1 hchk;obtain⟨k,nm,ns,ks⟩:=M;have h1':=h1;obtain⟨nv,kv,es,rfl,x1,x2,x3,x4⟩:=h1.inv';rw[h0]at h2;rw[h00]at h3;have g0:Gr st (st.new fun t=> .cells t [.int .i64 k,ofL nm,nv,kv,tv,sv]):=Gr.new hw (Ja _);have r0:(st.new fun t=> .cells t [.int .i64 k,ofL nm,nv,kv,tv,sv]).row (up 0 n)= .cells st.t [.int .i64 k,ofL nm,nv,kv,tv,sv]:=by simp only[XZ,simprocAttr,hn0]
 have ft:∀{S:St},Gr st S->LstAt (NmC P S) P S tv 5 []:=fun g=>h2.imp (fun e x h=>h.imp fun r p e=>⟨p,g.same r e⟩) fun r p e=>⟨p,g.same r e⟩
 have fs:∀{S:St},Gr st S->LstAt (SgC P S) P S sv 6 []:=fun g=>h3.imp (fun e x h=>h.imp fun r p e=>⟨p,g.same r e⟩) fun r p e=>⟨p,g.same r e⟩
 have fsch:∀{S:St},Gr st S->SchC P S ([.int .i64 k,ofL nm,nv,kv]++[tv,sv]) s:=fun g=>hsch.imp fun r p e=>⟨p,g.same r e⟩
 simp only[QZ,XZ,simprocAttr,hn0,x1.sc,x2.sc,h2.sc.1,h3.sc.1,h2.nil_len,h3.nil_len];refine Je (types0 (ft g0)) ?_;rintro _ _ ⟨rfl,rfl⟩;simp only[XZ,simprocAttr,hn0];refine Je (named0 g0.wf (fsch g0) h0) ?_;rintro _ S1 ⟨g1,rm,rfl,hrm,tm,mrm⟩;have G1:=g0.trans g1;have b1:=g1.cells r0;obtain⟨n1,hn1⟩:=nxE S1;have w1:=g1.wf;have o10:=fun k=>nes (JE w1 hn1 (Jd b1) k);have hrm1:S1.row rm≠ .none:=by rw[mrm];exact fun e=>by cases e
 have spl:splice [.mnil, .int .i64 0] 0 [.map rm]=[.map rm, .int .i64 0]:=rfl;simp only[XZ,simprocAttr,hn1,o10,b1,JlP,Jep,h2.nil_len];refine QY (by decide) ?_;have gL:Gr S1 (S1.new fun t=> .cells t [.map rm, .int .i64 0]):=Gr.new w1 (Ja _);have hL0:LookAt (fun r=>P r/\st.row r≠ .none) (S1.new fun t=> .cells t [.map rm, .int .i64 0]) (up 0 n1) rm [] 0:=by
  refine⟨⟨[],⟨tm, ?_⟩,rfl,fun i h=>absurd h (by simp)⟩,⟨S1.t, ?_⟩,fun r p=> ?_,JE w1 hn1 hrm1 0⟩
  ·rw[gL.same rm hrm1,mrm];rfl
  ·simp only[XZ,simprocAttr,hn1]<;>rfl
  ·exact JE w1 hn1 (by rw[G1.same r p.2];exact p.2) 0
 have lv:∀{S:St} {T:Ty} {E:List V},Gr st S->TyC P st E T->TyC (fun r=>P r/\st.row r≠ .none) S E T:=fun g h=>h.imp fun r p e=>⟨⟨p,e⟩,g.same r e⟩
 have b2:=gL.cells b1;have G2:=G1.trans gL;simp only[XZ,simprocAttr,hn1,o10,b1];refine Je (mayD (deep:=1) gL.wf hL0 (lv G2 h1') (by decide) (by decide)) ?_;rintro _ S2 ⟨c2,L2,rfl⟩;have q1:st.row (up 0 n1)= .none:=Ch.fresh (Ch.of (fun _=>False) G1) (nx0 w1 hn1 0);have G3:Ch (fun _=>False) st S2:=(Ch.of _ G2).trans c2 fun r w=> .inr (by rw[w];exact q1);have b3:S2.row (up 0 n)= .cells st.t [.int .i64 k,ofL nm,nv,kv,tv,sv]:=by rw[c2.same _ (Jd b2) (JE w1 hn1 (Jd b1) 0),b2]
 have w2:=c2.wf;have ft':∀{S:St},Ch (fun _=>False) st S->LstAt (NmC P S) P S tv 5 []:=fun g=>h2.imp (fun e x h=>h.imp fun r p e=>⟨p,g.same r e id⟩) fun r p e=>⟨p,g.same r e id⟩
 have fs':∀{S:St},Ch (fun _=>False) st S->LstAt (SgC P S) P S sv 6 []:=fun g=>h3.imp (fun e x h=>h.imp fun r p e=>⟨p,g.same r e id⟩) fun r p e=>⟨p,g.same r e id⟩
 have fsch':∀{S:St},Ch (fun _=>False) st S->SchC (fun r=>P r/\st.row r≠ .none) S ([.int .i64 k,ofL nm,nv,kv]++[tv,sv]) s:=fun g=>hsch.imp fun r p e=>⟨⟨p,e⟩,g.same r e id⟩
 have hcnt:=Jez (hasN []) (.mk k nm ns ks) 1 0;have hm4:=kn (hasN []) (.mk k nm ns ks) 1 0 (by decide);by_cases he:(mayS (hasN []) (.mk k nm ns ks) 1 0).1=0
 ·have he':((mayS (hasN []) (.mk k nm ns ks) 1 0).1=0)=True:=eq_true he;rw[if_neg (fun h=>h he)]at hchk;simp only[XZ,simprocAttr,he',b3];refine Je (sigs0 (fs' G3)) ?_;rintro _ _ ⟨rfl,rfl⟩;simp only[XZ,simprocAttr,b3,(ft' G3).nil_len];refine QY (by decide) ?_;simp only[XZ,simprocAttr,b3];refine Je (every0 (Q:=fun r=>(P r/\st.row r≠ .none)\/S2.row r= .none) w2 (fsch' G3) h0 h00 (fun r p=> .inl p) (fun r p=> .inr p)) ?_;rintro ev S4 ⟨g4,hev⟩;rw[<-hM]at hev;have hcn:cntT (.mk k nm ns ks)<1000000:=by have h1:=hcnt he;have h2:=hm4.2 he;omega
  have hL4:LookAt (fun r=>(P r/\st.row r≠ .none)\/S2.row r= .none) S2 (up 0 n1) rm [] (mayS (hasN []) (.mk k nm ns ks) 1 0).2:=by
   refine⟨⟨[], ?_,rfl,fun i h=>absurd h (by simp)⟩,L2.cell,fun r p=> ?_,L2.ne⟩
   ·obtain⟨es',h5,h6,_⟩:=L2.map;rw[List.length_eq_zero_iff.1 h6]at h5;exact h5
   ·rcases p with p|p
    ·exact L2.sep r p
    ·exact fun e=>L2.krne (by rw[<-e];exact p)
  simp only[XZ,simprocAttr];refine Je (JaM (fa:=[.ptr (up 0 n1) 0]) (fb:=[]) (optsS []) g4.wf hev (by simp) fun i hi S' E' g' hE'=> ?_) ?_
  ·have:i=0:=by simp at hi;omega
   subst this;exact optsC _ _ (Nat.lt_succ_self _) _ S' (up 0 n1) rm [] _ E' g'.wf (hL4.gr (g4.trans g')) hE' (by decide) hcn
  ·rintro _ S5 ⟨g5,rfl⟩;have GF:∀r,st.row r≠ .none->S5.row r=st.row r:=fun r e=>by
    have e2:=G3.same r e id;rw[(g4.trans g5).same r (by rw[e2];exact e),e2]
   cases ho:[Ty.mk k nm ns ks].any (optsS [])with
   | true=>
     simp only[XZ,simprocAttr];refine fin _ _ GF fun _=> ?_;rw[hchk,kO,ho];rfl
   | false=>
     simp only[XZ,simprocAttr];refine fin _ _ GF fun _=> ?_;rw[hchk,kO,ho];rfl
 ·have he':((mayS (hasN []) (.mk k nm ns ks) 1 0).1=0)=False:=eq_false he;rw[if_pos he]at hchk;simp only[XZ,simprocAttr,he'];refine fin _ _ (fun r e=>G3.same r e id) fun _=> ?_;rw[hchk]
end Go.Proofs.YtcgiahehkobpcaaGreat
