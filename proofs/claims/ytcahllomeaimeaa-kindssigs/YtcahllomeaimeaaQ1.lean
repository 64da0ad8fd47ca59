/- Slices copied: what Clone answers. The key of a node. A node laid in a table. A type added to a table. Nodes of a table, opened. A type opened. An Opt's number. Which types fit. Which types fit: by names; a pair opened; pairs gone through. Which types fit: a pair opened; pairs gone through; Le. Names: what Ident and Builtin tell. What is wrong with a type. No condition. -/
import Derived.Test.YtcahllomeaimeaaMon
set_option linter.unusedVariables false
set_option linter.unusedSimpArgs false
set_option maxRecDepth 100000
namespace Go.Proofs.Ytcahllomeaimeaa
open Eva Go.RowKit
theorem Jb1 {P Q:Pt->Prop}{st:St}{v:V}{es:List (List V)}(hw:WF st)(h:SlAt P st v 1 es)(hok:okC es)(hn:es.length<2^20)(hQ:∀r,st.row r= .none->Q r):
  Does (tabT tabD) JaA [v] st fun v' st'=>Gr st st'/\SlAt Q st' v' 1 es:=by
 refine Does.gr tabM hw (Jv qH rfl ?_)
 obtain⟨n,hn0⟩:∃n,st.nx=up 0 n:=⟨_,up0 _⟩
 have hold:=fun r (h:st.row r≠ .none)=>QP hw hn0 h
 rcases h.2 with⟨rfl,rfl⟩|⟨r,o,hp,hv,l,hl,h1,h2⟩
 ·have e1:eqV (.one .l) false .snil .snil=some (.bool true, .no):=rfl
  simp only[JR,XZ,simprocAttr,e1]
  exact⟨fun _ _=>trivial,SlAt.nil _ _ _⟩
 ·have e1:eqV (.one .l) false v .snil=some (.bool false, .no):=by rcases hv with rfl|⟨c,_,rfl⟩<;>rfl
  have h':SlAt P (st.new fun t=> .cells t []) v 1 es:=h.imp fun r p e=>⟨p,JZ hw _ e⟩
  have r0:=JD st fun t=> .cells t []
  have ha:appV (st.new fun t=> .cells t []) 1 (.slx st.nx 0 0 1 0) v=if 0<es.length then some (.sl (st.new fun t=> .cells t []).nx 0 es.length 1, .new fun u=> .cells u es.flatten)else some (.slx st.nx 0 0 1 0, .no):=by
   by_cases h0:0<es.length
   ·rw[if_pos h0];exact JbO h' hok hn h0 r0
   ·rw[if_neg h0]
    have:es=[]:=List.length_eq_zero_iff.1 (by omega)
    subst this
    exact Jao h'
  rw[hn0]at ha
  by_cases h0:0<es.length
  ·simp only[h0]at ha
   simp only[JR,XZ,simprocAttr,e1,hn0,Jcw,ha]
   refine⟨fun r hr=>by simp only[hold r hr,if_false], ?_⟩
   refine SlAt.fresh (t:=(st.new fun t=> .cells t []).t) (by simp only[XZ,simprocAttr,hn0]) (hQ _ ?_) h.1
   exact nx0 hw hn0 1
  ·simp only[h0]at ha
   simp only[JR,XZ,simprocAttr,e1,hn0,Jcw,ha]
   refine⟨fun r hr=>by simp only[hold r hr,if_false], ?_⟩
   have:es=[]:=List.length_eq_zero_iff.1 (by omega)
   subst this
   exact SlAt.freshx (t:=st.t) (by simp only[XZ,simprocAttr,hn0,List.flatten_nil]) (hQ _ (nx0 hw hn0 0)) h.1
theorem Jbl {P Q:Pt->Prop}{st:St}{v:V}{es:List (List V)}(hw:WF st)(h:SlAt P st v 1 es)(hok:okC es)(hn:es.length<2^20)(hQ:∀r,st.row r= .none->Q r):
  Does (tabT tabD) jG [v] st fun v' st'=>Gr st st'/\SlAt Q st' v' 1 es:=by
 refine Does.gr tabM hw (Jv jw rfl ?_)
 obtain⟨n,hn0⟩:∃n,st.nx=up 0 n:=⟨_,up0 _⟩
 have hold:=fun r (h:st.row r≠ .none)=>QP hw hn0 h
 rcases h.2 with⟨rfl,rfl⟩|⟨r,o,hp,hv,l,hl,h1,h2⟩
 ·have e1:eqV (.one .l) false .snil .snil=some (.bool true, .no):=rfl
  simp only[JK,XZ,simprocAttr,e1]
  exact⟨fun _ _=>trivial,SlAt.nil _ _ _⟩
 ·have e1:eqV (.one .l) false v .snil=some (.bool false, .no):=by rcases hv with rfl|⟨c,_,rfl⟩<;>rfl
  have h':SlAt P (st.new fun t=> .cells t []) v 1 es:=h.imp fun r p e=>⟨p,JZ hw _ e⟩
  have r0:=JD st fun t=> .cells t []
  have ha:appV (st.new fun t=> .cells t []) 1 (.slx st.nx 0 0 1 0) v=if 0<es.length then some (.sl (st.new fun t=> .cells t []).nx 0 es.length 1, .new fun u=> .cells u es.flatten)else some (.slx st.nx 0 0 1 0, .no):=by
   by_cases h0:0<es.length
   ·rw[if_pos h0];exact JbO h' hok hn h0 r0
   ·rw[if_neg h0]
    have:es=[]:=List.length_eq_zero_iff.1 (by omega)
    subst this
    exact Jao h'
  rw[hn0]at ha
  by_cases h0:0<es.length
  ·simp only[h0]at ha
   simp only[JK,XZ,simprocAttr,e1,hn0,Jcw,ha]
   refine⟨fun r hr=>by simp only[hold r hr,if_false], ?_⟩
   refine SlAt.fresh (t:=(st.new fun t=> .cells t []).t) (by simp only[XZ,simprocAttr,hn0]) (hQ _ ?_) h.1
   exact nx0 hw hn0 1
  ·simp only[h0]at ha
   simp only[JK,XZ,simprocAttr,e1,hn0,Jcw,ha]
   refine⟨fun r hr=>by simp only[hold r hr,if_false], ?_⟩
   have:es=[]:=List.length_eq_zero_iff.1 (by omega)
   subst this
   exact SlAt.freshx (t:=st.t) (by simp only[XZ,simprocAttr,hn0,List.flatten_nil]) (hQ _ (nx0 hw hn0 0)) h.1
set_option maxHeartbeats 1000000 in
theorem keyed {P:Pt->Prop}{st:St}{e:List V}{nd:Nd}(hw:WF st)(h:NdC P st e nd)(hf:nd.fit):
  Does (tabT tabD) Jgm [.agg e] st fun v st'=>Gr st st'/\v= .agg (keyL nd):=by
 refine Does.gr tabM hw (Jv Jex rfl ?_)
 obtain⟨n,hn0⟩:∃n,st.nx=up 0 n:=⟨_,up0 _⟩
 have hold:=fun r (h:st.row r≠ .none)=>QP hw hn0 h
 obtain⟨nv,kv,rfl,h1,h2⟩:=h
 have l1:=h1.len;have l2:=h2.len
 rw[JL]at l1;rw[Kq]at l2
 simp only[Q5,XZ,simprocAttr,hn0,h1.cells,h2.cells,h1.sc,h2.sc,l1,l2,List.getElem?_cons_zero,List.getElem?_cons_succ]
 have hS:=fun(r:Pt) (hr:st.row r≠ .none)=>hold r hr
 refine JjT (st0:=st) (t:= ?t) (l:= ?l) h1 ?hS (jn _) ?hr ?hle ?hn ?k
 case hr=>simp only[XZ,simprocAttr,hn0];rfl
 case hS=>intro r hr;simp only[XZ,simprocAttr,hn0,hold r hr]
 case hle=>simp only[XZ,simprocAttr]
 case hn=>rw[JL];exact hf.1
 intro S1 t1 r1 o1 n1
 have q0:S1.row (up 0 n)= .cells _ _:=(o1 _ (by simp only[kM];decide)).trans (by simp only[XZ,simprocAttr,hn0];rfl)
 have q1:S1.row (up 1 n)= .cells _ _:=(o1 _ (by simp only[kM];decide)).trans (by simp only[XZ,simprocAttr,hn0];rfl)
 have eo:∀r,st.row r≠ .none->S1.row r=st.row r:=fun r hr=>(o1 r (Js hw hn0 hr 2)).trans (by simp only[XZ,simprocAttr,hn0,hold r hr])
 have m1:S1.nx=up 3 n:=n1.trans (by simp only[XZ,simprocAttr,hn0])
 clear o1 n1
 rw[Jfj,JpJ _ _ _ _ _ _ _ (by simpa using hf.1)]at r1
 obtain⟨L1,hL1⟩:∃L,L=[V.int IntKind.i64 nd.kind,V.int IntKind.i64 ↑nd.names.length,V.int IntKind.i64 ↑nd.kids.length,ofL nd.name]++(pad (nd.names.map ofL) (ofL [])++List.replicate 8 (V.int IntKind.i64 0)):=⟨_,rfl⟩
 rw[<-hL1]at r1
 have h12:20<=L1.length:=by
  rw[hL1,List.length_append,List.length_append,Jda (by simpa using hf.1),List.length_replicate];exact Nat.le_refl _
 simp only[XZ,simprocAttr,r1,q0,q1,h12]
 refine JjT (st0:=st) h2 eo (Jc9 _) r1 h12 (by rw[Kq];exact hf.2) ?_
 intro S2 t2 r2 o2 n2
 have q1:S2.row (up 1 n)= .cells _ _:=(o2 _ (by simp only[kM];decide)).trans q1
 have eo:∀r,st.row r≠ .none->S2.row r=st.row r:=fun r hr=>(o2 r (Js hw hn0 hr 2)).trans (eo r hr)
 have m1:S2.nx=up 3 n:=n2.trans m1
 clear o2 n2
 rw[JbP,hL1,JpK _ _ _ _ _ _ _ _ (by simpa using hf.1) (by simpa using hf.2)]at r2
 have r2:S2.row (up 2 n)= .cells t2 (keyL nd):=r2
 have k1:=Ja3 hf
 have k2:20<=(keyL nd).length:=by rw[k1];decide
 have k3:(keyL nd).take 20=keyL nd:=by rw[<-k1,List.take_length]
 simp only[XZ,simprocAttr,r2,q1,k2,k3,k1,JfZ]
 exact fun r hr=>by simp only[hold r hr,if_false];exact eo r hr
set_option maxHeartbeats 2000000 in
theorem lay {W F P:Pt->Prop}{st:St}{rt:Pt}{tb:Tb}{e:List V}{nd:Nd}(hw:WF st)(hT:Tab W F st rt tb)(hn:NdC P st e nd)(hf:nd.fit):
  Does (tabT tabD) Jcg [.ptr rt 0, .agg e] st fun v st'=>Ch W st st'/\(∃W' F':Pt->Prop,(∀r,W r->W' r)/\(∀r,W' r->W r\/st.row r= .none)/\(∀r,F' r->F r\/st.row r= .none)/\Tab W' F' st' rt (layS tb nd).1)/\v= .tup [.int .i64 ((layS tb nd).2.1:Nat), .int .i64 (layS tb nd).2.2]:=by
 refine Does.ch tabM hw (Jv JbA rfl ?_)
 obtain⟨lv,ra,rn,rs,es,sv,hT⟩:=hT.live
 obtain⟨n,hn0⟩:∃n,st.nx=up 0 n:=⟨_,up0 _⟩
 have hnd:=hn
 obtain⟨nv,kv,rfl,h1,h2⟩:=hn
 have g0:Gr st (st.new fun t=> .cells t [.int .i64 nd.kind,ofL nd.name,nv,kv]):=Gr.new hw fun u=>⟨rfl,fun e=>by cases e⟩
 simp only[KZ,XZ,simprocAttr,hn0,h1.cells,h2.cells,h1.sc,h2.sc]
 refine Jb (keyed (P:=P) g0.wf (hnd.gr g0) hf) ?_
 rintro _ st1 ⟨g1,rfl⟩
 have G1:=g0.trans g1
 have w1:=G1.wf
 have b0:st1.row (up 0 n)= .cells st.t [.int .i64 nd.kind,ofL nd.name,nv,kv]:=g1.cells (by simp only[XZ,simprocAttr,hn0])
 have hT1:=hT.gr G1
 have hnd1:=hnd.gr G1
 obtain⟨n1,hn1⟩:∃n,st1.nx=up 0 n:=⟨_,up0 _⟩
 have hold1:=fun r (h:st1.row r≠ .none)=>QP w1 hn1 h
 have o0:=hold1 (up 0 n) (by rw[b0];exact fun e=>by cases e)
 obtain⟨tt,c1⟩:=hT1.cell
 have ort:=hold1 rt hT1.rt_ne
 have k1:=Ja3 hf
 have k2:20<=(keyL nd).length:=by rw[k1];decide
 have k3:(keyL nd).take 20=keyL nd:=by rw[<-k1,List.take_length]
 have hfit:ekN.fit (encN nd)=true:=by
  have:(keyL nd).length==20:=by rw[k1];rfl
  exact this
 have heq:∀p∈(tb.nodes.zipIdx.map fun p=>(p.1,V.int .i64 (p.2:Int))),ekN.eq (encN nd) (encN p.1)=some (decide (nd=p.1)):=fun p hp=>by
  obtain⟨q,hq,rfl⟩:=List.mem_map.1 hp
  exact Jpk hf (hT1.fit _ (List.fst_mem_of_mem_zipIdx hq))
 have hlk:∀S:St,S.row ra=st1.row ra->lookupV S ekN (.int .i64 0) true (.map ra) (.agg (keyL nd))=some (ansL (.int .i64 0) true (at_ nd (tb.nodes.zipIdx.map fun p=>(p.1,V.int .i64 (p.2:Int)))), .no):=fun S hS=>
  Yg (enc:=encN) (hT1.key.of hS) _ _ nd heq hfit
 have ora:=hold1 ra hT1.key.ne
 have k4:splice [V.int .i64 0,V.int .i64 0,V.int .i64 0,ofL [],ofL [],ofL [],ofL [],ofL [],ofL [],ofL [],ofL [],ofL [],V.int .i64 0,V.int .i64 0,V.int .i64 0,V.int .i64 0,V.int .i64 0,V.int .i64 0,V.int .i64 0,V.int .i64 0] 0 (keyL nd)=keyL nd:=Yc (by rw[k1];rfl)
 have hlay:layS tb nd=match idx nd tb.nodes 0 with
  |some i=>(tb,i,0)
  |none=>if 120<=tb.nodes.length then(tb,0,20)else({tb with nodes:=tb.nodes++[nd]},tb.nodes.length,0):=rfl
 have g2:Gr st1 ((st1.new fun t=> .cells t zk).wr (up 0 n1) st1.t fun u=> .cells u (keyL nd)):=(Gr.refl w1).nw hn1 (Ja _) (Ja _)
 have hz:=Jf0 nd tb.nodes 0
 cases hi:idx nd tb.nodes 0 with
 | some i=>
   simp only[hi]at hlay hz
   obtain⟨_,i1,i2⟩:=JlU hi
   simp only[Nat.sub_zero]at i1 i2
   have i3:i<es.length:=by rw[hT.len];exact i1
   obtain⟨q,qo,a1,a2,a3,a4,a5,a6⟩:=hT1.elem i3
   have oq:=hold1 q a2
   simp only[XM,simprocAttr,b0,hn1,o0,ort,c1,k1,k2,k3,JfZ,k4,hlk,ora,hz,Option.map_some,ansL,a1,oq,a5]
   refine Jn (keyed (JB g2.wf _) (((hT1.nd i i3 i1).gr g2).low _) (hT1.fit _ (List.getElem_mem i1))) ?_
   rintro _ st3 g3 rfl
   rw[i2]
   have kk:st3.row (up 0 n1)= .cells _ (keyL nd):=g3.cells (by simp only[XZ,simprocAttr,hn1];rfl)
   have l1:(padI nd.kids).length=8:=by have:=hf.2;simp[padI];omega
   simp only[XZ,simprocAttr,k1,k2,Jkp hf,kk,JmT l1]
   rw[hlay]
   have G3:=G1.trans (g2.trans g3)
   exact⟨fun r h _=>G3.same r h,⟨W,_,fun _ h=>h,fun _ h=> .inl h,fun _ h=> .inl h.1,lv,ra,rn,rs,es,sv,hT.gr G3⟩,rfl⟩
 | none=>
   simp only[hi]at hlay hz
   simp only[XM,simprocAttr,b0,hn1,o0,ort,c1,k1,k2,k3,JfZ,k4,hlk,ora,hz,Option.map_none,ansL,hT1.l.len]
   by_cases h120:120<=tb.nodes.length
   ·have h120':(120:Int)<=(tb.nodes.length:Int):=by omega
    simp only[XZ,simprocAttr,h120']
    rw[hlay,if_pos h120]
    have G3:=G1.trans g2
    exact⟨fun r h _=>by have:=G3.same r h;simpa only[JQ,Jx,hn1]using this,⟨W,_,fun _ h=>h,fun _ h=> .inl h,fun _ h=> .inl h.1,lv,ra,rn,rs,es,sv,hT.gr G3⟩,rfl⟩
   have h120':¬(120:Int)<=(tb.nodes.length:Int):=by omega
   simp only[XZ,simprocAttr,h120',b0,o0,hn1]
   refine Jn (Jbl (Q:=fun r=>st.row r= .none/\¬W r/\r≠up 0 n) (JB g2.wf _) (((h1.gr G1).gr g2).low _) (jn _) (by rw[JL];have:=hf.1;omega) ?_) ?_
   ·exact fun r hr=>⟨Ch.fresh (Ch.of W (G1.trans g2)) hr,fun w=>hT.own r w (by rw[<-(G1.trans g2).same r (hT.own r w)];exact hr),fun e=>Je (g2.cells b0) (by rw[<-e];exact hr)⟩
   rintro nv' st3 g3 c3
   have c3:=c3.unlow
   have b3:st3.row (up 0 n)= .cells _ _:=g3.cells (g2.cells b0)
   simp only[XZ,simprocAttr,b3]
   refine Jn (Jb1 (Q:=fun r=>st.row r= .none/\¬W r/\r≠up 0 n) (JB g3.wf _) ((((h2.gr G1).gr g2).gr g3).low _) (Jc9 _) (by rw[Kq];have:=hf.2;omega) ?_) ?_
   ·exact fun r hr=>⟨Ch.fresh (Ch.of W ((G1.trans g2).trans g3)) hr,fun w=>hT.own r w (by rw[<-((G1.trans g2).trans g3).same r (hT.own r w)];exact hr),fun e=>Je b3 (by rw[<-e];exact hr)⟩
   rintro kv' st4 g4 c4
   have c4:=c4.unlow
   have c3:=c3.gr g4
   have b4:st4.row (up 0 n)= .cells _ _:=g4.cells b3
   have kk:st4.row (up 0 n1)= .cells _ (keyL nd):=g4.cells (g3.cells (by simp only[XZ,simprocAttr,hn1];rfl))
   have G4:Gr st st4:=((G1.trans g2).trans g3).trans g4
   have hT4:=hT.gr G4
   obtain⟨t4,d4⟩:=hT4.cell
   obtain⟨t5,m5⟩:=hT4.key
   have hne1:=nes (Js hw hn0 hT.rt_ne 0)
   have hne2:=nes (Js w1 hn1 hT1.rt_ne 0)
   have hne3:=nes (Js hw hn0 hT.key.ne 0)
   have hne4:=nes (Js w1 hn1 (Je b0) 0)
   have hne5:=nes (show rt≠ra from fun e=>by rw[e,m5]at d4;cases d4)
   have hne6:=nes (Js w1 hn1 hT1.key.ne 0)
   have hmu:∀(S:St) (v:V),S.row ra=st4.row ra->mupdV S ekN (.map ra) (.agg (keyL nd)) v=_:=fun S v hS=>qz (enc:=encN) (hS.trans m5) nd v heq hfit
   obtain⟨n4,hn4⟩:∃n,st4.nx=up 0 n:=⟨_,up0 _⟩
   have w4:=g4.wf
   have hold4:=fun r (h:st4.row r≠ .none)=>QP w4 hn4 h
   have o4a:=nes (Js w4 hn4 hT4.rt_ne 0)
   have o4b:=nes (Js w4 hn4 (Je b4) 0)
   have o4c:=nes (Js w4 hn4 hT4.key.ne 0)
   have o4d:=nes (Js w4 hn4 hT4.rt_ne 1)
   have gw:Gr st1 st1:=Gr.refl w1
   have wS:WF ((((st4.wr (up 0 n) st.t fun u=>Row.cells u [V.int IntKind.i64 nd.kind,ofL nd.name,nv',kv]).wr (up 0 n) st4.t fun u=>Row.cells u [V.int IntKind.i64 nd.kind,ofL nd.name,nv',kv']).wr ra t5 fun u=>Row.mob u
        (List.map (fun p=>(encN p.fst,p.snd)) (YB nd (V.int IntKind.i64 ↑tb.nodes.length) (List.map (fun p=>(p.fst,V.int IntKind.i64 ↑p.snd)) tb.nodes.zipIdx)))).new fun u=>Row.cells u [V.int IntKind.i64 nd.kind,ofL nd.name,nv',kv']):=by
    refine(YY (Q6 (Q6 (Q6 w4 (Je b4) (by rw[b4];rfl) (Ja _)).wf ?_ ?_ (Ja _)).wf ?_ ?_ (Kx _)).wf (Ja _)).wf
    all_goals simp only[Jx,hne3,if_true,if_false,m5]
    ·exact fun e=>by cases e
    ·rfl
    ·exact fun e=>by cases e
    ·rfl
   have hm5:st4.row ra≠ .none:=hT4.key.ne
   simp only[XZ,simprocAttr,b4,kk,d4,c3.cells,c4.cells,c3.sc,c4.sc,hne1,hne2,hne3,hne4,hne5,hne6,k2,k3,hT4.l.len,hmu,hn4]
   refine JlV (rt:=rt) (hT4.l.imp fun r t hr1 hr2 hr3=> ?_) (tq:= ?tq) (new:=[V.int IntKind.i64 nd.kind,ofL nd.name,nv',kv']) ?hq rfl ?hsc (by omega) wS ?_
   ·have e1:=nes (Js w4 hn4 (Je hr3) 0)
    have e2:=nes (Js hw hn0 (hT.own r hr1) 0)
    have e3:=nes (show r≠ra from fun e=>by rw[e,m5]at hr3;cases hr3)
    simp only[JQ,Jx,YC,hn4,e1,e2,e3,if_false]
   case hq=>simp only[JQ,Jx,YC,hn4,if_true];rfl
   case hsc=>simp only[XZ,simprocAttr,c3.sc,c4.sc]
   intro S5 t6 r5 n5 s5 x5 _
   simp only[Yb,YC,hn4,Ya,Nat.reduceAdd,Nat.zero_add]at r5 n5
   have f5:∀r,r≠up 1 n4->rowOf lv≠some r->r≠up 0 n4->r≠ra->r≠up 0 n->S5.row r=st4.row r:=fun r a1 a2 a3 a4 a5=>by
    rw[s5 r (by simp only[Yb,YC,hn4,Ya];exact a1) a2]
    simp only[JQ,Jx,YC,hn4,a3,a4,a5,if_false]
   have hlr:rowOf lv≠some rt:=fun e=>(hT.l.row e).2.1 rfl
   have d5:S5.row rt= .cells t4 [lv, .map ra, .map rn, .int .i64 tb.main, .map rs]:=by
    rw[f5 rt (Js w4 hn4 hT4.rt_ne 1) hlr (Js w4 hn4 hT4.rt_ne 0) (by have:=hne5.1;simpa using this) (Js hw hn0 hT.rt_ne 0),d4]
   simp only[XZ,simprocAttr,d5,hn4,JfU]
   rw[hlay,if_neg h120]
   have q1:st4.row (up 1 n4)= .none:=nx0 w4 hn4 1
   have q2:st.row (up 1 n4)= .none:=Classical.byContradiction fun e=>by rw[G4.same _ e]at q1;exact e q1
   refine⟨fun r hr hW=> ?_,⟨fun r=>W r\/r=up 1 n4,fun r=>(F r/\st.row r≠ .none)\/(st.row r= .none/\¬W r/\r≠up 1 n4),fun r w=> .inl w, ?_, ?_, .sl (up 1 n4) 0 (tb.nodes.length+1) 4,ra,rn,rs,es++[[.int .i64 nd.kind,ofL nd.name,nv',kv']],sv,hT.push q2 ⟨S5.t, ?_⟩ ⟨t6, ?_⟩ ⟨(((st4.wr (up 0 n) st.t fun u=>Row.cells u [V.int IntKind.i64 nd.kind,ofL nd.name,nv',kv]).wr (up 0 n) st4.t fun u=>Row.cells u [V.int IntKind.i64 nd.kind,ofL nd.name,nv',kv'])).t, ?_⟩ ?_ ?_ (fun r f=> .inl f) ?_ ?_ hf hi (by omega)⟩, ?_⟩
   ·have e1:r≠rt:=fun e=>hW (by rw[e];exact hT.w.1)
    have e4:st4.row r≠ .none:=by rw[G4.same r hr];exact hr
    simp only[e1,if_false]
    rw[f5 r (Js w4 hn4 e4 1) (fun e=>hW (hT.l.row e).1) (Js w4 hn4 e4 0) (fun e=>hW (by rw[e];exact hT.w.2.1)) (Js hw hn0 hr 0),G4.same r hr]
   ·rintro r (w|rfl)
    ·exact .inl w
    ·exact .inr q2
   ·rintro r (f|f)
    ·exact .inl f.1
    ·exact .inr f.1
   ·simp only[Jx,if_true]
   ·simp only[Jx,o4d,if_false];exact r5
   ·simp only[Jx,hne5,if_false]
    rw[s5 ra (by simp only[Yb,YC,hn4,Ya];exact Js w4 hn4 hm5 1) (fun e=>by obtain⟨_,_,t2,h2⟩:=hT4.l.row e;rw[h2]at m5;cases m5)]
    simp only[JQ,Jx,YC,hn4,o4c,if_true,if_false]
   ·intro r hr a1 a2 a3
    have hr4:st4.row r≠ .none:=by rw[G4.same r hr];exact hr
    simp only[Jx,a1,if_false]
    rw[f5 r (Js w4 hn4 hr4 1) a3 (Js w4 hn4 hr4 0) a2 (Js hw hn0 hr 0),G4.same r hr]
   ·intro r hr
    have hr4:st4.row r≠ .none:=by rw[G4.same r hr];exact hr
    simp only[Jx]
    split
    ·exact fun e=>by cases e
    ·refine x5 r ?_
     simp only[JQ,Jx,YC,hn4]
     repeat' split
     all_goals first|exact hr4|exact fun e=>by cases e
   ·rintro r (f|f)
    ·exact⟨hT.fw r f,fun e=>f.2 (by rw[e];exact q2)⟩
    ·exact f.2
   ·refine⟨nv',kv',rfl,c3.imp fun r p e=> ?_,c4.imp fun r p e=> ?_⟩
    all_goals
     refine⟨.inr ⟨p.1,p.2.1,Js w4 hn4 e 1⟩, ?_⟩
     have e1:r≠rt:=fun k=>p.2.1 (by rw[k];exact hT.w.1)
     simp only[Jx,e1,if_false]
     exact f5 r (Js w4 hn4 e 1) (fun k=>p.2.1 (hT.l.row k).1) (Js w4 hn4 e 0) (fun k=>p.2.1 (by rw[k];exact hT.w.2.1)) p.2.2
   ·rw[Jp (by omega) (by omega)]
    simp
def AddPost (W F:Pt->Prop)(st st':St)(rt lp:Pt)(tb':Tb)(left':Int):Prop:=
 Ch (fun r=>W r\/r=lp) st st'/\(∃W' F':Pt->Prop,(∀r,W r->W' r)/\(∀r,W' r->W r\/st.row r= .none)/\(∀r,F' r->F r\/st.row r= .none)/\Tab W' F' st' rt tb')/\∃t,st'.row lp= .cells t [.int .i64 left']
theorem Jni (x:Tb×List Nat×Int×Int):pre [] x=x:=by simp[pre]
structure AddI (W F:Pt->Prop) (st:St) (rt lp:Pt) (n:Pt) (k:Int) (nm:Str) (nv kv:V) (ks:List Ty) (left:Int) (tb:Tb) (j:Nat) (fr:Fr) (S:St) (i:Nat) (Wi Fi:Pt->Prop) (tbi:Tb) (lefti:Int) (ids:List Nat) (kvi:V) (tli tp:Nat):Prop where
 hj:j+i=ks.length
 f0:fr 0= .ptr rt 0
 f2:fr 2= .ptr lp 0
 f8:fr 8= .ptr (up 1 n) 0
 f42:fr 42=kv
 f43:fr 43= .int .i64 ks.length
 f44:fr 44= .int .i64 i
 ch:Ch (fun r=>W r\/r=lp) st S
 w1:∀r,W r->Wi r
 w2:∀r,Wi r->W r\/st.row r= .none
 w3:∀r,Fi r->F r\/st.row r= .none
 nw1:¬Wi (up 1 n)
 nw2:¬Wi lp
 nf1:¬Fi (up 1 n)
 nf2:¬Fi lp
 tab:Tab Wi Fi S rt tbi
 rlp:S.row lp= .cells tli [.int .i64 lefti]
 rn:S.row (up 1 n)= .cells tp [.int .i64 k,ofL nm,nv,kvi]
 ls:LsAt (fun r=>¬Wi r/\¬Fi r/\st.row r= .none/\r≠up 1 n) S lp kvi 1 ids.length (ids.map fun a:Nat=>V.int .i64 (a:Int))
 hids:ids.length=i
 l0:0<=lefti
 l1:lefti<=left
 rec_:addTs ks (left-1) tb=pre ids (addTs (ks.drop i) lefti tbi)
set_option maxHeartbeats 4000000 in
theorem add :∀(m:Nat) (ty:Ty),tsz ty<m->∀(W F P:Pt->Prop) (st:St) (rt lp:Pt) (tb:Tb) (e:List V) (left:Int) (tl:Nat),WF st->Tab W F st rt tb->TyC P st e ty->(∀r,P r->¬W r/\r≠lp)->st.row lp= .cells tl [.int .i64 left]->¬W lp->¬F lp->0<=left->left<1000000->
  Does (tabT tabD) Jca [.ptr rt 0, .agg e, .ptr lp 0] st fun v st'=>AddPost W F st st' rt lp (addT ty left tb).1 (addT ty left tb).2.2.2/\v= .tup [.int .i64 ((addT ty left tb).2.1:Nat), .int .i64 (addT ty left tb).2.2.1]
 |0,_,h=>absurd h (by omega)
 | m+1, .mk k nm ns ks,hm=>by
   intro W F P st rt lp tb e left tl hw hT hx hP hlp hWl hFl h0 h1
   have hadd:=Qj k nm ns ks left tb
   refine(Does.mon tabM hw (Jv (Q:=fun v st'=>(∀r,st.row r≠ .none->¬(W r\/r=lp)->st'.row r=st.row r)/\(∃W' F':Pt->Prop,(∀r,W r->W' r)/\(∀r,W' r->W r\/st.row r= .none)/\(∀r,F' r->F r\/st.row r= .none)/\Tab W' F' st' rt (addT (.mk k nm ns ks) left tb).1)/\(∃t,st'.row lp= .cells t [.int .i64 (addT (.mk k nm ns ks) left tb).2.2.2])/\v= .tup [.int .i64 ((addT (.mk k nm ns ks) left tb).2.1:Nat), .int .i64 (addT (.mk k nm ns ks) left tb).2.2.1]) Jbs rfl ?_)).mono fun v st' ⟨mn,a,b,c,d⟩=>⟨⟨⟨mn.mono,a⟩,b,c⟩,d⟩
   obtain⟨n,hn0⟩:∃n,st.nx=up 0 n:=⟨_,up0 _⟩
   have hold:=fun r (h:st.row r≠ .none)=>QP hw hn0 h
   obtain⟨nv,kv,es,rfl,x1,x2,x3,x4⟩:=hx.inv'
   have l1:=x1.len;have l2:=x2.len
   rw[JL]at l1
   rw[x3]at l2
   have olp:=fun k=>nes (Js hw hn0 (Je hlp) k)
   have ort:=fun k=>nes (Js hw hn0 (by obtain⟨_,_,_,_,_,_,h⟩:=hT;exact h.rt_ne) k)
   have rtlp:=nes (show rt≠lp from fun e=>hWl (by obtain⟨_,_,_,_,_,_,h⟩:=hT;rw[<-e];exact h.w.1))
   have hleft:IntKind.i64.wrap (left-1)=left-1:=Jp (by omega) (by omega)
   have e0:Gr st (st.new fun t=> .cells t [.int .i64 k,ofL nm,nv,kv]):=Gr.new hw (Ja _)
   by_cases c1:left-1<0\/8<ks.length\/8<ns.length
   ·rw[hadd,if_pos c1]
    have fin:∀S:St,(∀r,st.row r≠ .none->¬(r=lp)->S.row r=st.row r)->(S.row lp= .cells (st.t+1) [.int .i64 (left-1)])->(∀r,st.row r≠ .none->¬(W r\/r=lp)->S.row r=st.row r)/\(∃W' F':Pt->Prop,(∀r,W r->W' r)/\(∀r,W' r->W r\/st.row r= .none)/\(∀r,F' r->F r\/st.row r= .none)/\Tab W' F' S rt tb)/\(∃t,S.row lp= .cells t [.int .i64 (left-1)]):=fun S h1 h2=>
     ⟨fun r e n=>h1 r e fun k=>n (.inr k),⟨W,F,fun _ w=>w,fun _ w=> .inl w,fun _ w=> .inl w,hT.keep fun r w e=>h1 r e fun k=>by rw[k]at w;rcases w with w|w;exact hWl w;exact hFl w⟩,_,h2⟩
    have fin2:∀r,st.row r≠ .none->¬(r=lp)->((st.new fun t=> .cells t [.int .i64 k,ofL nm,nv,kv]).wr lp tl fun u=> .cells u [.int .i64 (left-1)]).row r=st.row r:=fun r e n=>by simp only[Jx,JQ,hn0,hold r e,n,if_false]
    have F:=fin _ fin2 (by rw[Jl];rfl)
    by_cases d1:left-1<0
    ·simp only[JS,XZ,Nat.reduceEqDiff,↓reduceIte,reduceCtorEq,Int.reduceToNat,Nat.reduceAdd,Nat.reduceMul,Int.reduceAdd,Int.reduceSub,Int.reduceLE,Int.reduceLT,Int.reduceNeg,Int.reduceMul,Int.reduceEq,Int.reduceNe,Nat.reduceLeDiff,Nat.reduceSub,hn0,x1.cells,x2.cells,x1.sc,x2.sc,l1,l2,olp,hlp,hleft,d1]
     exact⟨fun r e n=>by have:=F.1 r e n;simpa only[Jx,JQ,hn0]using this,F.2.1,⟨_,rfl⟩,rfl⟩
    by_cases d2:(8:Int)<ks.length
    ·simp only[JS,XZ,Nat.reduceEqDiff,↓reduceIte,reduceCtorEq,Int.reduceToNat,Nat.reduceAdd,Nat.reduceMul,Int.reduceAdd,Int.reduceSub,Int.reduceLE,Int.reduceLT,Int.reduceNeg,Int.reduceMul,Int.reduceEq,Int.reduceNe,Nat.reduceLeDiff,Nat.reduceSub,hn0,x1.cells,x2.cells,x1.sc,x2.sc,l1,l2,olp,hlp,hleft,d1,d2]
     exact⟨fun r e n=>by have:=F.1 r e n;simpa only[Jx,JQ,hn0]using this,F.2.1,⟨_,rfl⟩,rfl⟩
    have d3:(8:Int)<ns.length:=by rcases c1 with c|c|c<;>omega
    simp only[JS,XZ,Nat.reduceEqDiff,↓reduceIte,reduceCtorEq,Int.reduceToNat,Nat.reduceAdd,Nat.reduceMul,Int.reduceAdd,Int.reduceSub,Int.reduceLE,Int.reduceLT,Int.reduceNeg,Int.reduceMul,Int.reduceEq,Int.reduceNe,Nat.reduceLeDiff,Nat.reduceSub,hn0,x1.cells,x2.cells,x1.sc,x2.sc,l1,l2,olp,hlp,hleft,d1,d2,d3]
    exact⟨fun r e n=>by have:=F.1 r e n;simpa only[Jx,JQ,hn0]using this,F.2.1,⟨_,rfl⟩,rfl⟩
   ·have c2:¬left-1<0:=fun e=>c1 (.inl e)
    have c3:¬(8:Int)<ks.length:=fun e=>c1 (.inr (.inl (by omega)))
    have c4:¬(8:Int)<ns.length:=fun e=>c1 (.inr (.inr (by omega)))
    rw[hadd,if_neg c1]
    simp only[JS,XZ,Nat.reduceEqDiff,↓reduceIte,reduceCtorEq,Int.reduceToNat,Nat.reduceAdd,Nat.reduceMul,Int.reduceAdd,Int.reduceSub,Int.reduceLE,Int.reduceLT,Int.reduceNeg,Int.reduceMul,Int.reduceEq,Int.reduceNe,Nat.reduceLeDiff,Nat.reduceSub,hn0,x1.cells,x2.cells,x1.sc,x2.sc,l1,l2,olp,hlp,hleft,c2,c3,c4]
    have g1:Gr st ((st.new fun t=> .cells t [.int .i64 k,ofL nm,nv,kv])):=e0
    refine Jq (fun j fr S=>∃i Wi Fi tbi lefti ids kvi tli tp,AddI W F st rt lp n k nm nv kv ks left tb j fr S i Wi Fi tbi lefti ids kvi tli tp) ks.length (by omega) ?_ ?_
    ·refine⟨0,W,fun r=>F r/\st.row r≠ .none,tb,left-1,[], .snil, ?ta, ?tb,⟨by omega, ?_, ?_, ?_, ?_, ?_, ?_, ?ch,fun _ w=>w,fun _ w=> .inl w,fun _ w=> .inl w.1, ?_,hWl, ?_,fun w=>hFl w.1, ?tab, ?rlp, ?rn,⟨rfl, .inl ⟨rfl,rfl⟩⟩,rfl,by omega,by omega,(Jni _).symm⟩⟩
     case rlp=>simp only[XZ,Nat.reduceEqDiff,↓reduceIte,reduceCtorEq,Int.reduceToNat,Nat.reduceAdd,Nat.reduceMul,Int.reduceAdd,Int.reduceSub,Int.reduceLE,Int.reduceLT,Int.reduceNeg,Int.reduceMul,Int.reduceEq,Int.reduceNe,Nat.reduceLeDiff,Nat.reduceSub,hn0,olp];rfl
     case rn=>simp only[XZ,Nat.reduceEqDiff,↓reduceIte,reduceCtorEq,Int.reduceToNat,Nat.reduceAdd,Nat.reduceMul,Int.reduceAdd,Int.reduceSub,Int.reduceLE,Int.reduceLT,Int.reduceNeg,Int.reduceMul,Int.reduceEq,Int.reduceNe,Nat.reduceLeDiff,Nat.reduceSub,hn0,olp];rfl
     case ch=>exact(((Ch.of _ e0).wr (Je (e0.cells hlp)) (by rw[e0.cells hlp];rfl) (.inl (.inr rfl)) (Ja _))).nw (by simp only[YC,Yb,hn0,Ya]) (Ja _) (Ja _)
     case tab=>
      refine hT.live.keep fun r w e=> ?_
      have e1:r≠lp:=fun k=>by rw[k]at w;rcases w with w|w;exact hWl w;exact hFl w.1
      simp only[XZ,Nat.reduceEqDiff,↓reduceIte,reduceCtorEq,Int.reduceToNat,Nat.reduceAdd,Nat.reduceMul,Int.reduceAdd,Int.reduceSub,Int.reduceLE,Int.reduceLT,Int.reduceNeg,Int.reduceMul,Int.reduceEq,Int.reduceNe,Nat.reduceLeDiff,Nat.reduceSub,hn0,hold r e,e1]
     all_goals try simp only[XZ,Nat.reduceEqDiff,↓reduceIte,reduceCtorEq,Int.reduceToNat,Nat.reduceAdd,Nat.reduceMul,Int.reduceAdd,Int.reduceSub,Int.reduceLE,Int.reduceLT,Int.reduceNeg,Int.reduceMul,Int.reduceEq,Int.reduceNe,Nat.reduceLeDiff,Nat.reduceSub,hn0,olp]
     ·rfl
     ·obtain⟨_,_,_,_,_,_,hT⟩:=hT
      exact fun w=>hT.own _ w (nx0 hw hn0 1)
     ·exact fun w=>w.2 (nx0 hw hn0 1)
    ·rintro j fr S ⟨i,Wi,Fi,tbi,lefti,ids,kvi,tli,tp,h⟩
     have wS:=h.ch.wf
     obtain⟨nS,hnS⟩:∃n,S.nx=up 0 n:=⟨_,up0 _⟩
     by_cases hi:i<ks.length
     ·have hi':(i:Int)<ks.length:=by omega
      have hie:i<es.length:=by omega
      obtain⟨q,qo,a1,a2,a3,a4,a5⟩:=x2.elem hie
      have hSr:∀r,P r->st.row r≠ .none->S.row r=st.row r:=fun r p e=>h.ch.same r e fun w=>by rcases w with w|w;exact(hP r p).1 w;exact(hP r p).2 w
      have a4':ldn (S.row q) qo 4=some (.agg es[i], .no):=by rw[hSr q a2 a3];exact a4
      have oq:=fun k=>nes (Js wS hnS (by rw[hSr q a2 a3];exact a3) k)
      have hx4:=x4 i hie hi
      obtain⟨E,hE⟩:∃E,E=es[i]:=⟨_,rfl⟩
      obtain⟨T,hT'⟩:∃T,T=ks[i]:=⟨_,rfl⟩
      rw[<-hE]at a4' hx4
      rw[<-hT']at hx4
      obtain⟨k',n',ns',ks'⟩:=T
      obtain⟨nv',kv',es',rfl,y1,y2,y3,y4⟩:=hx4.inv'
      simp only[XZ,Nat.reduceEqDiff,↓reduceIte,reduceCtorEq,Int.reduceToNat,Nat.reduceAdd,Nat.reduceMul,Int.reduceAdd,Int.reduceSub,Int.reduceLE,Int.reduceLT,Int.reduceNeg,Int.reduceMul,Int.reduceEq,Int.reduceNe,Nat.reduceLeDiff,Nat.reduceSub,h.f0,h.f2,h.f8,h.f42,h.f43,h.f44,hi',a1,a4',hnS,oq,y1.cells,y2.cells,y1.sc,y2.sc]
      have gS:Gr S ((S.new fun t=> .cells t [.int .i64 0,ofL [], .snil, .snil]).wr (up 0 nS) S.t fun u=> .cells u [.int .i64 k',ofL n',nv',kv']):=(Gr.refl wS).nw hnS (Ja _) (Ja _)
      refine Jb (add m (.mk k' n' ns' ks') (by rw[hT'];have:=YN (k:=k) (n:=nm) (ns:=ns) hi;omega) Wi Fi (fun r=>P r/\st.row r≠ .none) _ rt lp tbi _ lefti tli gS.wf (h.tab.gr gS) ((hx4.imp fun r p e=>⟨⟨p,e⟩,hSr r p e⟩).gr gS) (fun r p=>⟨fun w=>by rcases h.w2 r w with w|w;exact(hP r p.1).1 w;exact p.2 w,(hP r p.1).2⟩) (gS.cells h.rlp) h.nw2 h.nf2 h.l0 (by have:=h.l1;omega)) ?_
      rintro _ S2 ⟨⟨c2,⟨W2,F2,b1,b2,b3,T2⟩,t2,lp2⟩,rfl⟩
      have hrec:=h.rec_
      rw[List.drop_eq_getElem_cons hi,<-hT']at hrec
      have hlt:=kL (.mk k' n' ns' ks') lefti tbi h.l0
      have hstep:=Jix (ids:=ids) (t:= .mk k' n' ns' ks') (r:=ks.drop (i+1)) (left:=lefti) (tb:=tbi)
      have hstop:=Jiy (ids:=ids) (t:= .mk k' n' ns' ks') (r:=ks.drop (i+1)) (left:=lefti) (tb:=tbi)
      generalize addT (.mk k' n' ns' ks') lefti tbi=A at*
      obtain⟨tb2,id2,er2,left2⟩:=A
      simp only at*
      have cS2:Ch (fun r=>W r\/r=lp) st S2:=(h.ch.gr gS).trans c2 fun r w=>by
       rcases w with w|w
       ·rcases h.w2 r w with w|w
        ·exact .inl (.inl w)
        ·exact .inr w
       ·exact .inl (.inr w)
      have hW2:∀r,W2 r->W r\/st.row r= .none:=fun r w=>by
       rcases b2 r w with w|w
       ·exact h.w2 r w
       ·exact .inr ((h.ch.gr gS).fresh w)
      have hF2:∀r,F2 r->F r\/st.row r= .none:=fun r w=>by
       rcases b3 r w with w|w
       ·exact h.w3 r w
       ·exact .inr ((h.ch.gr gS).fresh w)
      by_cases he:er2=0
      ·subst he
       have hL2:=hrec.trans (hstep rfl)
       have S1n:∀r,S.row r≠ .none->((S.new fun t=> .cells t [.int .i64 0,ofL [], .snil, .snil]).wr (up 0 nS) S.t fun u=> .cells u [.int .i64 k',ofL n',nv',kv']).row r≠ .none:=fun r e=>by rw[gS.same r e];exact e
       have nW:∀r,S.row r≠ .none->¬Wi r->¬W2 r:=fun r e w w2=>by rcases b2 r w2 with k|k;exact w k;exact S1n r e k
       have nF:∀r,S.row r≠ .none->¬Fi r->¬F2 r:=fun r e w w2=>by rcases b3 r w2 with k|k;exact w k;exact S1n r e k
       have keep:∀r,S.row r≠ .none->¬Wi r->r≠lp->S2.row r=S.row r:=fun r e w n=>by
        rw[c2.same r (S1n r e) (fun x=>by rcases x with x|x;exact w x;exact n x),gS.same r e]
       have u1lp:up 1 n≠lp:=by have:=(olp 1).2;simpa using this
       have rn2:S2.row (up 1 n)= .cells tp [.int .i64 k,ofL nm,nv,kvi]:=by rw[keep _ (Je h.rn) h.nw1 u1lp,h.rn]
       have hls:LsAt (fun r=>¬W2 r/\¬F2 r/\st.row r= .none/\r≠up 1 n) S2 lp kvi 1 ids.length (ids.map fun a:Nat=>V.int .i64 (a:Int)):=by
        refine⟨h.ls.1, ?_⟩
        rcases h.ls.2 with l|⟨r,t,l1,l2,l3,l4⟩
        ·exact .inl l
        ·exact .inr ⟨r,t,l1,by rw[keep r (Je l2) l3.1 l4,l2],⟨nW r (Je l2) l3.1,nF r (Je l2) l3.2.1,l3.2.2⟩,l4⟩
       have w2:=c2.wf
       obtain⟨n2,hn2⟩:∃n,S2.nx=up 0 n:=⟨_,up0 _⟩
       have o2n:=fun k=>nes (Js w2 hn2 (Je rn2) k)
       have o2l:=fun k=>nes (Js w2 hn2 (Je lp2) k)
       simp only[XZ,Nat.reduceEqDiff,↓reduceIte,reduceCtorEq,Int.reduceToNat,Nat.reduceAdd,Nat.reduceMul,Int.reduceAdd,Int.reduceSub,Int.reduceLE,Int.reduceLT,Int.reduceNeg,Int.reduceMul,Int.reduceEq,Int.reduceNe,Nat.reduceLeDiff,Nat.reduceSub,h.f0,h.f2,h.f8,h.f42,h.f43,h.f44,rn2,hn2,o2n]
       refine JlV (rt:=lp) (hls.imp fun r t hr1 hr2 hr3=> ?_) (tq:= ?tq) (new:=[V.int IntKind.i64 id2]) ?hq rfl rfl (by have:=h.hids;omega) ?wf ?_
       ·have e1:=nes (Js w2 hn2 (Je hr3) 0)
        simp only[JQ,Jx,YC,hn2,e1,if_false]
       case hq=>simp only[JQ,Jx,YC,hn2,if_true];rfl
       case wf=>exact(Gr.new w2 (Ja _)).wf
       intro S5 t6 r5 n5 s5 x5 m5
       simp only[Yb,YC,hn2,Ya,Nat.reduceAdd,Nat.zero_add]at r5 n5
       have f5:∀r,S2.row r≠ .none->rowOf kvi≠some r->S5.row r=S2.row r:=fun r a1 a2=>by
        rw[s5 r (by simp only[Yb,YC,hn2,Ya];exact Js w2 hn2 a1 1) a2]
        have e1:=nes (Js w2 hn2 a1 0)
        simp only[JQ,hn2,e1,if_false]
       have rn5:S5.row (up 1 n)= .cells tp [.int .i64 k,ofL nm,nv,kvi]:=by rw[f5 _ (Je rn2) (fun e=>(hls.row e).1.2.2.2 rfl),rn2]
       have rl5:S5.row lp= .cells t2 [.int .i64 left2]:=(f5 _ (Je lp2) (fun e=>(hls.row e).2.1 rfl)).trans lp2
       have hadd1:IntKind.i64.wrap ((i:Int)+1)=((i+1:Nat):Int):=by rw[Jp (by omega) (by omega)];rfl
       have o1l:=nes u1lp
       have o5:=fun k=>nes (Js w2 hn2 (Je rn2) k)
       simp only[XZ,Nat.reduceEqDiff,↓reduceIte,reduceCtorEq,Int.reduceToNat,Nat.reduceAdd,Nat.reduceMul,Int.reduceAdd,Int.reduceSub,Int.reduceLE,Int.reduceLT,Int.reduceNeg,Int.reduceMul,Int.reduceEq,Int.reduceNe,Nat.reduceLeDiff,Nat.reduceSub,rn5,h.f0,h.f2,h.f8,h.f42,h.f43,h.f44,hn2,hadd1]
       have g5:Ch (fun r=>W r\/r=lp) st S5:=by
        refine cS2.trans (W':=fun r=>rowOf kvi=some r) ⟨(YY w2 (Ja [.int .i64 (id2:Int)])).trans m5,fun r e n=>f5 r e n⟩ fun r e=> .inr ((hls.row e).1.2.2.1)
       have ntop:st.row (up 1 n2)= .none:=cS2.fresh (nx0 w2 hn2 1)
       have w5W:∀r,S2.row r≠ .none->r≠up 1 n2:=fun r e=>Js w2 hn2 e 1
       have hW5:¬W2 (up 1 n2):=fun w=>by obtain⟨_,_,_,_,_,_,hT2⟩:=T2;exact hT2.own _ w (nx0 w2 hn2 1)
       refine⟨ks.length-(i+1),by have:=h.hj;omega,i+1,W2,fun r=>F2 r/\S2.row r≠ .none,tb2,left2,ids++[id2], .sl (up 1 n2) 0 (ids.length+1) 1,t2,S5.t,⟨by omega, ?_, ?_, ?_, ?_, ?_, ?_, ?ch,fun r w=>b1 r (h.w1 r w),hW2,fun r w=>hF2 r w.1,nW _ (Je h.rn) h.nw1,nW _ (Je h.rlp) h.nw2,fun w=>nF _ (Je h.rn) h.nf1 w.1,fun w=>nF _ (Je h.rlp) h.nf2 w.1, ?tab, ?rlp, ?rn, ?ls,by simp[h.hids],hlt.2.2 rfl,by have:=h.l1;omega,hL2⟩⟩
       case ch=>exact g5.wr (Je rn5) (by rw[rn5];rfl) (.inr (nx0 hw hn0 1)) (Ja _)
       all_goals try simp only[XZ,Nat.reduceEqDiff,↓reduceIte,reduceCtorEq,Int.reduceToNat,Nat.reduceAdd,Nat.reduceMul,Int.reduceAdd,Int.reduceSub,Int.reduceLE,Int.reduceLT,Int.reduceNeg,Int.reduceMul,Int.reduceEq,Int.reduceNe,Nat.reduceLeDiff,Nat.reduceSub,h.f0,h.f2,h.f8,h.f42,h.f43,h.f44]
       case tab=>
        refine T2.live.keep fun r w e=> ?_
        have e1:r≠up 1 n:=fun k=>by
         rcases w with w|w
         ·exact nW _ (Je h.rn) h.nw1 (by rw[<-k];exact w)
         ·exact nF _ (Je h.rn) h.nf1 (by rw[<-k];exact w.1)
        rw[Jx,if_neg e1]
        refine f5 r e fun k=> ?_
        rcases w with w|w
        ·exact(hls.row k).1.1 w
        ·exact(hls.row k).1.2.1 w.1
       case rlp=>simp only[o1l,if_false];exact rl5
       case ls=>
        refine⟨by simp, .inr ⟨up 1 n2,t6,by simp, ?_,⟨hW5,fun w=>w.2 (nx0 w2 hn2 1),ntop, ?_⟩, ?_⟩⟩
        ·rw[Jx,if_neg (w5W _ (Je rn2)).symm,r5];simp
        ·exact fun e=>(w5W _ (Je rn2)) e.symm
        ·exact fun e=>(w5W _ (Je lp2)) e.symm
      ·have hL2:=hrec.trans (hstop he)
       have he':¬er2=0:=he
       simp only[XZ,Nat.reduceEqDiff,↓reduceIte,reduceCtorEq,Int.reduceToNat,Nat.reduceAdd,Nat.reduceMul,Int.reduceAdd,Int.reduceSub,Int.reduceLE,Int.reduceLT,Int.reduceNeg,Int.reduceMul,Int.reduceEq,Int.reduceNe,Nat.reduceLeDiff,Nat.reduceSub,he',h.f0,h.f2,h.f8]
       rw[hL2]
       simp only[he',ne_eq,not_false_eq_true,if_true]
       exact⟨cS2.same,⟨W2,F2,fun r w=>b1 r (h.w1 r w),hW2,hF2,T2⟩,⟨t2,lp2⟩,rfl⟩
     ·have hie:i=ks.length:=by have:=h.hj;omega
      have hi':¬(i:Int)<ks.length:=by omega
      have hrec:=h.rec_
      rw[hie,List.drop_length,Kv]at hrec
      have hrec:addTs ks (left-1) tb=(tbi,ids,0,lefti):=by rw[hrec];simp[pre]
      rw[hrec]
      simp only[XZ,Nat.reduceEqDiff,↓reduceIte,reduceCtorEq,Int.reduceToNat,Nat.reduceAdd,Nat.reduceMul,Int.reduceAdd,Int.reduceSub,Int.reduceLE,Int.reduceLT,Int.reduceNeg,Int.reduceMul,Int.reduceEq,Int.reduceNe,Nat.reduceLeDiff,Nat.reduceSub,h.f0,h.f2,h.f8,h.f42,h.f43,h.f44,hi',h.rn]
      have hSr:∀r,P r->st.row r≠ .none->S.row r=st.row r:=fun r p e=>h.ch.same r e fun w=>by rcases w with w|w;exact(hP r p).1 w;exact(hP r p).2 w
      have hks:SlAt (fun _=>True) S kvi 1 (ints ids):=(LsAt.sl (es:=ints ids) (by rw[JbP];exact h.ls) (Y2 _) (Kq _)).imp fun _ _ _=>⟨trivial,rfl⟩
      refine Jb (lay (nd:=⟨k,nm,ns,ids⟩) wS h.tab ⟨nv,kvi,rfl,x1.imp fun r p e=>⟨trivial,hSr r p e⟩,hks⟩ ⟨(by show ns.length<=8;omega),(by show ids.length<=8;have:=h.hids;omega)⟩) ?_
      rintro _ S2 ⟨c2,⟨W2,F2,b1,b2,b3,T2⟩,rfl⟩
      simp only[XZ,Nat.reduceEqDiff,↓reduceIte,reduceCtorEq,Int.reduceToNat,Nat.reduceAdd,Nat.reduceMul,Int.reduceAdd,Int.reduceSub,Int.reduceLE,Int.reduceLT,Int.reduceNeg,Int.reduceMul,Int.reduceEq,Int.reduceNe,Nat.reduceLeDiff,Nat.reduceSub]
      refine⟨fun r e n=> ?_,⟨W2,F2,fun r w=>b1 r (h.w1 r w),fun r w=> ?_,fun r w=> ?_,T2⟩,tli, ?_⟩
      ·have e2:=h.ch.same r e n
       rw[c2.same r (by rw[e2];exact e) fun w=>by rcases h.w2 r w with w|w;exact n (.inl w);exact e w,e2]
      ·rcases b2 r w with w|w
       ·exact h.w2 r w
       ·exact .inr (h.ch.fresh w)
      ·rcases b3 r w with w|w
       ·exact h.w3 r w
       ·exact .inr (h.ch.fresh w)
      ·rw[c2.same lp (Je h.rlp) h.nw2,h.rlp]
theorem lenC {W F:Pt->Prop}{st:St}{rt:Pt}{tb:Tb}(hT:Tab W F st rt tb):Does (tabT tabD) Jcf [.ptr rt 0] st fun v st'=>v= .int .i64 tb.nodes.length/\st=st':=by
 refine Jv Jbx rfl ?_
 obtain⟨lv,ra,rn,rs,es,sv,hT⟩:=hT
 obtain⟨t,c⟩:=hT.cell
 simp only[K0,XZ,simprocAttr,c,hT.l.len]
set_option maxHeartbeats 1000000 in
theorem addTop {W F P:Pt->Prop}{st:St}{rt:Pt}{tb:Tb}{e:List V}{ty:Ty}(hw:WF st)(hT:Tab W F st rt tb)(hx:TyC P st e ty)(hP:∀r,P r->¬W r):
  Does (tabT tabD) Yv [.ptr rt 0, .agg e] st fun v st'=>Ch W st st'/\(∃W' F':Pt->Prop,(∀r,W r->W' r)/\(∀r,W' r->W r\/st.row r= .none)/\(∀r,F' r->F r\/st.row r= .none)/\Tab W' F' st' rt (addT ty 400 tb).1)/\v= .tup [.int .i64 ((addT ty 400 tb).2.1:Nat), .int .i64 (addT ty 400 tb).2.2.1]:=by
 refine Jv Jbq rfl ?_
 obtain⟨n,hn0⟩:∃n,st.nx=up 0 n:=⟨_,up0 _⟩
 have e4:=hx.four
 have etk:e.take 4=e:=by rw[<-e4,List.take_length]
 have edl:4<=e.length:=by omega
 have hsp:splice [V.int .i64 0] 0 [.int .i64 400]=[.int .i64 400]:=rfl
 simp only[KY,XM,simprocAttr,hn0,hx.ok,e4,etk,hsp]
 have gS:Gr st (((st.new fun t=> .cells t e).new fun t=> .cells t [.int .i64 0]).wr (up 1 n) (st.new fun t=> .cells t e).t fun u=> .cells u [.int .i64 400]):=(Gr.new hw (Ja _)).nw (by simp only[Yb,hn0,Ya,Nat.zero_add]) (Ja _) (Ja _)
 obtain⟨lv,ra,rn,rs,es,sv,hT0⟩:=hT.live
 have hT1:Tab W (fun r=>F r/\st.row r≠ .none) _ rt tb:=Tab.gr ⟨lv,ra,rn,rs,es,sv,hT0⟩ gS
 have q1:=nx0 hw hn0 1
 refine Jb (add _ ty (Nat.lt_succ_self _) W _ (fun r=>P r/\st.row r≠ .none) _ rt (up 1 n) tb e 400 _ gS.wf hT1 ((hx.imp fun r p e=>⟨⟨p,e⟩,rfl⟩).gr gS) (fun r p=>⟨hP r p.1,fun k=>p.2 (by rw[k];exact q1)⟩) (by rw[Jl]) (fun w=>hT0.own _ w q1) (fun w=>w.2 q1) (by decide) (by decide)) ?_
 rintro _ S2 ⟨⟨c2,⟨W2,F2,b1,b2,b3,T2⟩,_⟩,rfl⟩
 simp only[XZ,simprocAttr]
 refine⟨(Ch.of W gS).trans c2 fun r w=> ?_,W2,F2,b1,fun r w=> ?_,fun r w=> ?_,T2⟩
 ·rcases w with w|w
  ·exact .inl w
  ·exact .inr (by rw[w];exact q1)
 ·rcases b2 r w with w|w;exact .inl w;exact .inr (Ch.fresh (Ch.of W gS) w)
 ·rcases b3 r w with w|w;exact .inl w.1;exact .inr (Ch.fresh (Ch.of W gS) w)
set_option maxHeartbeats 1000000 in
theorem nodeC {W F Q:Pt->Prop}{st:St}{rt:Pt}{tb:Tb}{id:Nat}(hw:WF st)(hT:Tab W F st rt tb)(hi:id<tb.nodes.length)(hQ:∀r,st.row r= .none->Q r):
  Does (tabT tabD) Jbr [.ptr rt 0, .int .i64 id] st fun v st'=>Gr st st'/\∃e,v= .tup [.agg e, .bool true]/\NdC Q st' e tb.nodes[id]:=by
 refine Jw tabM JaC rfl hw fun K fin=> ?_
 obtain⟨lv,ra,rn,rs,es,sv,hT⟩:=hT
 obtain⟨n,hn0⟩:∃n,st.nx=up 0 n:=⟨_,up0 _⟩
 have hold:=fun r (h:st.row r≠ .none)=>QP hw hn0 h
 obtain⟨t,c⟩:=hT.cell
 have hie:id<es.length:=by rw[hT.len];exact hi
 obtain⟨q,qo,a1,a2,a3,a4,a5,a6⟩:=hT.elem hie
 have hnd:=hT.nd id hie hi
 have hfit:=hT.fit _ (List.getElem_mem hi)
 obtain⟨E,hE⟩:∃E,E=es[id]:=⟨_,rfl⟩
 rw[<-hE]at a5 hnd
 obtain⟨nv,kv,rfl,h1,h2⟩:=hnd
 have ort:=fun k=>nes (Js hw hn0 hT.rt_ne k)
 have oq:=fun k=>nes (Js hw hn0 a2 k)
 have i0:¬(id:Int)<0:=by omega
 have i1:¬(tb.nodes.length:Int)<=(id:Int):=by omega
 have g1:Gr st (((st.new fun t=> .cells t [.int .i64 0,ofL [], .snil, .snil]).new fun t=> .cells t [.int .i64 0,ofL [], .snil, .snil]).wr (up 1 n) (st.new fun t=> .cells t [.int .i64 0,ofL [], .snil, .snil]).t fun u=> .cells u [.int .i64 tb.nodes[id].kind,ofL tb.nodes[id].name,nv,kv]):=(Gr.new hw (Ja _)).nw (by simp only[Yb,hn0,Ya,Nat.zero_add]) (Ja _) (Ja _)
 have r0:St.row (((st.new fun t=> .cells t [.int .i64 0,ofL [], .snil, .snil]).new fun t=> .cells t [.int .i64 0,ofL [], .snil, .snil]).wr (up 1 n) (st.new fun t=> .cells t [.int .i64 0,ofL [], .snil, .snil]).t fun u=> .cells u [.int .i64 tb.nodes[id].kind,ofL tb.nodes[id].name,nv,kv]) (up 0 n)= .cells st.t [.int .i64 0,ofL [], .snil, .snil]:=by simp only[XZ,simprocAttr,hn0]
 have r1:St.row (((st.new fun t=> .cells t [.int .i64 0,ofL [], .snil, .snil]).new fun t=> .cells t [.int .i64 0,ofL [], .snil, .snil]).wr (up 1 n) (st.new fun t=> .cells t [.int .i64 0,ofL [], .snil, .snil]).t fun u=> .cells u [.int .i64 tb.nodes[id].kind,ofL tb.nodes[id].name,nv,kv]) (up 1 n)= .cells _ [.int .i64 tb.nodes[id].kind,ofL tb.nodes[id].name,nv,kv]:=Jl _ _ _ _
 simp only[KM,XZ,simprocAttr,hn0,ort,oq,c,hT.l.len,i0,i1,a1,a5,h1.cells,h2.cells,h1.sc,h2.sc]
 refine Jn (Jbl (Q:=fun r=>st.row r= .none/\r≠up 0 n/\r≠up 1 n) (JB g1.wf _) ((h1.gr g1).low _) (jn _) (by rw[JL];have:=hfit.1;omega) ?_) ?_
 ·exact fun r hr=>⟨Ch.fresh (Ch.of (fun _=>False) g1) hr,(fun e=>Je r0 ((congrArg (St.row _) e).symm.trans hr)),(fun e=>Je r1 ((congrArg (St.row _) e).symm.trans hr))⟩
 rintro nv' S2 g2 c2
 have c2:=c2.unlow
 have b1:S2.row (up 1 n)= .cells _ [.int .i64 tb.nodes[id].kind,ofL tb.nodes[id].name,nv,kv]:=g2.cells r1
 have b0:S2.row (up 0 n)= .cells _ [.int .i64 0,ofL [], .snil, .snil]:=g2.cells r0
 simp only[XZ,simprocAttr,b1]
 refine Jn (Jb1 (Q:=fun r=>st.row r= .none/\r≠up 0 n/\r≠up 1 n) (JB g2.wf _) (((h2.gr g1).gr g2).low _) (Jc9 _) (by rw[Kq];have:=hfit.2;omega) ?_) ?_
 ·exact fun r hr=>⟨Ch.fresh (Ch.of (fun _=>False) (g1.trans g2)) hr,fun e=>Je b0 (by rw[<-e];exact hr),fun e=>Je b1 (by rw[<-e];exact hr)⟩
 rintro kv' S3 g3 c3
 have c3:=c3.unlow
 have c2:=c2.gr g3
 have b1:=g3.cells b1
 have b0:=g3.cells b0
 have G3:=(g1.trans g2).trans g3
 simp only[XZ,simprocAttr,b1,b0,c2.cells,c3.cells,c2.sc,c3.sc]
 refine fin _ _ (fun r e=>by simp only[Jx,hold r e,if_false];exact G3.same r e) fun _=>⟨_,rfl,nv',kv',rfl,c2.imp fun r p e=>⟨hQ r p.1, ?_⟩,c3.imp fun r p e=>⟨hQ r p.1, ?_⟩⟩
 ·simp only[Jx,p.2.1,p.2.2,if_false]
 ·simp only[Jx,p.2.1,p.2.2,if_false]
def openZS (tb:Tb)(z:Int):Nat×Bool:=if z<0 then(0,false)else openS tb (tb.nodes.length+1) z.toNat
set_option maxHeartbeats 1000000 in
theorem openI {W F:Pt->Prop}{st:St}{rt:Pt}{tb:Tb}{id:Int}(hw:WF st)(hT:Tab W F st rt tb):
  Does (tabT tabD) Yo [.ptr rt 0, .int .i64 id] st fun v st'=>v= .tup [.int .i64 ((openZS tb id).1:Nat), .bool (openZS tb id).2]/\st=st':=by
 refine Jv JaB rfl ?_
 obtain⟨lv,ra,rn,rs,es,sv,hT⟩:=hT
 obtain⟨t,c⟩:=hT.cell
 have hadd:IntKind.i64.wrap ((tb.nodes.length:Int)+1)=((tb.nodes.length+1:Nat):Int):=by have:=hT.few;rw[Jp (by omega) (by omega)];rfl
 simp only[KL,XZ,simprocAttr,c,hT.l.len,hadd]
 obtain⟨K,hK⟩:∃K:V->St->Prop,∀v S,K v S<->(v= .tup [.int .i64 ((openZS tb id).1:Nat), .bool (openZS tb id).2]/\st=S):=⟨_,fun _ _=>Iff.rfl⟩
 simp only[<-hK]
 obtain⟨L,hL⟩:∃L:Nat->Fr->St->Prop,∀j fr S,L j fr S<->∃(i:Nat) (z:Int),S=st/\j+i=tb.nodes.length+1/\fr 0= .ptr rt 0/\fr 1= .int .i64 z/\fr 13= .int .i64 ((tb.nodes.length+1:Nat):Int)/\fr 14= .int .i64 i/\openZS tb id=if z<0 then(0,false)else openS tb (tb.nodes.length+1-i) z.toNat:=⟨_,fun _ _ _=>Iff.rfl⟩
 have:=hT.few
 refine Jq L (tb.nodes.length+1) (by omega) ((hL _ _ _).2 ⟨0,id,rfl,by omega,by simp only[XZ,simprocAttr],by simp only[XZ,simprocAttr],by simp only[XZ,simprocAttr],by simp only[XZ,simprocAttr]<;>rfl,rfl⟩) ?_
 intro j fr S hLj
 obtain⟨i,z,rfl,hj,f0,f1,f13,f14,hrec⟩:=(hL _ _ _).1 hLj
 by_cases hi:i<tb.nodes.length+1
 ·have hi':(i:Int)<((tb.nodes.length+1:Nat):Int):=by omega
  by_cases z0:z<0
  ·simp only[XZ,simprocAttr,f0,f1,f13,f14,hi',z0]
   rw[hK,hrec,if_pos z0];exact⟨rfl,rfl⟩
  obtain⟨a,rfl⟩:∃a:Nat,z=a:=⟨z.toNat,by omega⟩
  rw[if_neg (by omega),show tb.nodes.length+1-i=(tb.nodes.length-i)+1 by omega]at hrec
  simp only[Int.toNat_natCast]at hrec
  by_cases z1:tb.nodes.length<=a
  ·have z1':(tb.nodes.length:Int)<=(a:Int):=by omega
   rw[jp z1]at hrec
   simp only[XZ,simprocAttr,f0,f1,f13,f14,hi',z0,c,hT.l.len,z1']
   rw[hK,hrec];exact⟨rfl,rfl⟩
  have z1':¬(tb.nodes.length:Int)<=(a:Int):=by omega
  have ha:a<tb.nodes.length:=by omega
  have hie:a<es.length:=by rw[hT.len];exact ha
  obtain⟨q,qo,a1,a2,a3,a4,a5,a6⟩:=hT.elem hie
  have hnd:=hT.nd a hie ha
  have E0:=a6 0
  have E1:=a6 1
  obtain⟨E,hE⟩:∃E,E=es[a]:=⟨_,rfl⟩
  simp only[<-hE]at hnd E0 E1
  obtain⟨nv,kv,rfl,h1,h2⟩:=hnd
  have E0:=E0 (by simp)
  have E1:=E1 (by simp)
  simp only[List.getElem_cons_zero,List.getElem_cons_succ,Nat.add_zero]at E0 E1
  by_cases k9:tb.nodes[a].kind=9
  ·have k9':(tb.nodes[a].kind=9)=True:=eq_true k9
   have hlk:=Yg (e:= .one .s) hT.named (.int .i64 0) true tb.nodes[a].name (Q9 _ _) rfl
   rw[JjU]at hlk
   have hadd1:IntKind.i64.wrap ((i:Int)+1)=((i+1:Nat):Int):=by rw[Jp (by omega) (by omega)];rfl
   have hdef:defI tb tb.nodes[a].name=(tb.named.find? fun p=>tb.nodes[a].name=p.1).map (·.2):=rfl
   rw[<-hdef]at hlk
   cases hd:defI tb tb.nodes[a].name with
   | none=>
     rw[jT ha k9 hd]at hrec
     rw[hd]at hlk
     simp only[Option.map_none,ansL,if_true]at hlk
     simp only[XZ,simprocAttr,f0,f1,f13,f14,hi',z0,c,hT.l.len,z1',a1,E0,E1,k9',hlk,hadd1]
     exact⟨tb.nodes.length+1-(i+1),by omega,(hL _ _ _).2 ⟨i+1,-1,rfl,by omega,by simp only[XZ,simprocAttr,f0],by simp only[XZ,simprocAttr],by simp only[XZ,simprocAttr,f13],by simp only[XZ,simprocAttr],by rw[hrec,if_pos (by omega)]⟩⟩
   | some b=>
     rw[kN ha k9 hd]at hrec
     rw[hd]at hlk
     simp only[Option.map_some,ansL,if_true]at hlk
     simp only[XZ,simprocAttr,f0,f1,f13,f14,hi',z0,c,hT.l.len,z1',a1,E0,E1,k9',hlk,hadd1]
     exact⟨tb.nodes.length+1-(i+1),by omega,(hL _ _ _).2 ⟨i+1,b,rfl,by omega,by simp only[XZ,simprocAttr,f0],by simp only[XZ,simprocAttr],by simp only[XZ,simprocAttr,f13],by simp only[XZ,simprocAttr],by rw[hrec,if_neg (by omega)];congr 1;omega⟩⟩
  ·have k9':(tb.nodes[a].kind=9)=False:=eq_false k9
   rw[QQ ha k9]at hrec
   simp only[XZ,simprocAttr,f0,f1,f13,f14,hi',z0,c,hT.l.len,z1',a1,E0,E1,k9']
   rw[hK,hrec];exact⟨rfl,rfl⟩
 ·have hi':¬(i:Int)<((tb.nodes.length+1:Nat):Int):=by omega
  have hie:i=tb.nodes.length+1:=by omega
  simp only[XZ,simprocAttr,f0,f1,f13,f14,hi']
  rw[hK,hrec,hie,Nat.sub_self]
  refine⟨?_,rfl⟩
  split<;>rfl
theorem openC {W F:Pt->Prop}{st:St}{rt:Pt}{tb:Tb}{id:Nat}(hw:WF st)(hT:Tab W F st rt tb):
  Does (tabT tabD) Yo [.ptr rt 0, .int .i64 id] st fun v st'=>v= .tup [.int .i64 ((openS tb (tb.nodes.length+1) id).1:Nat), .bool (openS tb (tb.nodes.length+1) id).2]/\st=st':=by
 have e:openZS tb (id:Int)=openS tb (tb.nodes.length+1) id:=by unfold openZS;rw[if_neg (by omega)];rfl
 rw[<-e]
 exact openI hw hT
theorem indexC {P:Pt->Prop}{st:St}{v:V}{l:List Str}(n:Str)(h:SlAt P st v 1 (strs l))(hl:l.length<1000000):
  Does (tabT tabD) jJ [v,ofL n] st fun v' st'=>v'= .int .i64 (match idxN n l 0 with|some j=>(j:Int)|none=> -1)/\st=st':=by
 refine Jv jz rfl ?_
 have l1:=h.len
 rw[JL]at l1
 simp only[Kf,XZ,simprocAttr,l1]
 obtain⟨K,hK⟩:∃K:V->St->Prop,∀v' S,K v' S<->(v'= .int .i64 (match idxN n l 0 with|some j=>(j:Int)|none=> -1)/\st=S):=⟨_,fun _ _=>Iff.rfl⟩
 simp only[<-hK]
 obtain⟨L,hL⟩:∃L:Nat->Fr->St->Prop,∀j fr S,L j fr S<->∃(i:Nat),S=st/\j+i=l.length/\fr 0=v/\fr 1=ofL n/\fr 7= .int .i64 l.length/\fr 8= .int .i64 i/\idxN n l 0=idxN n (l.drop i) i:=⟨_,fun _ _ _=>Iff.rfl⟩
 refine Jq L l.length hl ((hL _ _ _).2 ⟨0,rfl,by omega,by simp only[XZ,simprocAttr],by simp only[XZ,simprocAttr],by simp only[XZ,simprocAttr],by simp only[XZ,simprocAttr]<;>rfl,rfl⟩) ?_
 intro j fr S hLj
 obtain⟨i,rfl,hj,f0,f1,f7,f8,hrec⟩:=(hL _ _ _).1 hLj
 by_cases hi:i<l.length
 ·have hi':(i:Int)<l.length:=by omega
  obtain⟨q,qo,a1,a2,a3,a4⟩:=h.one (xs:=l.map ofL) (i:=i) (by simpa using hi)
  simp only[List.getElem_map]at a4
  have hadd1:IntKind.i64.wrap ((i:Int)+1)=((i+1:Nat):Int):=by rw[Jp (by omega) (by omega)];rfl
  rw[List.drop_eq_getElem_cons hi,idxN]at hrec
  by_cases e:n=l[i]
  ·rw[if_pos e]at hrec
   have e':(n=l[i])=True:=eq_true e
   simp only[XZ,simprocAttr,f0,f1,f7,f8,hi',a1,a4,e']
   rw[hK,hrec];exact⟨rfl,rfl⟩
  ·rw[if_neg e]at hrec
   have e':(n=l[i])=False:=eq_false e
   simp only[XZ,simprocAttr,f0,f1,f7,f8,hi',a1,a4,e',hadd1]
   exact⟨l.length-(i+1),by omega,(hL _ _ _).2 ⟨i+1,rfl,by omega,by simp only[XZ,simprocAttr,f0],by simp only[XZ,simprocAttr,f1],by simp only[XZ,simprocAttr,f7],by simp only[XZ,simprocAttr],hrec⟩⟩
 ·have hi':¬(i:Int)<l.length:=by omega
  have hie:i=l.length:=by omega
  rw[hie,List.drop_length,idxN]at hrec
  simp only[XZ,simprocAttr,f0,f1,f7,f8,hi']
  rw[hK,hrec];exact⟨rfl,rfl⟩
def FitsOK (f:Nat):Prop:=∀(W F:Pt->Prop) (st:St) (rt kr rw:Pt) (tb:Tb) (was:Was) (a b:Nat) (r:Bool×Was),WF st->AskAt W F st rt kr rw tb was->fitsS tb f was a b=some r->
 Does (tabT tabD) kX [.ptr kr 0, .int .i64 a, .int .i64 b] st fun v st'=>Ch (fun r=>r=rw) st st'/\AskAt W F st' rt kr rw tb r.2/\v= .bool r.1
theorem Jbm {P:Pt->Prop}{st:St}{v:V}{l:List Nat}(h:SlAt P st v 1 (ints l)){i:Nat}(hi:i<l.length):∃r q,iaddrSV 1 v (.int .i64 i)=some (.ptr r q, .no)/\P r/\(st.row r≠ .none)/\ld1 (st.row r) q=some (.int .i64 (l.getD i 0:Nat), .no):=by
 obtain⟨r,q,a,b,c,d⟩:=h.one (xs:=l.map fun n:Nat=>V.int .i64 (n:Int)) (i:=i) (by simpa using hi)
 refine⟨r,q,a,b,c, ?_⟩
 rw[d]
 simp[List.getD_eq_getElem?_getD,hi]
set_option maxHeartbeats 2000000 in
theorem kidsC2 {f:Nat}(hf:FitsOK f){W F P:Pt->Prop}{st:St}{rt kr rw:Pt}{tb:Tb}{was:Was}{x y:Nd}{ex ey:List V}{r:Bool×Was}(hw:WF st)(hA:AskAt W F st rt kr rw tb was)(hx:NdC P st ex x)(hy:NdC P st ey y)(hP:∀r,P r->r≠rw)(hl:x.kids.length<1000000)(hr:asksS (fitsS tb f) (kidsP y x.kids 0) was=some r):
  Does (tabT tabD) jb [.ptr kr 0, .agg ex, .agg ey] st fun v st'=>Ch (fun r=>r=rw) st st'/\AskAt W F st' rt kr rw tb r.2/\v= .bool r.1:=by
 refine Yn tabM JbG rfl hw fun K fin=> ?_
 obtain⟨n,hn0⟩:∃n,st.nx=up 0 n:=⟨_,up0 _⟩
 have hold:=fun r (h:st.row r≠ .none)=>QP hw hn0 h
 obtain⟨nvx,kvx,rfl,x1,x2⟩:=hx
 obtain⟨nvy,kvy,rfl,y1,y2⟩:=hy
 have lx:=x2.len;have ly:=y2.len
 rw[Kq]at lx ly
 have g0:Gr st ((st.new fun t=> .cells t [.int .i64 x.kind,ofL x.name,nvx,kvx]).new fun t=> .cells t [.int .i64 y.kind,ofL y.name,nvy,kvy]):=(Gr.new hw (Ja _)).nn (Ja _)
 simp only[K9,XZ,simprocAttr,hn0,x1.cells,x1.sc,x2.cells,x2.sc,y1.cells,y1.sc,y2.cells,y2.sc,lx]
 have hrw:st.row rw≠ .none:=hA.map.ne
 have o0:=Js hw hn0 hrw 0
 have o1:=Js hw hn0 hrw 1
 obtain⟨L,hL⟩:∃L:Nat->Fr->St->Prop,∀j fr S,L j fr S<->∃(i:Nat) (wi:Was) (t0 t1:Nat),j+i=x.kids.length/\fr 0= .ptr kr 0/\fr 4= .ptr (up 0 n) 0/\fr 5= .ptr (up 1 n) 0/\fr 10= .int .i64 x.kids.length/\fr 11= .int .i64 i/\Ch (fun r=>r=rw) st S/\AskAt W F S rt kr rw tb wi/\S.row (up 0 n)= .cells t0 [.int .i64 x.kind,ofL x.name,nvx,kvx]/\S.row (up 1 n)= .cells t1 [.int .i64 y.kind,ofL y.name,nvy,kvy]/\asksS (fitsS tb f) (kidsP y x.kids 0) was=asksS (fitsS tb f) (kidsP y (x.kids.drop i) i) wi:=⟨_,fun _ _ _=>Iff.rfl⟩
 refine Jq L x.kids.length hl ((hL _ _ _).2 ⟨0,was,_,_,by omega,by simp only[XZ,simprocAttr],by simp only[XZ,simprocAttr],by simp only[XZ,simprocAttr],by simp only[XZ,simprocAttr],by simp only[XZ,simprocAttr]<;>rfl,Ch.of _ g0,hA.gr g0,by simp only[XZ,simprocAttr,hn0];rfl,by simp only[XZ,simprocAttr,hn0];rfl,rfl⟩) ?_
 intro j fr S hLj
 obtain⟨i,wi,t0,t1,hj,f0,f4,f5,f10,f11,hC,hAi,r0,r1,hrec⟩:=(hL _ _ _).1 hLj
 have wS:=hC.wf
 by_cases hi:i<x.kids.length
 ·have hi':(i:Int)<x.kids.length:=by omega
  have hk:∀r,P r->st.row r≠ .none->P r/\S.row r=st.row r:=fun r p e=>⟨p,hC.same r e (hP r p)⟩
  have hadd1:IntKind.i64.wrap ((i:Int)+1)=((i+1:Nat):Int):=by rw[Jp (by omega) (by omega)];rfl
  have hd:x.kids.drop i=x.kids.getD i 0::x.kids.drop (i+1):=by
   rw[List.drop_eq_getElem_cons hi];simp[List.getD_eq_getElem?_getD,hi]
  rw[hd,kidsP]at hrec
  by_cases hy:i<y.kids.length
  ·have hy':¬(y.kids.length:Int)<=(i:Int):=by omega
   rw[if_pos hy,asksS]at hrec
   obtain⟨qx,ox,a1,a2,a3,a4⟩:=Jbm (x2.imp hk) hi
   obtain⟨qy,oy,b1,b2,b3,b4⟩:=Jbm (y2.imp hk) hy
   simp only[XZ,simprocAttr,f0,f4,f5,f10,f11,hi',ly,hy',r0,r1,a1,a4,b1,b4]
   rw[hr]at hrec
   cases hfi:fitsS tb f wi (x.kids.getD i 0) (y.kids.getD i 0)with
   |none=>rw[hfi]at hrec;cases hrec
   | some p=>
     obtain⟨b,w2⟩:=p
     rw[hfi]at hrec
     refine QH (W:=fun r=>r=rw) wS ((hf W F _ rt kr rw tb wi _ _ _ (JB wS _) (hAi.low _) hfi).mono fun v st' h=>⟨h.1,h.2⟩) ?_
     rintro _ S2 lo c2 ⟨hA2,rfl⟩
     have hA2':AskAt W F {S2 with low:=lo} rt kr rw tb w2:=hA2.low lo
     have cS:Ch (fun r=>r=rw) st {S2 with low:=lo}:=hC.trans c2 fun r w=> .inl w
     cases b with
     | false=>
       simp only at hrec
       injection hrec with hrec
       subst hrec
       simp only[XZ,simprocAttr]
       exact fin _ _ (fun r a b=>cS.same r a b) fun _=>⟨hA2',rfl⟩
     | true=>
       simp only at hrec
       simp only[XZ,simprocAttr,f0,f4,f5,f10,f11,hadd1]
       refine⟨x.kids.length-(i+1),by omega,(hL _ _ _).2 ⟨i+1,w2,t0,t1,by omega,by simp only[XZ,simprocAttr,f0],by simp only[XZ,simprocAttr,f4],by simp only[XZ,simprocAttr,f5],by simp only[XZ,simprocAttr,f10],by simp only[XZ,simprocAttr],cS,hA2', ?_, ?_,hr.trans hrec⟩⟩
       ·exact(c2.same _ (Je r0) (fun e=>o0 e.symm)).trans r0
       ·exact(c2.same _ (Je r1) (fun e=>o1 e.symm)).trans r1
  ·have hy':(y.kids.length:Int)<=(i:Int):=by omega
   rw[if_neg hy,asksS]at hrec
   simp only[XZ,simprocAttr,f0,f4,f5,f10,f11,hi',ly,hy',r0,r1]
   refine fin _ _ (fun r a b=>hC.same r a b) fun _=> ?_
   rw[hr]at hrec
   injection hrec with hrec
   subst hrec
   exact⟨hAi,rfl⟩
 ·have hi':¬(i:Int)<x.kids.length:=by omega
  have hie:i=x.kids.length:=by omega
  rw[hie,List.drop_length,kidsP,asksS,hr]at hrec
  injection hrec with hrec
  subst hrec
  simp only[XZ,simprocAttr,f0,f4,f5,f10,f11,hi']
  exact fin _ _ (fun r a b=>hC.same r a b) fun _=>⟨hAi,rfl⟩
set_option maxHeartbeats 4000000 in
theorem byC {f:Nat}(hf:FitsOK f){W F P:Pt->Prop}{st:St}{rt kr rw:Pt}{tb:Tb}{was:Was}{x y:Nd}{ex ey:List V}(first:Bool){r:Bool×Was}(hw:WF st)(hA:AskAt W F st rt kr rw tb was)(hx:NdC P st ex x)(hy:NdC P st ey y)(hP:∀r,P r->r≠rw)(hl:y.names.length<1000000)(hlx:x.names.length<1000000)(hr:asksS (fitsS tb f) (byP x y first y.names 0) was=some r):
  Does (tabT tabD) Jen [.ptr kr 0, .agg ex, .agg ey, .bool first] st fun v st'=>Ch (fun r=>r=rw) st st'/\AskAt W F st' rt kr rw tb r.2/\v= .bool r.1:=by
 refine Yn tabM Jc4 rfl hw fun K fin=> ?_
 obtain⟨n,hn0⟩:∃n,st.nx=up 0 n:=⟨_,up0 _⟩
 have hold:=fun r (h:st.row r≠ .none)=>QP hw hn0 h
 obtain⟨nvx,kvx,rfl,x1,x2⟩:=hx
 obtain⟨nvy,kvy,rfl,y1,y2⟩:=hy
 have lx:=x2.len;have ly:=y2.len;have lny:=y1.len
 rw[Kq]at lx ly
 rw[JL]at lny
 have g0:Gr st ((st.new fun t=> .cells t [.int .i64 x.kind,ofL x.name,nvx,kvx]).new fun t=> .cells t [.int .i64 y.kind,ofL y.name,nvy,kvy]):=(Gr.new hw (Ja _)).nn (Ja _)
 simp only[QD,XZ,simprocAttr,hn0,x1.cells,x1.sc,x2.cells,x2.sc,y1.cells,y1.sc,y2.cells,y2.sc,lny]
 have hrw:st.row rw≠ .none:=hA.map.ne
 have o0:=Js hw hn0 hrw 0
 have o1:=Js hw hn0 hrw 1
 obtain⟨L,hL⟩:∃L:Nat->Fr->St->Prop,∀j fr S,L j fr S<->∃(i:Nat) (wi:Was) (t0 t1:Nat),j+i=y.names.length/\fr 0= .ptr kr 0/\fr 3= .bool first/\fr 5= .ptr (up 0 n) 0/\fr 6= .ptr (up 1 n) 0/\fr 15=nvy/\fr 16= .int .i64 y.names.length/\fr 17= .int .i64 i/\Ch (fun r=>r=rw) st S/\AskAt W F S rt kr rw tb wi/\S.row (up 0 n)= .cells t0 [.int .i64 x.kind,ofL x.name,nvx,kvx]/\S.row (up 1 n)= .cells t1 [.int .i64 y.kind,ofL y.name,nvy,kvy]/\asksS (fitsS tb f) (byP x y first y.names 0) was=asksS (fitsS tb f) (byP x y first (y.names.drop i) i) wi:=⟨_,fun _ _ _=>Iff.rfl⟩
 refine Jq L y.names.length hl ((hL _ _ _).2 ⟨0,was,_,_,by omega,by simp only[XZ,simprocAttr],by simp only[XZ,simprocAttr],by simp only[XZ,simprocAttr],by simp only[XZ,simprocAttr],by simp only[XZ,simprocAttr],by simp only[XZ,simprocAttr],by simp only[XZ,simprocAttr]<;>rfl,Ch.of _ g0,hA.gr g0,by simp only[XZ,simprocAttr,hn0];rfl,by simp only[XZ,simprocAttr,hn0];rfl,rfl⟩) ?_
 intro j fr S hLj
 obtain⟨i,wi,t0,t1,hj,f0,f3,f5,f6,f15,f16,f17,hC,hAi,r0,r1,hrec⟩:=(hL _ _ _).1 hLj
 have wS:=hC.wf
 by_cases hi:i<y.names.length
 ·have hi':(i:Int)<y.names.length:=by omega
  have hk:∀r,P r->st.row r≠ .none->P r/\S.row r=st.row r:=fun r p e=>⟨p,hC.same r e (hP r p)⟩
  have hadd1:IntKind.i64.wrap ((i:Int)+1)=((i+1:Nat):Int):=by rw[Jp (by omega) (by omega)];rfl
  rw[List.drop_eq_getElem_cons hi,byP]at hrec
  obtain⟨q,qo,a1,a2,a3,a4⟩:=(y1.imp hk).one (xs:=y.names.map ofL) (i:=i) (by simpa using hi)
  simp only[List.getElem_map]at a4
  simp only[XZ,simprocAttr,f0,f3,f5,f6,f15,f16,f17,hi',a1,a4,r0]
  refine Jb (indexC y.names[i] (x1.imp hk) hlx) ?_
  rintro _ _ ⟨rfl,rfl⟩
  rw[hr]at hrec
  have no:∀{fr'},asksS (fitsS tb f) (none::byP x y first (y.names.drop (i+1)) (i+1)) wi=some r->fr'=V.bool false->K fr' S:=fun h1 h2=>by
   rw[asksS]at h1
   injection h1 with h1
   subst h1
   exact fin _ _ (fun r a b=>hC.same r a b) fun _=>⟨hAi,h2⟩
  have hpb:pairN x y first y.names[i] i=match idxN y.names[i] x.names 0 with
   |none=>none
   |some j=>if j<x.kids.length/\i<y.kids.length then some (if first=true then(x.kids.getD j 0,y.kids.getD i 0)else(y.kids.getD i 0,x.kids.getD j 0))else none:=rfl
  cases hj1:idxN y.names[i] x.names 0 with
  | none=>
    rw[hj1]at hpb
    rw[hpb]at hrec
    simp only[XZ,simprocAttr]
    exact no hrec.symm rfl
  | some jj=>
    rw[hj1]at hpb
    simp only at hpb
    have j0:¬(jj:Int)<0:=by omega
    by_cases c1:jj<x.kids.length
    ·by_cases c2:i<y.kids.length
     ·rw[hpb,if_pos ⟨c1,c2⟩,asksS]at hrec
      have c1':¬(x.kids.length:Int)<=(jj:Int):=by omega
      have c2':¬(y.kids.length:Int)<=(i:Int):=by omega
      obtain⟨qx,ox,d1,d2,d3,d4⟩:=Jbm (x2.imp hk) c1
      obtain⟨qy,oy,e1,e2,e3,e4⟩:=Jbm (y2.imp hk) c2
      have step:∀(a b:Nat),(match fitsS tb f wi a b with
        |none=>none
        |some (false,was)=>some (false,was)
        |some (true,was)=>asksS (fitsS tb f) (byP x y first (y.names.drop (i+1)) (i+1)) was)=some r->∀{Q:V->St->Prop},(∀S2 w2,Ch (fun r=>r=rw) st S2->AskAt W F S2 rt kr rw tb w2->S2.row (up 0 n)= .cells t0 [.int .i64 x.kind,ofL x.name,nvx,kvx]->S2.row (up 1 n)= .cells t1 [.int .i64 y.kind,ofL y.name,nvy,kvy]->(r=(false,w2)->Q (.bool false) S2)/\(some r=asksS (fitsS tb f) (byP x y first (y.names.drop (i+1)) (i+1)) w2->Q (.bool true) S2))->∀{fr:Fr} {ow},wCall (tabT tabD) false ow kX [.ptr kr 0, .int .i64 a, .int .i64 b] fr S Q:=fun a b hs Q hQ fr ow=>by
       cases hfi:fitsS tb f wi a b with
       |none=>rw[hfi]at hs;cases hs
       | some p=>
         obtain⟨bb,w2⟩:=p
         rw[hfi]at hs
         refine Jb (hf W F _ rt kr rw tb wi _ _ _ wS hAi hfi) ?_
         rintro _ S2 ⟨c2,hA2,rfl⟩
         have cS:Ch (fun r=>r=rw) st S2:=hC.trans c2 fun r w=> .inl w
         have q:=hQ S2 w2 cS hA2 ((c2.same _ (Je r0) (fun e=>o0 e.symm)).trans r0) ((c2.same _ (Je r1) (fun e=>o1 e.symm)).trans r1)
         cases bb with
         |false=>simp only at hs;injection hs with hs;exact q.1 hs.symm
         |true=>simp only at hs;exact q.2 hs.symm
      cases first with
      | true=>
        simp only[XZ,simprocAttr,f0,f3,f5,f6,f15,f16,f17,j0,c1',c2',lx,ly,r0,r1,d1,d4,e1,e4]
        refine step _ _ hrec.symm fun S2 w2 cS hA2 s0 s1=>⟨fun h=> ?_,fun h=> ?_⟩
        ·simp only[XZ,simprocAttr]
         exact fin _ _ (fun r a b=>cS.same r a b) fun _=>by rw[h];exact⟨hA2,rfl⟩
        ·simp only[XZ,simprocAttr,f0,f3,f5,f6,f15,f16,f17,hadd1]
         exact⟨y.names.length-(i+1),by omega,(hL _ _ _).2 ⟨i+1,w2,t0,t1,by omega,by simp only[XZ,simprocAttr,f0],by simp only[XZ,simprocAttr,f3],by simp only[XZ,simprocAttr,f5],by simp only[XZ,simprocAttr,f6],by simp only[XZ,simprocAttr,f15],by simp only[XZ,simprocAttr,f16],by simp only[XZ,simprocAttr],cS,hA2,s0,s1,hr.trans h⟩⟩
      | false=>
        simp only[XZ,simprocAttr,f0,f3,f5,f6,f15,f16,f17,j0,c1',c2',lx,ly,r0,r1,d1,d4,e1,e4]
        refine step _ _ hrec.symm fun S2 w2 cS hA2 s0 s1=>⟨fun h=> ?_,fun h=> ?_⟩
        ·simp only[XZ,simprocAttr]
         exact fin _ _ (fun r a b=>cS.same r a b) fun _=>by rw[h];exact⟨hA2,rfl⟩
        ·simp only[XZ,simprocAttr,f0,f3,f5,f6,f15,f16,f17,hadd1]
         exact⟨y.names.length-(i+1),by omega,(hL _ _ _).2 ⟨i+1,w2,t0,t1,by omega,by simp only[XZ,simprocAttr,f0],by simp only[XZ,simprocAttr,f3],by simp only[XZ,simprocAttr,f5],by simp only[XZ,simprocAttr,f6],by simp only[XZ,simprocAttr,f15],by simp only[XZ,simprocAttr,f16],by simp only[XZ,simprocAttr],cS,hA2,s0,s1,hr.trans h⟩⟩
     ·rw[hpb,if_neg (fun h=>c2 h.2)]at hrec
      have c1':¬(x.kids.length:Int)<=(jj:Int):=by omega
      have c2':(y.kids.length:Int)<=(i:Int):=by omega
      simp only[XZ,simprocAttr,f0,f3,f5,f6,f15,f16,f17,j0,c1',c2',lx,ly,r0,r1]
      exact no hrec.symm rfl
    ·rw[hpb,if_neg (fun h=>c1 h.1)]at hrec
     have c1':(x.kids.length:Int)<=(jj:Int):=by omega
     simp only[XZ,simprocAttr,f0,f3,f5,f6,f15,f16,f17,j0,c1',lx,ly,r0,r1]
     exact no hrec.symm rfl
 ·have hi':¬(i:Int)<y.names.length:=by omega
  have hie:i=y.names.length:=by omega
  rw[hie,List.drop_length,byP,asksS,hr]at hrec
  injection hrec with hrec
  subst hrec
  simp only[XZ,simprocAttr,f0,f3,f5,f6,f15,f16,f17,hi']
  exact fin _ _ (fun r a b=>hC.same r a b) fun _=>⟨hAi,rfl⟩
set_option maxHeartbeats 4000000 in
theorem openA {f:Nat}(hf:FitsOK f){W F:Pt->Prop}{st:St}{rt kr rw:Pt}{tb:Tb}{was:Was}{a b:Nat}{r:Bool×Was}(hw:WF st)(hA:AskAt W F st rt kr rw tb was)
  (hr:(match plan tb a b with|none=>some (false,was)|some l=>asksS (fitsS tb f) l was)=some r):
  Does (tabT tabD) Jcj [.ptr kr 0, .int .i64 a, .int .i64 b] st fun v st'=>Ch (fun r=>r=rw) st st'/\AskAt W F st' rt kr rw tb r.2/\v= .bool r.1:=by
 refine Yn tabM JbE rfl hw fun K fin=> ?_
 obtain⟨tk,ck⟩:=hA.cell
 simp only[K8,XZ,simprocAttr,ck]
 refine Jb (openC hw hA.tab) ?_
 rintro _ _ ⟨rfl,rfl⟩
 simp only[XZ,simprocAttr,ck]
 refine Jb (openC hw hA.tab) ?_
 rintro _ _ ⟨rfl,rfl⟩
 have hlx:= @Ja7 tb (tb.nodes.length+1) a
 have hly:= @Ja7 tb (tb.nodes.length+1) b
 have hpl:plan tb a b=if(openS tb (tb.nodes.length+1) a).2=true/\(openS tb (tb.nodes.length+1) b).2=true then plan2 (openS tb (tb.nodes.length+1) a).1 (tb.nodes.getD (openS tb (tb.nodes.length+1) a).1 zeroNd) (tb.nodes.getD (openS tb (tb.nodes.length+1) b).1 zeroNd)else none:=rfl
 generalize openS tb (tb.nodes.length+1) a=oa at*
 generalize openS tb (tb.nodes.length+1) b=ob at*
 obtain⟨a',pa⟩:=oa
 obtain⟨b',pb⟩:=ob
 simp only at hlx hly hpl
 cases pa with
 | false=>
   simp only[XZ,simprocAttr]
   rw[hpl,if_neg (fun h=>by cases h.1)]at hr
   simp only at hr
   injection hr with hr;subst hr
   exact fin _ _ (fun _ _ _=>rfl) fun _=>⟨hA,rfl⟩
 |true=>
 cases pb with
 | false=>
   simp only[XZ,simprocAttr]
   rw[hpl,if_neg (fun h=>by cases h.2)]at hr
   simp only at hr
   injection hr with hr;subst hr
   exact fin _ _ (fun _ _ _=>rfl) fun _=>⟨hA,rfl⟩
 |true=>
 have hxl:a'<tb.nodes.length:=hlx rfl
 have hyl:b'<tb.nodes.length:=hly rfl
 rw[hpl,if_pos ⟨rfl,rfl⟩,show tb.nodes.getD a' zeroNd=tb.nodes[a'] by simp[List.getD_eq_getElem?_getD,hxl],show tb.nodes.getD b' zeroNd=tb.nodes[b'] by simp[List.getD_eq_getElem?_getD,hyl]]at hr
 have fitx:tb.nodes[a'].fit:=by obtain⟨_,_,_,_,_,_,h⟩:=hA.tab;exact h.fit _ (List.getElem_mem hxl)
 have fity:tb.nodes[b'].fit:=by obtain⟨_,_,_,_,_,_,h⟩:=hA.tab;exact h.fit _ (List.getElem_mem hyl)
 simp only[XZ,simprocAttr,ck]
 have hrw:st.row rw≠ .none:=hA.map.ne
 refine Jb (nodeC (Q:=fun r=>st.row r= .none) hw hA.tab hxl (fun r h=>h)) ?_
 rintro _ S1 ⟨g1,ex,rfl,nx⟩
 obtain⟨n1,hn1⟩:∃n,S1.nx=up 0 n:=⟨_,up0 _⟩
 obtain⟨nvx,kvx,rfl,x1,x2⟩:=nx
 have w1:=g1.wf
 have ck1:=g1.cells ck
 have ok1:=fun k=>nes (Js w1 hn1 (Je ck1) k)
 have G1:Gr S1 ((S1.new fun t=> .cells t [.int .i64 0,ofL [], .snil, .snil]).wr (up 0 n1) S1.t fun u=> .cells u [.int .i64 tb.nodes[a'].kind,ofL tb.nodes[a'].name,nvx,kvx]):=(Gr.refl w1).nw hn1 (Ja _) (Ja _)
 simp only[XZ,simprocAttr,hn1,ok1,ck1,x1.cells,x1.sc,x2.cells,x2.sc]
 refine Jb (nodeC (Q:=fun r=>st.row r= .none) G1.wf ((hA.tab.gr g1).gr G1) hyl (fun r h=>Ch.fresh (Ch.of (fun _=>False) (g1.trans G1)) h)) ?_
 rintro _ S2 ⟨g2,ey,rfl,ny⟩
 obtain⟨n2,hn2⟩:∃n,S2.nx=up 0 n:=⟨_,up0 _⟩
 obtain⟨nvy,kvy,rfl,y1,y2⟩:=ny
 have w2:=g2.wf
 obtain⟨tx,bx⟩:∃t,S2.row (up 0 n1)= .cells t [.int .i64 tb.nodes[a'].kind,ofL tb.nodes[a'].name,nvx,kvx]:=⟨_,g2.cells (Jl _ _ _ _)⟩
 have ox:=fun k=>nes (Js w2 hn2 (Je bx) k)
 have G2:Gr S2 ((S2.new fun t=> .cells t [.int .i64 0,ofL [], .snil, .snil]).wr (up 0 n2) S2.t fun u=> .cells u [.int .i64 tb.nodes[b'].kind,ofL tb.nodes[b'].name,nvy,kvy]):=(Gr.refl w2).nw hn2 (Ja _) (Ja _)
 have GG:Gr st ((S2.new fun t=> .cells t [.int .i64 0,ofL [], .snil, .snil]).wr (up 0 n2) S2.t fun u=> .cells u [.int .i64 tb.nodes[b'].kind,ofL tb.nodes[b'].name,nvy,kvy]):=((g1.trans G1).trans g2).trans G2
 have ly:=y2.len
 rw[Kq]at ly
 have hA3:=hA.gr GG
 have x1':=((x1.gr G1).gr g2).gr G2
 have x2':=((x2.gr G1).gr g2).gr G2
 have y1':=y1.gr G2
 have y2':=y2.gr G2
 simp only[XZ,simprocAttr,hn2,ox,bx,y1.cells,y1.sc,y2.cells,y2.sc,ly]
 generalize hX:tb.nodes[a']=X at*
 generalize hY:tb.nodes[b']=Y at*
 obtain⟨S3,hS3⟩:∃S3,S3=((S2.new fun t=> .cells t [.int .i64 0,ofL [], .snil, .snil]).wr (up 0 n2) S2.t fun u=> .cells u [.int .i64 Y.kind,ofL Y.name,nvy,kvy]):=⟨_,rfl⟩
 simp only[<-hS3]at GG hA3 x1' x2' y1' y2'⊢
 have rx:S3.row (up 0 n1)= .cells tx [.int .i64 X.kind,ofL X.name,nvx,kvx]:=by rw[hS3];simp only[Jx,JQ,hn2,ox,if_false];exact bx
 obtain⟨ty,ry⟩:∃t,S3.row (up 0 n2)= .cells t [.int .i64 Y.kind,ofL Y.name,nvy,kvy]:=⟨_,by rw[hS3];exact Jl _ _ _ _⟩
 have hne:∀r,st.row r= .none->r≠rw:=fun r h e=>hrw (by rw[<-e];exact h)
 have done:∀{v:V} {st':St},Ch (fun r=>r=rw) S3 st'->AskAt W F st' rt kr rw tb r.2->v= .bool r.1->K v st':=fun{v st'} c h e=>fin _ _ (fun r e n=>by rw[c.same r (by rw[GG.same r e];exact e) n,GG.same r e]) fun _=>⟨h,e⟩
 have dfalse:some (false,was)=some r->K (.bool false) S3:=fun h=>by
  injection h with h;subst h
  exact done (Ch.refl _ GG.wf) hA3 rfl
 have hp2:plan2 a' X Y=if Y.kind=6/\X.kind≠6/\Y.kids.length=1 then some [some (a',Y.kids.getD 0 0)]else if X.kind≠Y.kind then none else if Y.kind=7 then some (byP X Y true Y.names 0)else if Y.kind=8 then some (byP Y X false X.names 0)else some (kidsP Y X.kids 0):=rfl
 have NX:NdC (fun r=>st.row r= .none) S3 [.int .i64 X.kind,ofL X.name,nvx,kvx] X:=⟨nvx,kvx,rfl,x1',x2'⟩
 have NY:NdC (fun r=>st.row r= .none) S3 [.int .i64 Y.kind,ofL Y.name,nvy,kvy] Y:=⟨nvy,kvy,rfl,y1',y2'⟩
 have lxk:X.kids.length<1000000:=by have:=fitx.2;omega
 have lxn:X.names.length<1000000:=by have:=fitx.1;omega
 have lyn:Y.names.length<1000000:=by have:=fity.1;omega
 have kids:(Y.kind≠7/\Y.kind≠8)->X.kind=Y.kind->asksS (fitsS tb f) (kidsP Y X.kids 0) was=some r:=fun h1 h2=>by
  rw[hp2,if_neg (fun h=>h.2.1 (h2.trans h.1)),if_neg (fun h=>h h2),if_neg h1.1,if_neg h1.2]at hr
  exact hr
 have callK:∀{fr:Fr} {ow},(Y.kind≠7/\Y.kind≠8)->X.kind=Y.kind->wCall (tabT tabD) false ow jb [.ptr kr 0, .agg [.int .i64 X.kind,ofL X.name,nvx,kvx], .agg [.int .i64 Y.kind,ofL Y.name,nvy,kvy]] fr S3 K:=fun h1 h2=>
  Jb (kidsC2 hf GG.wf hA3 NX NY (fun r p=>hne r p) lxk (kids h1 h2)) fun v st' ⟨c,h,e⟩=>done c h e
 have l1:Y.kids.length=1->((Y.kids.length:Int)=1)=True:=fun h=>eq_true (by omega)
 by_cases k6:Y.kind=6
 ·have k6':(Y.kind=6)=True:=eq_true k6
  by_cases x6:X.kind=6
  ·have x6':(X.kind=6)=True:=eq_true x6
   have he:(X.kind=Y.kind)=True:=eq_true (by rw[x6,k6])
   have e7:(Y.kind=7)=False:=eq_false (by omega)
   have e8:(Y.kind=8)=False:=eq_false (by omega)
   simp only[XZ,simprocAttr,rx,ry,k6',x6',he,e7,e8]
   refine Jb (kidsC2 hf GG.wf hA3 NX NY (fun r p=>hne r p) lxk (kids ⟨by omega,by omega⟩ (by omega))) ?_
   rintro v st' ⟨c,h,e⟩
   simp only[XZ,simprocAttr]
   exact done c h e
  ·have x6':(X.kind=6)=False:=eq_false x6
   by_cases ln:Y.kids.length=1
   ·have hi0:0<Y.kids.length:=by omega
    obtain⟨q,qo,a1,a2,a3,a4⟩:=Jbm y2' hi0
    have a1:iaddrSV 1 kvy (.int .i64 0)=some (.ptr q qo, .no):=a1
    rw[hp2,if_pos ⟨k6,x6,ln⟩]at hr
    simp only[asksS]at hr
    simp only[XZ,simprocAttr,rx,ry,k6',x6',ly,l1 ln,a1,a4]
    cases hfi:fitsS tb f was a' (Y.kids.getD 0 0)with
    |none=>rw[hfi]at hr;cases hr
    | some p=>
      obtain⟨b,w⟩:=p
      rw[hfi]at hr
      have hr':r=(b,w):=by cases b<;>(simp only at hr;injection hr with hr;exact hr.symm)
      refine Jb (hf W F _ rt kr rw tb was _ _ _ GG.wf hA3 hfi) ?_
      rintro v st' ⟨c,h,e⟩
      simp only[XZ,simprocAttr]
      exact done c (by rw[hr'];exact h) (by rw[hr'];exact e)
   ·have ln':((Y.kids.length:Int)=1)=False:=eq_false (by omega)
    have he:(X.kind=Y.kind)=False:=eq_false (by omega)
    rw[hp2,if_neg (fun h=>ln h.2.2),if_pos (by omega)]at hr
    simp only[XZ,simprocAttr,rx,ry,k6',x6',ly,ln',he]
    exact dfalse hr
 ·have k6':(Y.kind=6)=False:=eq_false k6
  rw[hp2,if_neg (fun h=>k6 h.1)]at hr
  by_cases he:X.kind=Y.kind
  ·have he':(X.kind=Y.kind)=True:=eq_true he
   rw[if_neg (fun h=>h he)]at hr
   by_cases e7:Y.kind=7
   ·have e7':(Y.kind=7)=True:=eq_true e7
    rw[if_pos e7]at hr
    simp only at hr
    simp only[XZ,simprocAttr,rx,ry,k6',he',e7']
    refine Jb (byC hf true GG.wf hA3 NX NY (fun r p=>hne r p) lyn lxn hr) ?_
    rintro v st' ⟨c,h,e⟩
    simp only[XZ,simprocAttr]
    exact done c h e
   ·have e7':(Y.kind=7)=False:=eq_false e7
    rw[if_neg e7]at hr
    by_cases e8:Y.kind=8
    ·have e8':(Y.kind=8)=True:=eq_true e8
     rw[if_pos e8]at hr
     simp only at hr
     simp only[XZ,simprocAttr,rx,ry,k6',he',e7',e8']
     refine Jb (byC hf false GG.wf hA3 NY NX (fun r p=>hne r p) lxn lyn hr) ?_
     rintro v st' ⟨c,h,e⟩
     simp only[XZ,simprocAttr]
     exact done c h e
    ·have e8':(Y.kind=8)=False:=eq_false e8
     rw[if_neg e8]at hr
     simp only at hr
     simp only[XZ,simprocAttr,rx,ry,k6',he',e7',e8']
     refine Jb (kidsC2 hf GG.wf hA3 NX NY (fun r p=>hne r p) lxk hr) ?_
     rintro v st' ⟨c,h,e⟩
     simp only[XZ,simprocAttr]
     exact done c h e
  ·have he':(X.kind=Y.kind)=False:=eq_false he
   rw[if_pos he]at hr
   simp only[XZ,simprocAttr,rx,ry,k6',he']
   exact dfalse hr
set_option maxHeartbeats 4000000 in
theorem fitsOK :∀f,FitsOK f
 |0=>fun _ _ _ _ _ _ _ _ _ _ _ _ _ h=>by cases h
 | f+1=>by
   intro W F st rt kr rw tb was a b r hw hA hr
   refine Yn tabM Jby rfl hw fun K fin=> ?_
   obtain⟨n,hn0⟩:∃n,st.nx=up 0 n:=⟨_,up0 _⟩
   have hold:=fun r (h:st.row r≠ .none)=>QP hw hn0 h
   obtain⟨tk,ck⟩:=hA.cell
   have okr:=fun k=>nes (Js hw hn0 (Je ck) k)
   have hrw:st.row rw≠ .none:=hA.map.ne
   have orw:=fun k=>nes (Js hw hn0 hrw k)
   have krw:=nes hA.krw
   have hp:∀p∈was.map (fun p=>(p,V.int .i64 1)),EK.eq (.many [.i, .i]) (encP (a,b)) (encP p.1)=some (decide ((a,b)=p.1)):=fun p _=>Jf2 _ _
   have hlk:∀S:St,S.row rw=st.row rw->lookupV S (.many [.i, .i]) (.int .i64 0) false (.map rw) (.agg [.int .i64 (a:Int), .int .i64 (b:Int)])=some (ansL (.int .i64 0) false (at_ (a,b) (was.map fun p=>(p,V.int .i64 1))), .no):=fun S hS=>Yg (enc:=encP) (hA.map.of hS) _ _ (a,b) hp rfl
   rw[JiC]at hlk
   have gS:Gr st ((st.new fun t=> .cells t [.int .i64 0, .int .i64 0]).wr (up 0 n) st.t fun u=> .cells u [.int .i64 (a:Int), .int .i64 (b:Int)]):=(Gr.refl hw).nw hn0 (Ja _) (Ja _)
   rw[fitsS]at hr
   by_cases ab:a=b
   ·rw[if_pos (.inl ab)]at hr
    injection hr with hr;subst hr
    have ab':((a:Int)=(b:Int))=True:=eq_true (by omega)
    simp only[Ke,XZ,simprocAttr,hn0,ab']
    refine fin _ _ (fun r e n=> ?_) fun _=>⟨hA.gr ?_,rfl⟩
    ·have:=gS.same r e;simpa only[Jx,JQ,hn0]using this
    ·have:=gS;simpa only[hn0]using this
   have ab':((a:Int)=(b:Int))=False:=eq_false (by omega)
   by_cases hin:(a,b)∈was
   ·rw[if_pos (.inr hin)]at hr
    injection hr with hr;subst hr
    rw[if_pos hin]at hlk
    simp only[ansL,Bool.false_eq_true,if_false]at hlk
    simp only[Ke,XZ,simprocAttr,hn0,ab',okr,ck,hlk,orw]
    refine fin _ _ (fun r e n=> ?_) fun _=>⟨hA.gr ?_,rfl⟩
    ·have:=gS.same r e;simpa only[Jx,JQ,hn0]using this
    ·have:=gS;simpa only[hn0]using this
   rw[if_neg (fun h=>by rcases h with h|h;exact ab h;exact hin h)]at hr
   rw[if_neg hin]at hlk
   simp only[ansL,Bool.false_eq_true,if_false]at hlk
   obtain⟨tw,mw⟩:=hA.map
   have hme:∀S:St,S.row rw=st.row rw->mentV S (.many [.i, .i]) (.int .i64 0) (.map rw) (.agg [.int .i64 (a:Int), .int .i64 (b:Int)])=some (.tup [.int .i64 0, .int .i64 ((was.map fun p=>(p,V.int .i64 1)).length:Nat)], .wr rw tw fun u=> .mob u (((was.map fun p=>(p,V.int .i64 1))++[((a,b),V.int .i64 0)]).map fun p=>(encP p.1,p.2))):=fun S hS=>JlZ (enc:=encP) (hS.trans mw) (a,b) (.int .i64 0) hp rfl (by show(match EK.eq (.many [.i, .i]) (encP (a,b)) (encP (a,b))with|some true=>true|_=>false)=true;rw[Jf2];simp) (JlY hin)
   have hes:∀(S:St) t,S.row rw= .mob t (((was.map fun p=>(p,V.int .i64 1))++[((a,b),V.int .i64 0)]).map fun p=>(encP p.1,p.2))->estsV S (.map rw) (.int .i64 ((was.map fun p=>(p,V.int .i64 1)).length:Nat)) (.int .i64 1)=some (undefV, .wr rw t fun u=> .mob u (((was++[(a,b)]).map fun p=>(p,V.int .i64 1)).map fun p=>(encP p.1,p.2))):=fun S t hS=>by
    have h:=Jkt (st:=S) (r:=rw) (es:=(was.map fun p=>(p,V.int .i64 1)).map fun p=>(encP p.1,p.2)) (t:=t) (k:=encP (a,b)) (z:= .int .i64 0) (v:= .int .i64 1) (by rw[hS];simp)
    rw[List.length_map]at h
    rw[h]
    simp
   have w01:IntKind.i64.wrap (0+1)=1:=by decide
   simp only[Ke,XZ,simprocAttr,hn0,ab',okr,ck,hlk,orw,JmX,JmY,Jpm,Jpn,hme,krw,w01]
   rw[hes _ _ (Jl _ _ _ _)]
   have c1:Ch (fun r=>r=rw) st (((st.new fun t=>Row.cells t [V.int IntKind.i64 0,V.int IntKind.i64 0]).wr (up 0 n) st.t fun u=>Row.cells u [V.int IntKind.i64 ↑a,V.int IntKind.i64 ↑b]).wr rw tw fun u=>Row.mob u (List.map (fun p=>(encP p.fst,p.snd)) (List.map (fun p=>(p,V.int IntKind.i64 1)) was++[((a,b),V.int IntKind.i64 0)]))):=
    (Ch.of (fun r=>r=rw) gS).wr (by rw[gS.same rw hrw];exact hrw) (by rw[gS.same rw hrw,mw];rfl) (.inl rfl) (Kx _)
   have c2:=c1.wr (p:=rw) (t:=((st.new fun t=>Row.cells t [V.int IntKind.i64 0,V.int IntKind.i64 0]).wr (up 0 n) st.t fun u=>Row.cells u [V.int IntKind.i64 ↑a,V.int IntKind.i64 ↑b]).t) (f:=fun u=>Row.mob u (((was++[(a,b)]).map fun p=>(p,V.int .i64 1)).map fun p=>(encP p.1,p.2))) (by rw[Jl];exact fun e=>by cases e) (by rw[Jl];rfl) (.inl rfl) (Kx _)
   have hA2:=hA.ch (was':=was++[(a,b)]) c2 ⟨_,Jl _ _ _ _⟩
   simp only[XZ,simprocAttr]
   refine Jb (openA (fitsOK f) c2.wf hA2 hr) ?_
   rintro v st' ⟨c,h,e⟩
   simp only[XZ,simprocAttr]
   exact fin _ _ (fun r e n=>by rw[c.same r (by rw[c2.same r e n];exact e) n,c2.same r e n]) fun _=>⟨h,e⟩
set_option maxHeartbeats 2000000 in
theorem leC {W F:Pt->Prop}{st:St}{rt:Pt}{tb:Tb}{a b f:Nat}{r:Bool×Was}(hw:WF st)(hT:Tab W F st rt tb)(ha:a<tb.nodes.length)(hb:b<tb.nodes.length)(hr:fitsS tb f [] a b=some r):
  Does (tabT tabD) Jib [.ptr rt 0, .int .i64 a, .int .i64 b] st fun v st'=>Gr st st'/\v= .tup [.bool r.1, .int .i64 (r.2.length:Nat)]:=by
 refine Jw tabM JkH rfl hw fun K fin=> ?_
 obtain⟨n,hn0⟩:∃n,st.nx=up 0 n:=⟨_,up0 _⟩
 have a0:¬(a:Int)<0:=by omega
 have b0:¬(b:Int)<0:=by omega
 have a1:¬(tb.nodes.length:Int)<=(a:Int):=by omega
 have b1:¬(tb.nodes.length:Int)<=(b:Int):=by omega
 simp only[kV,XZ,simprocAttr,a0]
 refine Jb (lenC hT) ?_
 rintro _ _ ⟨rfl,rfl⟩
 simp only[XZ,simprocAttr,a0,a1,b0]
 refine Jb (lenC hT) ?_
 rintro _ _ ⟨rfl,rfl⟩
 have sp:V.pnil.cells=some [.pnil]:=rfl
 have g0:Gr st ((st.new fun t=> .mob t []).new fun t=> .cells t [.ptr rt 0, .map (up 0 n)]):=(Gr.new hw (Kx _)).nn (Ja _)
 simp only[XZ,simprocAttr,a0,a1,b0,b1,hn0]
 obtain⟨lv,ra,rn,rs,es,sv,hT0⟩:=hT.live
 have hA:AskAt W (fun r=>F r/\st.row r≠ .none) ((st.new fun t=> .mob t []).new fun t=> .cells t [.ptr rt 0, .map (up 0 n)]) rt (up 1 n) (up 0 n) tb []:=by
  refine⟨Tab.gr ⟨lv,ra,rn,rs,es,sv,hT0⟩ g0,⟨(st.t+1), ?_⟩,⟨st.t, ?_⟩,fun r w e=> ?_⟩
  ·simp only[XZ,simprocAttr,hn0];rfl
  ·simp only[XZ,simprocAttr,hn0];rfl
  ·have q:=nx0 hw hn0 0
   rw[<-e]at q
   rcases w with w|w
   ·exact hT0.own r w q
   ·exact w.2 q
 refine Jb (fitsOK f W _ _ rt (up 1 n) (up 0 n) tb [] a b r g0.wf hA hr) ?_
 rintro _ S2 ⟨c2,h2,rfl⟩
 obtain⟨t2,k2⟩:=h2.cell
 obtain⟨t3,m3⟩:=h2.map
 have hlm:lenMV S2 (.map (up 0 n))=some (.int .i64 (r.2.length:Nat), .no):=by simp[lenMV,m3]
 simp only[XZ,simprocAttr,k2,hlm]
 refine fin _ _ (fun r e=> ?_) fun _=>rfl
 rw[c2.same r (by rw[g0.same r e];exact e) (Js hw hn0 e 0),g0.same r e]
theorem digitC (x:Nat)(hx:x<256)(st:St):Does (tabT tabD) Jgl [.int .u8 x] st fun v st'=>v= .bool (digB x)/\st=st':=by
 refine Jv Jew rfl ?_
 by_cases h1:(48:Int)<=(x:Int)
 ·by_cases h2:(x:Int)<=57
  ·simp only[Qi,XZ,simprocAttr,h1,h2]
   rw[digB,decide_eq_true (by omega),decide_eq_true (by omega)];rfl
  ·simp only[Qi,XZ,simprocAttr,h1,h2]
   rw[digB,decide_eq_true (by omega),decide_eq_false (by omega)];rfl
 ·simp only[Qi,XZ,simprocAttr,h1]
  rw[digB,decide_eq_false (by omega)];rfl
theorem letterC (x:Nat)(hx:x<256)(st:St):Does (tabT tabD) JeA [.int .u8 x] st fun v st'=>v= .bool (letB x)/\st=st':=by
 refine Jv Jem rfl ?_
 by_cases h0:x=95
 ·have h0':((x:Int)=95)=True:=eq_true (by omega)
  simp only[Ks,XZ,simprocAttr,h0']
  rw[letB,decide_eq_true h0];rfl
 ·have h0':¬(x:Int)=95:=by omega
  have ho:=JpL x hx
  by_cases h1:(97:Int)<=((x|||32:Nat):Int)
  ·by_cases h2:((x|||32:Nat):Int)<=122
   ·simp only[Ks,XZ,simprocAttr,h0',ho,h1,h2]
    rw[letB,decide_eq_false h0,decide_eq_true (by omega),decide_eq_true (by omega)];rfl
   ·simp only[Ks,XZ,simprocAttr,h0',ho,h1,h2]
    rw[letB,decide_eq_false h0,decide_eq_true (by omega),decide_eq_false (by omega)];rfl
  ·simp only[Ks,XZ,simprocAttr,h0',ho,h1]
   rw[letB,decide_eq_false h0,decide_eq_false (by omega)];rfl
theorem JpO (x:Nat)(hx:x<256)(st:St):Does (tabT tabD) jy [.int .u8 x] st fun v st'=>v= .bool (okB x)/\st=st':=by
 refine Jv Jez rfl ?_
 simp only[Q3,XZ,simprocAttr]
 refine Jb (letterC x hx _) ?_
 rintro _ _ ⟨rfl,rfl⟩
 cases h:letB x with
 | true=>
   simp only[XZ,simprocAttr]
   rw[okB,h];rfl
 | false=>
   simp only[XZ,simprocAttr]
   refine Jb (digitC x hx _) ?_
   rintro _ _ ⟨rfl,rfl⟩
   simp only[XZ,simprocAttr]
   rw[okB,h];rfl
set_option maxHeartbeats 1000000 in
theorem frontC (l:List UInt8)(st:St)(hw:WF st)(hl:l.length<=100000):
  Does (tabT tabD) Jgn [ofL l, .fn jy [] []] st fun v st'=>Gr st st'/\v= .int .i64 (fore l):=by
 refine Jv Jey rfl ?_
 simp only[Q2,XM,simprocAttr,Jpg,Jlj]
 refine Jq (fun k fr st'=>∃(p t:Nat),k+p=l.length/\(∀j (hj:j<l.length),j<p->okB l[j].toNat=true)/\fr 0=ofL l/\fr 1= .fn jy [] []/\fr 7= .ptr st.nx 0/\st'.row st.nx= .sit t l.length (snum l) p/\Gr st st') l.length (by omega) ?_ ?_
 ·refine⟨0,st.t,by omega,fun j _ h=>absurd h (by omega), ?_, ?_, ?_, ?_,Gr.new hw fun u=>⟨rfl,fun e=>by cases e⟩⟩
  all_goals simp only[XM,simprocAttr,JD]
  all_goals rfl
 ·rintro k fr st1 ⟨p,t,hk,hok,h0,h1,h7,hr,hg⟩
  by_cases hp:p<l.length
  ·have hrs:=Jit hp
   have gw:∀p':Nat,Gr st (st1.wr st.nx t fun u=>Row.sit u l.length (snum l) p'):=fun p'=>
    hg.wr (KQ hw) (by rw[hr];exact fun e=>by cases e) (by rw[hr];rfl) fun u=>⟨rfl,fun e=>by cases e⟩
   have hb:=Y0 hp
   have hin:(0:Int)<=(p:Int)/\(p:Int)<(l.length:Int):=by omega
   simp only[XM,simprocAttr,h0,h1,h7,Jjk,Jiu hr hp,hin,hb]
   refine Jb (JpO _ (UInt8.toNat_lt _) _) ?_
   rintro _ _ ⟨rfl,rfl⟩
   cases ho:okB l[p].toNat with
   | true=>
     have hwd:=Jiz hp (Jkq (UInt8.toNat_lt _) ho)
     simp only[XM,simprocAttr,h0,h1,h7]
     refine⟨k-1,by omega,p+1,st1.t,by omega, ?_, ?_,gw _⟩
     ·intro j hj hjp
      by_cases e:j=p
      ·subst e;exact ho
      ·exact hok j hj (by omega)
     ·rw[hwd]
   | false=>
     simp only[XM,simprocAttr,h0,h1,h7]
     refine⟨gw _, ?_⟩
     rw[JhB l p (by omega) hok hp ho]
  ·have hpe:p=l.length:=by omega
   simp only[XM,simprocAttr,h0,h1,h7,Jjk,Jiv hr hp]
   refine⟨hg, ?_⟩
   rw[(JbQ l).2 (by rw[okAll,List.all_eq_true];intro c hc;obtain⟨j,hj,rfl⟩:=List.getElem_of_mem hc;exact hok j hj (by omega))]
theorem rowC (l:List UInt8)(st:St)(hw:WF st)(hl:l.length<=100000):Does (tabT tabD) JiU [ofL l] st fun v st'=>Gr st st'/\v= .int .i64 (fore l):=by
 refine Jv Jic rfl ?_
 simp only[YF,XZ,simprocAttr]
 refine Jb (frontC l _ hw hl) ?_
 rintro _ st1 ⟨hg,rfl⟩
 simp only[XZ,simprocAttr]
 exact hg
theorem identC (l:List UInt8)(st:St)(hw:WF st):Does (tabT tabD) Jgi [ofL l] st fun v st'=>Gr st st'/\v= .bool (identB l):=by
 refine Jv Jet rfl ?_
 cases l with
 | nil=>
   simp only[Qh,XZ,simprocAttr]
   exact⟨Gr.refl hw,rfl⟩
 | cons c r=>
   obtain⟨l,hle⟩:∃l,l=c::r:=⟨_,rfl⟩
   rw[<-hle]
   have hne:¬l=[]:=by rw[hle];simp
   have hb:byteAt l 0=c.toNat:=by rw[hle];exact Y0 (l:=c::r) (i:=0) (by simp)
   have h0:(0:Int)<=0/\(0:Int)<(l.length:Int):=by rw[hle];simp only[List.length_cons];omega
   have hid:identB l=(decide (l.length<=16)&&(!digB c.toNat&&okAll l)):=by rw[hle];rfl
   by_cases h16:(l.length:Int)<=16
   ·simp only[Qh,XZ,simprocAttr,hne,h16,h0,hb]
    refine Jb (digitC c.toNat (UInt8.toNat_lt _) _) ?_
    rintro _ _ ⟨rfl,rfl⟩
    cases hd:digB c.toNat with
    | true=>
      simp only[XZ,simprocAttr]
      refine⟨Gr.refl hw, ?_⟩
      rw[hid,hd];simp
    | false=>
      simp only[XZ,simprocAttr]
      refine Jb (rowC l _ hw (by omega)) ?_
      rintro _ st1 ⟨hg,rfl⟩
      simp only[XZ,simprocAttr]
      refine⟨hg, ?_⟩
      rw[hid,hd,decide_eq_true (show l.length<=16 by omega)]
      by_cases ha:fore l=l.length
      ·rw[(JbQ l).1 ha];simp[ha]
      ·have:okAll l=false:=by
        cases ho:okAll l with
        |false=>rfl
        |true=>exact absurd ((JbQ l).2 ho) ha
       have ha':¬(fore l:Int)=(l.length:Int):=by omega
       rw[this];simp[ha']
   ·simp only[Qh,XZ,simprocAttr,hne,h16]
    refine⟨Gr.refl hw, ?_⟩
    rw[hid,decide_eq_false (show¬l.length<=16 by omega)];rfl
theorem kU (l:List UInt8)(st:St)(hw:WF st):
  Does (tabT tabD) JcV [ofL l] st fun v st'=>Gr st st'/\v= .bool (identB l&&Lib.contains YD (32::(l++[32]))):=by
 refine Jv Jb9 rfl ?_
 simp only[Qn,XZ,simprocAttr]
 refine Jb (identC l _ hw) ?_
 rintro _ st1 ⟨hg,rfl⟩
 cases hi:identB l with
 | false=>
   simp only[XZ,simprocAttr]
   exact hg
 | true=>
   have hl:=JdY hi
   simp only[XZ,simprocAttr,List.length_append]
   refine⟨by omega,by omega, ?_⟩
   refine Jb (Je0 (Q:=fun v st'=>v= .bool (Lib.contains YD (32::(l++[32])))/\st1=st') YK (Jcz YD (32::(l++[32])) (by decide)) ⟨rfl,rfl⟩) ?_
   rintro _ _ ⟨rfl,rfl⟩
   simp only[XZ,simprocAttr]
   exact hg
theorem kidsC {P:Pt->Prop}{st:St}{e:List V}{t:Ty}(hw:WF st)(h:TyC P st e t):Does (tabT tabD) Jgj [.agg e] st fun v st'=>Gr st st'/\v= .int .i64 (kidsS t:Nat):=by
 refine Jw tabM Jeu rfl hw fun K fin=> ?_
 obtain⟨n,hn0⟩:∃n,st.nx=up 0 n:=⟨_,up0 _⟩
 have hold:=fun r (h:st.row r≠ .none)=>QP hw hn0 h
 obtain⟨k,nm,ns,ks⟩:=t
 obtain⟨nv,kv,es,rfl,x1,x2,x3,x4⟩:=h.inv'
 have l1:=x1.len
 rw[JL]at l1
 have hk:kidsS (.mk k nm ns ks)=if k=4\/k=5\/k=6 then 1 else if k=7\/k=8 then ns.length else 0:=rfl
 have fin':=fun v=>fin v (st.new fun t=> .cells t [.int .i64 k,ofL nm,nv,kv]) (fun r e=>by simp only[JQ,hn0,hold r e,if_false])
 by_cases c4:k=4
 ·simp only[J9,XZ,simprocAttr,hn0,x1.cells,x2.cells,x1.sc,x2.sc,l1,c4]
  subst c4;exact fin' _ fun _=>rfl
 by_cases c5:k=5
 ·simp only[J9,XZ,simprocAttr,hn0,x1.cells,x2.cells,x1.sc,x2.sc,l1,c4,c5]
  subst c5;exact fin' _ fun _=>rfl
 by_cases c6:k=6
 ·simp only[J9,XZ,simprocAttr,hn0,x1.cells,x2.cells,x1.sc,x2.sc,l1,c4,c5,c6]
  subst c6;exact fin' _ fun _=>rfl
 by_cases c7:k=7
 ·simp only[J9,XZ,simprocAttr,hn0,x1.cells,x2.cells,x1.sc,x2.sc,l1,c4,c5,c6,c7]
  subst c7;exact fin' _ fun _=>rfl
 by_cases c8:k=8
 ·simp only[J9,XZ,simprocAttr,hn0,x1.cells,x2.cells,x1.sc,x2.sc,l1,c4,c5,c6,c7,c8]
  subst c8;exact fin' _ fun _=>rfl
 simp only[J9,XZ,simprocAttr,hn0,x1.cells,x2.cells,x1.sc,x2.sc,l1,c4,c5,c6,c7,c8]
 refine fin' _ fun _=> ?_
 rw[hk,if_neg (by omega),if_neg (by omega)];rfl
theorem JcI {p:Option Str}{n:Str}{r:List Str}(h1:identB n=true)(h2:notLess p n=false):namesS p (n::r)=namesS (some n) r:=by
 rw[namesS,if_neg (by rw[h1];simp),if_neg (by rw[h2];simp)]
set_option maxHeartbeats 1000000 in
theorem fieldsC {P:Pt->Prop}{st:St}{e:List V}{t:Ty}(hw:WF st)(h:TyC P st e t):Does (tabT tabD) Jek [.agg e] st fun v st'=>Gr st st'/\v= .int .i64 (fieldsS t):=by
 refine Jw tabM JcY rfl hw fun K fin=> ?_
 obtain⟨n,hn0⟩:∃n,st.nx=up 0 n:=⟨_,up0 _⟩
 have hold:=fun r (h:st.row r≠ .none)=>QP hw hn0 h
 obtain⟨k,nm,ns,ks⟩:=t
 obtain⟨nv,kv,es,rfl,x1,x2,x3,x4⟩:=h.inv'
 have l1:=x1.len
 rw[JL]at l1
 have g0:Gr st (st.new fun t=> .cells t [.int .i64 k,ofL nm,nv,kv]):=Gr.new hw (Ja _)
 have hk:fieldsS (.mk k nm ns ks)=if 8<ns.length then 3 else if namesS none ns≠0 then namesS none ns else if k=8/\ns=[]then 12 else 0:=rfl
 have fin':=fun v=>fin v (st.new fun t=> .cells t [.int .i64 k,ofL nm,nv,kv]) (fun r e=>by simp only[JQ,hn0,hold r e,if_false])
 by_cases c1:8<ns.length
 ·have c1':(8:Int)<ns.length:=by omega
  simp only[KU,XZ,simprocAttr,hn0,x1.cells,x2.cells,x1.sc,x2.sc,l1,c1']
  exact fin' _ fun _=>by rw[hk,if_pos c1]
 have c1':¬(8:Int)<ns.length:=by omega
 simp only[KU,XZ,simprocAttr,hn0,x1.cells,x2.cells,x1.sc,x2.sc,l1,c1']
 obtain⟨I,hI⟩:∃I:Nat->Fr->St->Prop,∀j fr S,I j fr S<->∃i p,j+i=ns.length/\fr 1= .ptr (up 0 n) 0/\fr 10=nv/\fr 11= .int .i64 ns.length/\fr 12= .int .i64 i/\Gr (st.new fun t=> .cells t [.int .i64 k,ofL nm,nv,kv]) S/\namesS none ns=namesS p (ns.drop i)/\(p=if i=0 then none else ns[i-1]?):=⟨_,fun _ _ _=>Iff.rfl⟩
 refine Jq I ns.length (by omega) ?_ ?_
 ·refine(hI _ _ _).2 ⟨0,none,by omega, ?_, ?_, ?_, ?_,Gr.refl g0.wf,rfl,rfl⟩
  all_goals simp only[XZ,simprocAttr]
  all_goals rfl
 ·rintro j fr S hIj
  obtain⟨i,p,hj,f1,f10,f11,f12,hg,hrec,hp⟩:=(hI _ _ _).1 hIj
  have b0:S.row (up 0 n)= .cells st.t [.int .i64 k,ofL nm,nv,kv]:=hg.cells (by simp only[XZ,simprocAttr,hn0])
  have x1S:=x1.gr (g0.trans hg)
  by_cases hi:i<ns.length
  ·have hi':(i:Int)<ns.length:=by omega
   obtain⟨q,qo,a1,a2,a3,a4⟩:=x1S.one (xs:=ns.map ofL) (i:=i) (by simpa using hi)
   simp only[List.getElem_map]at a4
   simp only[XZ,simprocAttr,f1,f10,f11,f12,hi',a1,a4]
   have G:=g0.trans hg
   have hd:=List.drop_eq_getElem_cons hi
   refine Jb (identC _ _ hg.wf) ?_
   rintro _ S2 ⟨g2,rfl⟩
   have G2:=G.trans g2
   have b2:=g2.cells b0
   cases hid:identB ns[i]with
   | false=>
     simp only[XZ,simprocAttr]
     refine fin _ _ (fun r e=>G2.same r e) fun _=> ?_
     rw[hk,if_neg c1,hrec,hd,namesS,if_pos hid];rfl
   | true=>
     have hadd1:IntKind.i64.wrap ((i:Int)+1)=((i+1:Nat):Int):=by rw[Jp (by omega) (by omega)];rfl
     have next:∀{fr':Fr},notLess p ns[i]=false->fr' 1= .ptr (up 0 n) 0->fr' 10=nv->fr' 11= .int .i64 ns.length->fr' 12= .int .i64 ((i+1:Nat):Int)->∃j',j'<j/\I j' fr' S2:=fun{fr'} hl e1 e10 e11 e12=>
      ⟨ns.length-(i+1),by omega,(hI _ _ _).2 ⟨i+1,some ns[i],by omega,e1,e10,e11,e12,hg.trans g2,by rw[hrec,hd,JcI hid hl],by rw[if_neg (by omega)];simp[hi]⟩⟩
     by_cases h0:i=0
     ·have h0':¬(0:Int)<(i:Int):=by omega
      simp only[XZ,simprocAttr,f1,f10,f11,f12,h0',hadd1]
      refine next (by rw[hp,if_pos h0];rfl) ?_ ?_ ?_ ?_<;>simp only[XZ,simprocAttr,f1,f10,f11,f12]
     ·have h0':(0:Int)<(i:Int):=by omega
      have hsub:IntKind.i64.wrap ((i:Int)-1)=((i-1:Nat):Int):=by rw[Jp (by omega) (by omega)];omega
      obtain⟨q',qo',d1,d2,d3,d4⟩:=(x1.gr G2).one (xs:=ns.map ofL) (i:=i-1) (by simp;omega)
      simp only[List.getElem_map]at d4
      have hp':p=some ns[i-1]:=by rw[hp,if_neg h0,List.getElem?_eq_getElem (by omega)]
      cases hl:Op.bytesLess ns[i-1] ns[i]with
      | false=>
        simp only[XZ,simprocAttr,f1,f10,f11,f12,h0',b2,hsub,d1,d4,QV,hl]
        refine fin _ _ (fun r e=>G2.same r e) fun _=> ?_
        have hv:namesS none ns=6:=by rw[hrec,hd,namesS,if_neg (by rw[hid];simp),if_pos (by rw[hp',notLess,hl];rfl)]
        rw[hk,if_neg c1,hv];rfl
      | true=>
        simp only[XZ,simprocAttr,f1,f10,f11,f12,h0',b2,hsub,d1,d4,QV,hl,hadd1]
        refine next (by rw[hp',notLess,hl];rfl) ?_ ?_ ?_ ?_<;>simp only[XZ,simprocAttr,f1,f10,f11,f12]
  ·have hi':¬(i:Int)<ns.length:=by omega
   have hie:i=ns.length:=by omega
   have hn:namesS none ns=0:=by rw[hrec,hie,List.drop_length,namesS]
   have G:=g0.trans hg
   by_cases c8:k=8
   ·by_cases cn:ns.length=0
    ·have cn':((ns.length:Int)=0)=True:=eq_true (by omega)
     have c8':(k=8)=True:=eq_true c8
     simp only[XZ,simprocAttr,f1,f10,f11,f12,hi',b0,l1,c8',cn']
     refine fin _ _ (fun r e=>G.same r e) fun _=> ?_
     rw[hk,if_neg c1,hn,if_neg (by simp),if_pos ⟨c8,List.length_eq_zero_iff.1 cn⟩]
    ·have cn':((ns.length:Int)=0)=False:=eq_false (by omega)
     have c8':(k=8)=True:=eq_true c8
     simp only[XZ,simprocAttr,f1,f10,f11,f12,hi',b0,l1,c8',cn']
     refine fin _ _ (fun r e=>G.same r e) fun _=> ?_
     rw[hk,if_neg c1,hn,if_neg (by simp),if_neg fun h=>cn (by rw[h.2];rfl)]
   ·simp only[XZ,simprocAttr,f1,f10,f11,f12,hi',b0,l1,c8]
    refine fin _ _ (fun r e=>G.same r e) fun _=> ?_
    rw[hk,if_neg c1,hn,if_neg (by simp),if_neg fun h=>c8 h.1]
end Go.Proofs.Ytcahllomeaimeaa
