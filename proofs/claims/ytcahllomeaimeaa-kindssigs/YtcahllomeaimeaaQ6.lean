/- The document's table asked: opened, a node, a node's kid of a name. The document's way to tell which types fit. Which types fit, as the document tells it. 'KindsSigs': what it answers. No condition. -/
import Derived.Test.YtcahllomeaimeaaQ5
set_option linter.unusedVariables false
set_option linter.unusedSimpArgs false
set_option maxRecDepth 100000
namespace Go.Proofs.Ytcahllomeaimeaa
open Eva Go.RowKit
theorem ropen6 {S:St}{ru:Pt}{lv:V}{nodes:List Nd}(h:Tb6 S ru lv nodes){i:Nat}(hi:i<nodes.length):
  Does (tabT tabD) jx [.ptr ru 0, .int .i64 i] S fun v S'=>v= .tup [.int .i64 i, .bool true]/\S=S':=by
 refine Jv kY rfl ?_
 obtain⟨t,a,b,c,d,e,f,g,k,l,m,rc⟩:=h.cell
 obtain⟨r,q,E,a1,a2,a3,a4⟩:=h.node hi
 have ll:=h.l.len
 have i0:¬(i:Int)<0:=by omega
 have i1:¬(nodes.length:Int)<=(i:Int):=by omega
 have k9:=(h.w _ (List.getElem_mem hi)).1
 simp only[J8,XY,simprocAttr]
 rw[Jc];simp only[XY,simprocAttr]
 rw[Jf,Jc];simp only[XY,simprocAttr,i0,rc,ll,i1]
 rw[Jf];simp only[XY,simprocAttr]
 refine Qz (by omega) ?_
 simp only[XZ,simprocAttr,rc,a1,a4,k9]
theorem rat6 {Sl S:St}{ru:Pt}{lv:V}{nodes:List Nd}(hw:WF S)(h0:Tb6 Sl ru lv nodes)(g0:∀r,Sl.row r≠ .none->S.row r=Sl.row r){i:Nat}(hi:i<nodes.length):
  Does (tabT tabD) qj [.ptr ru 0, .int .i64 i] S fun v S'=>Gr S S'/\∃e,v= .agg e/\NdC (fun r=>Sl.row r≠ .none) S' e nodes[i]:=by
 have h:=h0.keep g0
 refine Jw tabM jH rfl hw fun K fin=> ?_
 obtain⟨n0,hn0⟩:∃n,S.nx=up 0 n:=⟨_,up0 _⟩
 obtain⟨t,a,b,c,d,e,f,g,k,l,m,rc⟩:=h.cell
 obtain⟨r,q,E,a1,a2,a3,a4⟩:=h0.node hi
 have a2:ldn (S.row r) q 4=some (.agg E, .no):=by
  have:Sl.row r≠ .none:=fun e=>by rw[e]at a2;cases a2
  rw[g0 r this];exact a2
 obtain⟨p,hp⟩:∃b,b=up 0 n0:=⟨_,rfl⟩
 have hrc:=nes (Js hw hn0 (Je rc) 0)
 simp only[Kk,XY,simprocAttr]
 rw[Jc];simp only[XY,simprocAttr,hn0]
 rw[<-hp]
 obtain⟨S1,hS1⟩:∃S',S'=(S.new fun t=> .cells t [.int .i64 0,ofL [], .snil, .snil]):=⟨_,rfl⟩
 have G1:Gr S S1:=by rw[hS1];exact Gr.new hw (Ja _)
 obtain⟨t1,r1⟩:∃t,S1.row p= .cells t [.int .i64 0,ofL [], .snil, .snil]:=⟨_,by rw[hS1,hp];simp only[XZ,simprocAttr,hn0];rfl⟩
 have pn:S.row p= .none:=by rw[hp];exact nx0 hw hn0 0
 rw[<-hS1]
 clear hS1
 rw[Jc];simp only[XY,simprocAttr]
 refine Jb (ropen6 (h.gr G1) hi) ?_
 rintro _ _ ⟨rfl,rfl⟩
 have rc1:=G1.cells rc
 obtain⟨nv,kv,rfl,y1,y2⟩:=a3
 have s1:=y1.sc
 have s2:=y2.sc
 have s3:=y1.cells
 have s4:=y2.cells
 have a2':ldn (S1.row r) q 4=some (.agg [.int .i64 nodes[i].kind,ofL nodes[i].name,nv,kv], .no):=by
  have:S.row r≠ .none:=fun e=>by rw[e]at a2;cases a2
  rw[G1.same r this];exact a2
 simp only[XY,simprocAttr]
 rw[Jc];simp only[XY,simprocAttr,rc1,a1,a2',r1,s1,s2,s3,s4]
 refine fin _ _ (fun q e=> ?_) fun g=>⟨_,rfl,nv,kv,rfl,y1.imp fun q e _=>⟨e,by rw[g.same q (by rw[g0 q e];exact e),g0 q e]⟩,y2.imp fun q e _=>⟨e,by rw[g.same q (by rw[g0 q e];exact e),g0 q e]⟩⟩
 have hq:q≠p:=fun x=>e (x▸pn)
 simp only[Jx,hq,if_false]
 exact G1.same q e
theorem rkid6 {P:Pt->Prop}{S:St}{e:List V}{nd:Nd}{nm:Str}(hw:WF S)(h:NdC P S e nd)(hl:nd.kids.length=nd.names.length)(h8:nd.names.length<=8):
  Does (tabT tabD) qm [.agg e,ofL nm] S fun v S'=>Gr S S'/\v=(match idxN nm nd.names 0 with
   |some j=> .tup [.int .i64 (nd.kids.getD j 0:Nat), .bool true]
   |none=> .tup [.int .i64 0, .bool false]):=by
 refine Jw tabM jI rfl hw fun K fin=> ?_
 obtain⟨n0,hn0⟩:∃n,S.nx=up 0 n:=⟨_,up0 _⟩
 obtain⟨nv,kv,rfl,y1,y2⟩:=h
 have s1:=y1.sc
 have s2:=y2.sc
 have s3:=y1.cells
 have s4:=y2.cells
 have ln:=y1.len
 rw[JL]at ln
 obtain⟨p,hp⟩:∃b,b=up 0 n0:=⟨_,rfl⟩
 simp only[Kl,XY,simprocAttr]
 rw[Jc];simp only[XY,simprocAttr,hn0,s1,s2,s3,s4]
 rw[<-hp]
 obtain⟨S1,hS1⟩:∃S',S'=(S.new fun t=> .cells t [.int .i64 nd.kind,ofL nd.name,nv,kv]):=⟨_,rfl⟩
 have G1:Gr S S1:=by rw[hS1];exact Gr.new hw (Ja _)
 obtain⟨t1,r1⟩:∃t,S1.row p= .cells t [.int .i64 nd.kind,ofL nd.name,nv,kv]:=⟨_,by rw[hS1,hp];simp only[XZ,simprocAttr,hn0];rfl⟩
 rw[<-hS1]
 clear hS1
 have y1:=y1.gr G1
 have y2:=y2.gr G1
 obtain⟨L,hL⟩:∃L:Nat->Fr->St->Prop,∀j fr S,L j fr S<->∃(i:Nat),S=S1/\j+i=nd.names.length/\fr 1=ofL nm/\fr 2= .ptr p 0/\fr 6= .int .i64 i/\idxN nm nd.names 0=idxN nm (nd.names.drop i) i:=⟨_,fun _ _ _=>Iff.rfl⟩
 rw[Jf,Jc];simp only[XY,simprocAttr]
 refine Jq L nd.names.length (by omega) ((hL _ _ _).2 ⟨0,rfl,by omega,by simp only[XZ,simprocAttr],by simp only[XZ,simprocAttr],by simp only[XZ,simprocAttr]<;>rfl,rfl⟩) ?_
 intro j fr S' hLj
 obtain⟨i,rfl,hj,f1,f2,f6,hrec⟩:=(hL _ _ _).1 hLj
 by_cases hi:i<nd.names.length
 ·have hi':(i:Int)<nd.names.length:=by omega
  have hadd1:IntKind.i64.wrap ((i:Int)+1)=((i+1:Nat):Int):=by rw[Jp (by omega) (by omega)];rfl
  obtain⟨q,qo,a1,a2,a3,a4⟩:=y1.one (xs:=nd.names.map ofL) (i:=i) (by simpa using hi)
  simp only[List.getElem_map]at a4
  obtain⟨q',qo',b1,b2,b3,b4⟩:=y2.one (xs:=nd.kids.map fun n:Nat=>V.int .i64 (n:Int)) (i:=i) (by simp;omega)
  simp only[List.getElem_map]at b4
  rw[List.drop_eq_getElem_cons hi,idxN]at hrec
  by_cases e:nm=nd.names[i]
  ·rw[if_pos e]at hrec
   have e':(nd.names[i]=nm)=True:=eq_true e.symm
   simp only[XZ,simprocAttr,f1,f2,f6,r1,ln,hi',a1,a4,b1,b4,e']
   refine fin _ _ (fun q e=>G1.same q e) fun _=> ?_
   rw[hrec]
   simp[List.getD_eq_getElem?_getD,show i<nd.kids.length by omega]
  ·rw[if_neg e]at hrec
   have e':(nd.names[i]=nm)=False:=eq_false fun x=>e x.symm
   simp only[XZ,simprocAttr,f1,f2,f6,r1,ln,hi',a1,a4,e',hadd1]
   exact⟨nd.names.length-(i+1),by omega,(hL _ _ _).2 ⟨i+1,rfl,by omega,by simp only[XZ,simprocAttr,f1],by simp only[XZ,simprocAttr,f2],by simp only[XZ,simprocAttr],hrec⟩⟩
 ·have hi':¬(i:Int)<nd.names.length:=by omega
  rw[List.drop_eq_nil_of_le (by omega),idxN]at hrec
  simp only[XZ,simprocAttr,f2,f6,r1,ln,hi']
  refine fin _ _ (fun q e=>G1.same q e) fun _=> ?_
  rw[hrec]
set_option maxHeartbeats 8000000 in
theorem rleC {Sl:St}{ru kr:Pt}{lv:V}{tb:Tb}(hT:Tb6 Sl ru lv tb.nodes)(hA:Acy tb):∀(f:Nat) {S:St} {was:Was} {lw:V} {a b:Nat} {r:Bool×Was},Wk6 Sl S ru kr was lw->a<tb.nodes.length->b<tb.nodes.length->fitsS tb f was a b=some r->WasG tb.nodes.length was->
  Does (tabT tabD) qI [.ptr kr 0, .int .i64 a, .int .i64 b] S fun v S'=>Ch (fun q=>q=kr\/rowOf lw=some q) S S'/\∃lw',Wk6 Sl S' ru kr r.2 lw'/\(∀q,rowOf lw'=some q->rowOf lw=some q\/S.row q= .none)/\v= .bool r.1:=by
 intro f
 induction f with
 |zero=>intro S was lw a b r _ _ _ h;rw[fitsS]at h;cases h
 |succ f ih=>
 intro S was lw a b r hW ha hb hr hG
 rw[fitsS]at hr
 refine Yn tabM j9 rfl hW.g.wf fun K fin=> ?_
 have hw:=hW.g.wf
 obtain⟨tk,ck⟩:=hW.cell
 simp only[Ku,XY,simprocAttr]
 rw[Jc];simp only[XY,simprocAttr]
 by_cases hab:a=b
 ·rw[if_pos (.inl hab)]at hr
  injection hr with hr;subst hr
  have hab':((a:Int)=(b:Int))=True:=eq_true (by rw[hab])
  rw[Jf,Jc];simp only[XZ,simprocAttr,hab']
  exact fin _ _ (fun _ _ _=>rfl) fun _=>⟨lw,hW,fun q e=> .inl e,rfl⟩
 have hab':((a:Int)=(b:Int))=False:=eq_false (by omega)
 rw[Jf,Jc];simp only[XY,simprocAttr,hab']
 have ll:=hW.l.at.len
 have lwl:(prs was).length=was.length:=by unfold prs;simp
 rw[lwl]at ll
 obtain⟨F,hF⟩:∃F:Fr->St->Prop,∀fr S',F fr S'<->fr 0= .ptr kr 0/\fr 1= .int .i64 a/\fr 2= .int .i64 b/\S'=S/\(a,b)∉was:=⟨_,fun _ _=>Iff.rfl⟩
 refine JJ F ?_ ?_
 ·rw[Jc];simp only[XY,simprocAttr]
  obtain⟨L,hL⟩:∃L:Nat->Fr->St->Prop,∀j fr S',L j fr S'<->∃(i:Nat),j+i=was.length/\fr 0= .ptr kr 0/\fr 1= .int .i64 a/\fr 2= .int .i64 b/\fr 7= .int .i64 i/\S'=S/\∀q (h:q<was.length),q<i->was[q]≠(a,b):=⟨_,fun _ _ _=>Iff.rfl⟩
  have hwl:was.length<=14400:=Nat.le_trans hG.len (Nat.mul_le_mul hT.few hT.few)
  refine Jq L was.length (by omega) ((hL _ _ _).2 ⟨0,by omega,by simp only[XZ,simprocAttr],by simp only[XZ,simprocAttr],by simp only[XZ,simprocAttr],by simp only[XZ,simprocAttr]<;>rfl,rfl,fun q _ h=>absurd h (Nat.not_lt_zero _)⟩) ?_
  intro j fr S' hLj
  obtain⟨i,hj,f0,f1,f2,f7,rfl,hne⟩:=(hL _ _ _).1 hLj
  by_cases hi:i<was.length
  ·have hi':(i:Int)<was.length:=by omega
   have hadd1:IntKind.i64.wrap ((i:Int)+1)=((i+1:Nat):Int):=by rw[Jp (by omega) (by omega)];rfl
   obtain⟨q,qo,a1,a2,a3,a4,a5⟩:=hW.l.at.elem (i:=i) (by rw[lwl];exact hi)
   have hpe:(prs was)[i]'(by rw[lwl];exact hi)=[.int .i64 (was[i].1:Nat), .int .i64 (was[i].2:Nat)]:=by unfold prs;simp
   rw[hpe]at a4
   have hp:=Jml was[i].1 was[i].2 a b
   by_cases e:was[i]=(a,b)
   ·rw[show(decide ((was[i].1,was[i].2)=(a,b)))=true from decide_eq_true e]at hp
    simp only[XZ,simprocAttr,f0,f1,f2,f7,ck,ll,hi',a1,a4,hp]
    rw[if_pos (.inr (e▸List.getElem_mem hi))]at hr
    injection hr with hr;subst hr
    exact fin _ _ (fun _ _ _=>rfl) fun _=>⟨lw,hW,fun q e=> .inl e,rfl⟩
   ·rw[show(decide ((was[i].1,was[i].2)=(a,b)))=false from decide_eq_false e]at hp
    simp only[XZ,simprocAttr,f0,f1,f2,f7,ck,ll,hi',a1,a4,hp,hadd1]
    exact⟨was.length-(i+1),by omega,(hL _ _ _).2 ⟨i+1,by omega,by simp only[XZ,simprocAttr,f0],by simp only[XZ,simprocAttr,f1],by simp only[XZ,simprocAttr,f2],by simp only[XZ,simprocAttr],rfl,fun q a h=>by
     by_cases x:q=i
     ·subst x;exact e
     ·exact hne q a (by omega)⟩⟩
  ·have hi':¬(i:Int)<was.length:=by omega
   simp only[XZ,simprocAttr,f0,f7,ck,ll,hi']
   refine(hF _ _).2 ⟨by simp only[XZ,simprocAttr,f0],by simp only[XZ,simprocAttr,f1],by simp only[XZ,simprocAttr,f2],rfl,fun h=> ?_⟩
   obtain⟨q,hq,e⟩:=List.getElem_of_mem h
   exact hne q hq (by omega) e
 intro fr S' hFf
 obtain⟨f0,f1,f2,rfl,hno⟩:=(hF _ _).1 hFf
 clear hFf hF F
 rw[if_neg (fun h=>h.elim hab hno)]at hr
 obtain⟨n0,hn0⟩:∃n,S'.nx=up 0 n:=⟨_,up0 _⟩
 have okr:=nes (Js hw hn0 (Je ck) 0)
 rw[Jc];simp only[XY,simprocAttr,f0,f1,f2,ck,hn0,okr]
 have hg:=hW.g.gr
 obtain⟨A5,hA5⟩:∃S5,S5=(S'.new fun t=> .cells t [.int .i64 (a:Nat), .int .i64 (b:Nat)]):=⟨_,rfl⟩
 have ga5:Gr S' A5:=by rw[hA5];exact Gr.new hw (Ja _)
 have hone:SlAt (fun r=>r=up 0 n0) A5 (.slx (up 0 n0) 0 1 2 1) 2 [[.int .i64 (a:Nat), .int .i64 (b:Nat)]]:=by
  have:=YI (st:=S') (z:=2) (e:=[.int .i64 (a:Nat), .int .i64 (b:Nat)]) rfl
  rwa [hn0,<-hA5]at this
 rw[<-hA5]
 clear hA5 hn0 okr
 have hwl:was.length<=14400:=Nat.le_trans hG.len (Nat.mul_le_mul hT.few hT.few)
 refine YO (S0:={Sl with low:=S'.low}) (hg.trans ga5) (hW.l.gr ga5) hone (fun e he=>by rw[List.mem_singleton.1 he];rfl) (by simp) (by simp) (by rw[lwl];simp;omega) ?_
 intro A6 lw5 g6 h5 rv5 kp5
 have c6:A6.row kr= .cells tk [.ptr ru 0,lw]:=(kp5 kr (ga5.cells ck▸fun e=>(by cases e)) hW.ap).trans (ga5.cells ck)
 have s5:=h5.at.sc
 have s6:=h5.at.cells
 simp only[XY,simprocAttr,f0,c6,s5,s6]
 obtain⟨A7,hA7⟩:∃S7,S7=(A6.wr kr tk fun u=> .cells u [.ptr ru 0,lw5]):=⟨_,rfl⟩
 have g7:Gr {Sl with low:=S'.low} A7:=by rw[hA7];exact g6.wr hW.k0 (Je c6) (by rw[c6];rfl) (Ja _)
 have c7:∃t,A7.row kr= .cells t [.ptr ru 0,lw5]:=⟨_,by rw[hA7];simp only[XZ,simprocAttr];rfl⟩
 have k7:∀r,r≠kr->A7.row r=A6.row r:=fun r e=>by rw[hA7];simp only[Jx,e,if_false]
 rw[<-hA7]
 clear hA7
 have d5:∀r,rowOf lw5=some r->S'.row r= .none:=fun r e=>by
  rw[rv5]at e
  injection e with e
  exact Ch.fresh (Ch.of (fun _=>False) ga5) (e▸KQ ga5.wf)
 have ap5:rowOf lw5≠some kr:=fun e=>Je ck (d5 _ e)
 have W7:Wk6 Sl A7 ru kr (was++[(a,b)]) lw5:=⟨Fz.back g7,c7,by
  have:prs (was++[(a,b)])=prs was++[[.int .i64 (a:Nat), .int .i64 (b:Nat)]]:=by unfold prs;simp
  rw[this]
  exact h5.keep fun r e=>k7 r fun x=>ap5 (x▸e),hW.k0,ap5⟩
 have kS7:∀r,S'.row r≠ .none->¬(r=kr\/rowOf lw=some r)->A7.row r=S'.row r:=fun r e n=>by
  rw[k7 r fun x=>n (.inl x),kp5 r (by rw[ga5.same r e];exact e) fun x=>n (.inr x),ga5.same r e]
 have G5:=hG.snoc ha hb hno
 clear g6 h5 rv5 kp5 c6 s5 s6 g7 hg hone ga5 k7 ck
 obtain⟨t7,c7⟩:=c7
 have w7:=W7.g.wf
 have hTl:∀{S:St} (k:Nat),Fz Sl S->∀r,Sl.row r≠ .none->({S with low:=k}:St).row r=Sl.row r:=fun k g r e=>g.same r e
 rw[Jc];simp only[XY,simprocAttr,f0,f1,f2,c7]
 refine Jn (rat6 (JB w7 _) hT (hTl _ W7.g) ha) ?_
 rintro _ A8 g8 ⟨ex,rfl,nx⟩
 have c8:=g8.cells c7
 have W8:=W7.gr g8
 simp only[XY,simprocAttr,f0,f1,f2,c8]
 refine Jn (rat6 (JB W8.g.wf _) hT (hTl _ W8.g) hb) ?_
 rintro _ A9 g9 ⟨ey,rfl,ny⟩
 obtain⟨nvx,kvx,rfl,x1,x2⟩:=nx
 obtain⟨nvy,kvy,rfl,y1,y2⟩:=ny
 have x1:=x1.unlow.gr g9
 have x2:=x2.unlow.gr g9
 have y1:=y1.unlow
 have y2:=y2.unlow
 have sx1:=x1.sc
 have sx2:=x1.cells
 have sx3:=x2.sc
 have sx4:=x2.cells
 have sy1:=y1.sc
 have sy2:=y1.cells
 have sy3:=y2.sc
 have sy4:=y2.cells
 have W9:=W8.gr g9
 have w9:=W9.g.wf
 obtain⟨n9,hn9⟩:∃n,A9.nx=up 0 n:=⟨_,up0 _⟩
 simp only[XY,simprocAttr,hn9,sx1,sx2,sx3,sx4,sy1,sy2,sy3,sy4]
 obtain⟨X,hX⟩:∃X,X=tb.nodes[a]:=⟨_,rfl⟩
 obtain⟨Y,hY⟩:∃Y,Y=tb.nodes[b]:=⟨_,rfl⟩
 have hXm:X∈tb.nodes:=hX▸List.getElem_mem ha
 have hYm:Y∈tb.nodes:=hY▸List.getElem_mem hb
 have hXw:=hT.w _ hXm
 have hYw:=hT.w _ hYm
 have hXk:=hT.k _ hXm
 have hYk:=hT.k _ hYm
 have hpl:=kR hA (List.getElem?_eq_getElem ha) (List.getElem?_eq_getElem hb)
 rw[<-hX,<-hY]at hpl
 rw[<-hX]at x1 x2
 rw[<-hY]at y1 y2
 rw[hpl]at hr
 clear hpl
 rw[<-hX,<-hY]
 obtain⟨p8,hp8⟩:∃b,b=up 0 n9:=⟨_,rfl⟩
 obtain⟨p9,hp9⟩:∃b,b=up 1 n9:=⟨_,rfl⟩
 rw[<-hp8,<-hp9]
 have gA:Gr A9 ((((A9.new fun t=>Row.cells t [V.int .i64 0,ofL [],V.snil,V.snil]).new fun t=>Row.cells t [V.int .i64 0,ofL [],V.snil,V.snil]).wr p8 A9.t fun u=>Row.cells u [V.int .i64 X.kind,ofL X.name,nvx,kvx]).wr p9 (A9.new fun t=>Row.cells t [V.int .i64 0,ofL [],V.snil,V.snil]).t fun u=>Row.cells u [V.int .i64 Y.kind,ofL Y.name,nvy,kvy]):=by
  have q0:=(Gr.new (st:=A9) (f:=fun t=>Row.cells t [V.int .i64 0,ofL [],V.snil,V.snil]) w9 (Ja _)).nn (f:=fun t=>Row.cells t [V.int .i64 0,ofL [],V.snil,V.snil]) (Ja _)
  have e8:A9.row p8= .none:=by rw[hp8];exact nx0 w9 hn9 0
  have e9:A9.row p9= .none:=by rw[hp9];exact nx0 w9 hn9 1
  have q1:=q0.wr (p:=p8) (t:=A9.t) (f:=fun u=>Row.cells u [V.int .i64 X.kind,ofL X.name,nvx,kvx]) e8 (by rw[hp8];simp only[XZ,simprocAttr,hn9]) (by rw[hp8];simp only[XZ,simprocAttr,hn9];rfl) (Ja _)
  exact q1.wr e9 (by rw[hp8,hp9];simp only[XZ,simprocAttr,hn9]) (by rw[hp8,hp9];simp only[XZ,simprocAttr,hn9];rfl) (Ja _)
 refine JpM (fun fr S=>fr 0= .ptr kr 0/\fr 1= .int .i64 a/\fr 8= .ptr p8 0/\fr 9= .ptr p9 0/\Gr A9 S/\Lo6 Sl S' S ru kr p8 p9 lw tb.nodes.length [.int .i64 X.kind,ofL X.name,nvx,kvx] [.int .i64 Y.kind,ofL Y.name,nvy,kvy] (was++[(a,b)]) lw5) ?_ ?_
 ·refine⟨by simp only[XZ,simprocAttr,f0],by simp only[XZ,simprocAttr,f1],by simp only[XZ,simprocAttr],by simp only[XZ,simprocAttr], ?_, ?_⟩
  ·exact gA
  ·obtain⟨tk9,ck9⟩:=W9.cell
   have e8:A9.row p8= .none:=by rw[hp8];exact nx0 w9 hn9 0
   have e9:A9.row p9= .none:=by rw[hp9];exact nx0 w9 hn9 1
   refine⟨W9.gr gA,⟨_,by rw[hp8,hp9];simp only[XZ,simprocAttr,hn9];rfl⟩,⟨_,by rw[hp9];simp only[XZ,simprocAttr,hn9];rfl⟩,⟨fun e=>Je ck9 (e▸e8),fun e=>W9.l.some e e8⟩,⟨fun e=>Je ck9 (e▸e9),fun e=>W9.l.some e e9⟩,fun r e n=> ?_,fun q e=> .inr (d5 q e),G5⟩
   have a7:=kS7 r e n
   have a8:=g8.same r (by rw[a7];exact e)
   have a9:=g9.same r (by rw[a8,a7];exact e)
   rw[gA.same r (by rw[a9,a8,a7];exact e),a9,a8,a7]
 clear f0 f1 f2 gA
 rintro fr S ⟨f0,f1,f8,f9,gS,Lo⟩
 obtain⟨t8,r8⟩:=Lo.r8
 obtain⟨t9,r9⟩:=Lo.r9
 have x10:=x1
 have x20:=x2
 have y10:=y1
 have y20:=y2
 have x1:=x1.gr gS
 have x2:=x2.gr gS
 have y1:=y1.gr gS
 have y2:=y2.gr gS
 have done:∀{S2:St} {lw2:V},Lo6 Sl S' S2 ru kr p8 p9 lw tb.nodes.length [.int .i64 X.kind,ofL X.name,nvx,kvx] [.int .i64 Y.kind,ofL Y.name,nvy,kvy] r.2 lw2->K (.bool r.1) S2:=fun h=>fin _ _ h.keep fun _=>⟨_,h.w,h.sub,rfl⟩
 have hp2:plan2 a X Y=if Y.kind=6/\X.kind≠6/\Y.kids.length=1 then some [some (a,Y.kids.getD 0 0)]else if X.kind≠Y.kind then none else if Y.kind=7 then some (byP X Y true Y.names 0)else if Y.kind=8 then some (byP Y X false X.names 0)else some (kidsP Y X.kids 0):=rfl
 have kid0:∀{P:Pt->Prop} {S:St} {v:V} {l:List Nat},SlAt P S v 1 (ints l)->l.length=1->∃q o,iaddrSV 1 v (.int .i64 0)=some (.ptr q o, .no)/\ld1 (S.row q) o=some (.int .i64 (l.getD 0 0:Nat), .no):=fun{P S v l} h e=>by
  obtain⟨q,o,a1,_,_,a4⟩:=h.one (xs:=l.map fun n:Nat=>V.int .i64 (n:Int)) (i:=0) (by simp[e])
  refine⟨q,o,a1, ?_⟩
  rw[a4]
  simp[List.getD_eq_getElem?_getD,e]
 rw[Jf,Jc];simp only[XY,simprocAttr,f9,r9]
 by_cases k6:Y.kind=6
 ·have yl:=hYw.2.1 (.inr (.inr k6))
  obtain⟨q,o,b1,b2⟩:=kid0 y2 yl
  have ykn:Y.kids.getD 0 0<tb.nodes.length:=hYk _ (KH (by omega))
  simp only[XY,simprocAttr,k6]
  by_cases x6:X.kind=6
  ·have xl:=hXw.2.1 (.inr (.inr x6))
   obtain⟨q',o',d1,d2⟩:=kid0 x2 xl
   rw[hp2,if_neg (fun h=>h.2.1 x6),if_neg (fun h=>h (x6.trans k6.symm)),if_neg (by omega),if_neg (by omega),Jj5 xl,kidsP,kidsP,if_pos (by omega)]at hr
   have hf:=Jed hr
   have xkn:X.kids.getD 0 0<tb.nodes.length:=hXk _ (KH (by omega))
   rw[Jf,Jc];simp only[XZ,simprocAttr,f0,f8,f9,r8,r9,x6,b1,b2,d1,d2]
   refine QH (W:=fun q=>q=kr\/rowOf lw5=some q) Lo.w.g.wf (ih (Lo.w.low _) xkn ykn hf Lo.g) ?_
   rintro v S2 lo c2 ⟨lw2,k2,s2,rfl⟩
   simp only[XZ,simprocAttr]
   exact done (Lo.next c2 (k2.low lo) s2 (Y8 hA f _ _ _ _ hf xkn ykn Lo.g).2)
  ·rw[hp2,if_pos ⟨k6,x6,yl⟩]at hr
   have hf:=Jed hr
   obtain⟨tk,ck⟩:=Lo.w.cell
   rw[Jf,Jc];simp only[XY,simprocAttr,f8,r8,x6]
   rw[Jc];simp only[XY,simprocAttr,f0,f1,ck]
   refine Jb (ropen6 (hT.keep Lo.w.g.same) ha) ?_
   rintro _ _ ⟨rfl,rfl⟩
   simp only[XY,simprocAttr]
   rw[Jc];simp only[XY,simprocAttr,f0,f9,r9,b1,b2]
   refine Jb (ih Lo.w ha ykn hf Lo.g) ?_
   rintro v S2 ⟨c2,lw2,k2,s2,rfl⟩
   simp only[XZ,simprocAttr]
   exact done (Lo.next c2 k2 s2 (Y8 hA f _ _ _ _ hf ha ykn Lo.g).2)
 simp only[XY,simprocAttr,k6]
 rw[Jf,Jc];simp only[XY,simprocAttr,f8,f9,r8,r9]
 by_cases kk:X.kind=Y.kind
 rotate_left
 ·rw[hp2,if_neg (fun h=>k6 h.1),if_pos kk]at hr
  injection hr with hr;subst hr
  simp only[XZ,simprocAttr,kk]
  exact done Lo
 rw[hp2,if_neg (fun h=>k6 h.1),if_neg (fun h=>h kk)]at hr
 simp only[XY,simprocAttr,kk]
 rw[Jf,Jc];simp only[XY,simprocAttr,f8,r8]
 have call45:(Y.kind=4\/Y.kind=5)->∃q o q' o',iaddrSV 1 kvy (.int .i64 0)=some (.ptr q o, .no)/\ld1 (S.row q) o=some (.int .i64 (Y.kids.getD 0 0:Nat), .no)/\iaddrSV 1 kvx (.int .i64 0)=some (.ptr q' o', .no)/\ld1 (S.row q') o'=some (.int .i64 (X.kids.getD 0 0:Nat), .no)/\X.kids.getD 0 0<tb.nodes.length/\Y.kids.getD 0 0<tb.nodes.length/\fitsS tb f (was++[(a,b)]) (X.kids.getD 0 0) (Y.kids.getD 0 0)=some r:=fun h=>by
  have xl:=hXw.2.1 (by rw[kk];omega)
  have yl:=hYw.2.1 (by omega)
  obtain⟨q,o,b1,b2⟩:=kid0 y2 yl
  obtain⟨q',o',d1,d2⟩:=kid0 x2 xl
  rw[if_neg (by omega),if_neg (by omega),Jj5 xl,kidsP,kidsP,if_pos (by omega)]at hr
  exact⟨q,o,q',o',b1,b2,d1,d2,hXk _ (KH (by omega)),hYk _ (KH (by omega)),Jed hr⟩
 by_cases k4:Y.kind=4
 ·obtain⟨q,o,q',o',b1,b2,d1,d2,xkn,ykn,hf⟩:=call45 (.inl k4)
  simp only[XZ,simprocAttr,kk,k4,f0,f8,f9,r8,r9,b1,b2,d1,d2]
  refine QH (W:=fun q=>q=kr\/rowOf lw5=some q) Lo.w.g.wf (ih (Lo.w.low _) xkn ykn hf Lo.g) ?_
  rintro v S2 lo c2 ⟨lw2,k2,s2,rfl⟩
  simp only[XZ,simprocAttr]
  exact done (Lo.next c2 (k2.low lo) s2 (Y8 hA f _ _ _ _ hf xkn ykn Lo.g).2)
 by_cases k5:Y.kind=5
 ·obtain⟨q,o,q',o',b1,b2,d1,d2,xkn,ykn,hf⟩:=call45 (.inr k5)
  simp only[XZ,simprocAttr,kk,k5,f0,f8,f9,r8,r9,b1,b2,d1,d2]
  refine QH (W:=fun q=>q=kr\/rowOf lw5=some q) Lo.w.g.wf (ih (Lo.w.low _) xkn ykn hf Lo.g) ?_
  rintro v S2 lo c2 ⟨lw2,k2,s2,rfl⟩
  simp only[XZ,simprocAttr]
  exact done (Lo.next c2 (k2.low lo) s2 (Y8 hA f _ _ _ _ hf xkn ykn Lo.g).2)
 by_cases k7:Y.kind=7
 ·rw[if_pos k7]at hr
  rw[Jf,Jc];simp only[XY,simprocAttr,kk,k7]
  rw[Jc];simp only[XY,simprocAttr]
  rw[Jc];simp only[XY,simprocAttr]
  have bnl:lenLV nvy=some (.int .i64 Y.names.length, .no):=by rw[y1.len,JL]
  obtain⟨L,hL⟩:∃L:Nat->Fr->St->Prop,∀j fr S2,L j fr S2<->∃(i:Nat) (wi:Was) (lwi:V),j+i=Y.names.length/\fr 0= .ptr kr 0/\fr 8= .ptr p8 0/\fr 9= .ptr p9 0/\fr 12= .int .i64 i/\Lo6 Sl S' S2 ru kr p8 p9 lw tb.nodes.length [.int .i64 X.kind,ofL X.name,nvx,kvx] [.int .i64 Y.kind,ofL Y.name,nvy,kvy] wi lwi/\asksS (fitsS tb f) (byP X Y true (Y.names.drop i) i) wi=some r:=⟨_,fun _ _ _=>Iff.rfl⟩
  refine Jq L Y.names.length (by have:=hYw.2.2.2.2.2.1;omega) ((hL _ _ _).2 ⟨0,_,lw5,by omega,by simp only[XZ,simprocAttr,f0],by simp only[XZ,simprocAttr,f8],by simp only[XZ,simprocAttr,f9],by simp only[XZ,simprocAttr]<;>rfl,Lo,hr⟩) ?_
  clear f0 f1 f8 f9 r8 r9
  intro j fr S2 hLj
  obtain⟨i,wi,lwi,hj,f0,f8,f9,fi,Lo2,hrec⟩:=(hL _ _ _).1 hLj
  obtain⟨t8,r8⟩:=Lo2.r8
  obtain⟨t9,r9⟩:=Lo2.r9
  by_cases hi:i<Y.names.length
  ·have hi':(i:Int)<Y.names.length:=by omega
   have hkl:=hYw.2.2.1 (by omega)
   have hn8:=hYw.2.2.2.2.2.1
   have hakl:=hXw.2.2.1 (by omega)
   have hadd1:IntKind.i64.wrap ((i:Int)+1)=((i+1:Nat):Int):=by rw[Jp (by omega) (by omega)];rfl
   have kz:∀{S:St} {v:V} {z:Nat} {es:List (List V)},Fz Sl S->SlAt (fun r=>Sl.row r≠ .none) A9 v z es->SlAt (fun r=>Sl.row r≠ .none) S v z es:=fun g h=>h.imp fun q e _=>⟨e,by rw[g.same q e,W9.g.same q e]⟩
   obtain⟨q,qo,a1,a2,a3,a4⟩:=(kz Lo2.w.g y10).one (xs:=Y.names.map ofL) (i:=i) (by simpa using hi)
   simp only[List.getElem_map]at a4
   rw[List.drop_eq_getElem_cons hi,byP,Jh0 true hakl (by omega)]at hrec
   have s8:=nes Lo2.n8.1
   simp only[XZ,simprocAttr,f0,f8,f9,fi,r8,r9,bnl,hi',a1,a4]
   refine Jn (rkid6 (P:=fun r=>Sl.row r≠ .none) (nd:=X) (JB Lo2.w.g.wf _) ⟨nvx,kvx,rfl,(kz Lo2.w.g x10).low _,(kz Lo2.w.g x20).low _⟩ hakl hXw.2.2.2.2.2.1) ?_
   rintro _ S3 g3 rfl
   have Lo3:=Lo2.gr g3
   cases hx:idxN Y.names[i] X.names 0 with
   | none=>
     rw[hx]at hrec
     injection hrec with hrec
     subst hrec
     simp only[XZ,simprocAttr]
     exact done Lo3
   | some jj=>
     rw[hx]at hrec
     simp only[Option.map_some,if_true,if_false,Bool.false_eq_true,asksS]at hrec
     obtain⟨q',qo',b1,b2,b3,b4⟩:=(kz Lo3.w.g y20).one (xs:=Y.kids.map fun n:Nat=>V.int .i64 (n:Int)) (i:=i) (by simp;omega)
     have hjj:jj<X.kids.length:=Jge hx hakl
     have b4:ld1 (S3.row q') qo'=some (.int .i64 (Y.kids.getD i 0:Nat), .no):=by
      rw[b4];simp[List.getD_eq_getElem?_getD,show i<Y.kids.length by omega]
     obtain⟨t8',r8'⟩:=Lo3.r8
     obtain⟨t9',r9'⟩:=Lo3.r9
     have ka:=hXk _ (KH hjj)
     have kb:=hYk _ (KH (show i<Y.kids.length by omega))
     cases hf:fitsS tb f wi ((X.kids.getD jj 0,Y.kids.getD i 0)).1 ((X.kids.getD jj 0,Y.kids.getD i 0)).2 with
     |none=>simp only[hf]at hrec;cases hrec
     | some p=>
       obtain⟨x,w2⟩:=p
       simp only at hf
       rw[hf]at hrec
       simp only[XZ,simprocAttr,f0,f8,f9,fi,r8',r9',b1,b4]
       refine Jb (ih Lo3.w ka kb hf Lo3.g) ?_
       rintro v S4 ⟨c4,lw4,k4,s4,rfl⟩
       have Lo4:=Lo3.next c4 k4 s4 (Y8 hA f _ _ _ _ hf ka kb Lo3.g).2
       cases x with
       | false=>
         injection hrec with hrec
         subst hrec
         simp only[XZ,simprocAttr]
         exact done Lo4
       | true=>
         simp only[XZ,simprocAttr,fi,hadd1]
         exact⟨Y.names.length-(i+1),by omega,(hL _ _ _).2 ⟨i+1,w2,lw4,by omega,by simp only[XZ,simprocAttr,f0],by simp only[XZ,simprocAttr,f8],by simp only[XZ,simprocAttr,f9],by simp only[XZ,simprocAttr],Lo4,hrec⟩⟩
  ·have hi':¬(i:Int)<Y.names.length:=by omega
   rw[List.drop_eq_nil_of_le (by omega),byP]at hrec
   injection hrec with hrec
   subst hrec
   simp only[XZ,simprocAttr,f8,f9,fi,r8,r9,bnl,hi']
   exact done Lo2
 by_cases k8:Y.kind=8
 ·rw[if_neg k7,if_pos k8]at hr
  rw[Jf,Jc];simp only[XY,simprocAttr,kk,k8]
  rw[Jc];simp only[XY,simprocAttr]
  rw[Jc];simp only[XY,simprocAttr]
  rw[Jc];simp only[XY,simprocAttr]
  have bnl:lenLV nvx=some (.int .i64 X.names.length, .no):=by rw[x1.len,JL]
  obtain⟨L,hL⟩:∃L:Nat->Fr->St->Prop,∀j fr S2,L j fr S2<->∃(i:Nat) (wi:Was) (lwi:V),j+i=X.names.length/\fr 0= .ptr kr 0/\fr 8= .ptr p8 0/\fr 9= .ptr p9 0/\fr 15= .int .i64 i/\Lo6 Sl S' S2 ru kr p8 p9 lw tb.nodes.length [.int .i64 X.kind,ofL X.name,nvx,kvx] [.int .i64 Y.kind,ofL Y.name,nvy,kvy] wi lwi/\asksS (fitsS tb f) (byP Y X false (X.names.drop i) i) wi=some r:=⟨_,fun _ _ _=>Iff.rfl⟩
  refine Jq L X.names.length (by have:=hXw.2.2.2.2.2.1;omega) ((hL _ _ _).2 ⟨0,_,lw5,by omega,by simp only[XZ,simprocAttr,f0],by simp only[XZ,simprocAttr,f8],by simp only[XZ,simprocAttr,f9],by simp only[XZ,simprocAttr]<;>rfl,Lo,hr⟩) ?_
  clear f0 f1 f8 f9 r8 r9
  intro j fr S2 hLj
  obtain⟨i,wi,lwi,hj,f0,f8,f9,fi,Lo2,hrec⟩:=(hL _ _ _).1 hLj
  obtain⟨t8,r8⟩:=Lo2.r8
  obtain⟨t9,r9⟩:=Lo2.r9
  by_cases hi:i<X.names.length
  ·have hi':(i:Int)<X.names.length:=by omega
   have hkl:=hXw.2.2.1 (by omega)
   have hn8:=hXw.2.2.2.2.2.1
   have hakl:=hYw.2.2.1 (by omega)
   have hadd1:IntKind.i64.wrap ((i:Int)+1)=((i+1:Nat):Int):=by rw[Jp (by omega) (by omega)];rfl
   have kz:∀{S:St} {v:V} {z:Nat} {es:List (List V)},Fz Sl S->SlAt (fun r=>Sl.row r≠ .none) A9 v z es->SlAt (fun r=>Sl.row r≠ .none) S v z es:=fun g h=>h.imp fun q e _=>⟨e,by rw[g.same q e,W9.g.same q e]⟩
   obtain⟨q,qo,a1,a2,a3,a4⟩:=(kz Lo2.w.g x10).one (xs:=X.names.map ofL) (i:=i) (by simpa using hi)
   simp only[List.getElem_map]at a4
   rw[List.drop_eq_getElem_cons hi,byP,Jh0 false hakl (by omega)]at hrec
   have s8:=nes Lo2.n8.1
   simp only[XZ,simprocAttr,f0,f8,f9,fi,r8,r9,bnl,hi',a1,a4]
   refine Jn (rkid6 (P:=fun r=>Sl.row r≠ .none) (nd:=Y) (JB Lo2.w.g.wf _) ⟨nvy,kvy,rfl,(kz Lo2.w.g y10).low _,(kz Lo2.w.g y20).low _⟩ hakl hYw.2.2.2.2.2.1) ?_
   rintro _ S3 g3 rfl
   have Lo3:=Lo2.gr g3
   cases hx:idxN X.names[i] Y.names 0 with
   | none=>
     rw[hx]at hrec
     injection hrec with hrec
     subst hrec
     simp only[XZ,simprocAttr]
     exact done Lo3
   | some jj=>
     rw[hx]at hrec
     simp only[Option.map_some,if_true,if_false,Bool.false_eq_true,asksS]at hrec
     obtain⟨q',qo',b1,b2,b3,b4⟩:=(kz Lo3.w.g x20).one (xs:=X.kids.map fun n:Nat=>V.int .i64 (n:Int)) (i:=i) (by simp;omega)
     have hjj:jj<Y.kids.length:=Jge hx hakl
     have b4:ld1 (S3.row q') qo'=some (.int .i64 (X.kids.getD i 0:Nat), .no):=by
      rw[b4];simp[List.getD_eq_getElem?_getD,show i<X.kids.length by omega]
     obtain⟨t8',r8'⟩:=Lo3.r8
     obtain⟨t9',r9'⟩:=Lo3.r9
     have ka:=hYk _ (KH hjj)
     have kb:=hXk _ (KH (show i<X.kids.length by omega))
     cases hf:fitsS tb f wi ((X.kids.getD i 0,Y.kids.getD jj 0)).1 ((X.kids.getD i 0,Y.kids.getD jj 0)).2 with
     |none=>simp only[hf]at hrec;cases hrec
     | some p=>
       obtain⟨x,w2⟩:=p
       simp only at hf
       rw[hf]at hrec
       simp only[XZ,simprocAttr,f0,f8,f9,fi,r8',r9',b1,b4]
       refine Jb (ih Lo3.w kb ka hf Lo3.g) ?_
       rintro v S4 ⟨c4,lw4,k4,s4,rfl⟩
       have Lo4:=Lo3.next c4 k4 s4 (Y8 hA f _ _ _ _ hf kb ka Lo3.g).2
       cases x with
       | false=>
         injection hrec with hrec
         subst hrec
         simp only[XZ,simprocAttr]
         exact done Lo4
       | true=>
         simp only[XZ,simprocAttr,fi,hadd1]
         exact⟨X.names.length-(i+1),by omega,(hL _ _ _).2 ⟨i+1,w2,lw4,by omega,by simp only[XZ,simprocAttr,f0],by simp only[XZ,simprocAttr,f8],by simp only[XZ,simprocAttr,f9],by simp only[XZ,simprocAttr],Lo4,hrec⟩⟩
  ·have hi':¬(i:Int)<X.names.length:=by omega
   rw[List.drop_eq_nil_of_le (by omega),byP]at hrec
   injection hrec with hrec
   subst hrec
   simp only[XZ,simprocAttr,f8,f9,fi,r8,r9,bnl,hi']
   exact done Lo2
 rw[if_neg k7,if_neg k8]at hr
 have xk0:X.kids=[]:=hXw.2.2.2.1 (by have:=hXw.2.2.2.2.1;have:=hXw.1;omega)
 rw[xk0,kidsP]at hr
 injection hr with hr
 subst hr
 simp only[XZ,simprocAttr,kk,k4,k5,k7,k8]
 exact done Lo
set_option maxHeartbeats 4000000 in
theorem rle6 {S:St}{ru:Pt}{lv:V}{tb:Tb}(hw:WF S)(hT:Tb6 S ru lv tb.nodes)(hA:Acy tb){a b f:Nat}(ha:a<tb.nodes.length)(hb:b<tb.nodes.length){is:Bool}{V:Was}(hr:fitsS tb f [] a b=some (is,V)):
  Does (tabT tabD) Jej [.ptr ru 0, .int .i64 a, .int .i64 b] S fun v S'=>Gr S S'/\∃n,v= .tup [.bool is, .int .i64 n]:=by
 refine Jw tabM JcS rfl hw fun K fin=> ?_
 obtain⟨t,q1,q2,q3,q4,q5,q6,q7,q8,q9,q10,rc⟩:=hT.cell
 have ll:=hT.l.len
 have a0:¬(a:Int)<0:=by omega
 have a1:¬(tb.nodes.length:Int)<=(a:Int):=by omega
 have b0:¬(b:Int)<0:=by omega
 have b1:¬(tb.nodes.length:Int)<=(b:Int):=by omega
 obtain⟨n0,hn0⟩:∃n,S.nx=up 0 n:=⟨_,up0 _⟩
 obtain⟨kr,hkr⟩:∃b,b=up 0 n0:=⟨_,rfl⟩
 simp only[QF,XY,simprocAttr]
 rw[Jc];simp only[XY,simprocAttr]
 rw[Jf,Jc];simp only[XY,simprocAttr,a0,a1,b0,b1,rc,ll]
 rw[Jc];simp only[XY,simprocAttr,hn0]
 rw[<-hkr]
 obtain⟨S1,hS1⟩:∃S',S'=(S.new fun t=> .cells t [.ptr ru 0, .snil]):=⟨_,rfl⟩
 have G1:Gr S S1:=by rw[hS1];exact Gr.new hw (Ja _)
 obtain⟨t1,r1⟩:∃t,S1.row kr= .cells t [.ptr ru 0, .snil]:=⟨_,by rw[hS1,hkr];simp only[XZ,simprocAttr,hn0];rfl⟩
 have kn:S.row kr= .none:=by rw[hkr];exact nx0 hw hn0 0
 rw[<-hS1]
 clear hS1
 have W1:Wk6 S S1 ru kr [] .snil:=⟨Fz.of (Ch.of (fun _=>False) G1) (fun _ w=>w.elim),⟨t1,r1⟩,SlF.nil _ _ _,kn,fun e=>by cases e⟩
 rw[Jc];simp only[XY,simprocAttr]
 refine Jb (rleC hT hA f W1 ha hb hr ⟨by simp,fun p hp=>by cases hp⟩) ?_
 rintro _ S2 ⟨c2,lw2,W2,s2,rfl⟩
 obtain⟨t2,r2⟩:=W2.cell
 have l2:=W2.l.at.len
 simp only[XZ,simprocAttr,r2,l2]
 exact fin _ _ W2.g.same fun _=>⟨_,rfl⟩
set_option maxHeartbeats 8000000 in
theorem sigsL (st:St)(hw:WF st)(e1:List V)(q1:Rw)(h1:RwC (fun _=>True) st e1 q1)(e2:List V)(q2:Rw)(h2:RwC (fun _=>True) st e2 q2)(e3:List V)(q3:Rw)(h3:RwC (fun _=>True) st e3 q3)(wI:Int)(w1: -9223372036854775808<=wI)(w2:wI<9223372036854775808):
  Does (tabT tabD) jD [.agg e1, .agg e2, .agg e3, .int .i64 wI] st fun v' _=>v'= .bool true:=by
 refine Jv jt rfl ?_
 obtain⟨n0,hn0⟩:∃n,st.nx=up 0 n:=⟨_,up0 _⟩
 have g1:=h1
 have g2:=h2
 have g3:=h3
 obtain⟨nv1,kv1,es1,rfl,_,_,_,a1,a2,_,_,_⟩:=h1.inv
 have c1:=a1.cells
 have s1:=a1.sc
 have c2:=a2.cells
 have s2:=a2.sc
 obtain⟨nv2,kv2,es2,rfl,_,_,_,a3,a4,_,_,_⟩:=h2.inv
 have c3:=a3.cells
 have s3:=a3.sc
 have c4:=a4.cells
 have s4:=a4.sc
 obtain⟨nv3,kv3,es3,rfl,_,_,_,a5,a6,_,_,_⟩:=h3.inv
 have c5:=a5.cells
 have s5:=a5.sc
 have c6:=a6.cells
 have s6:=a6.sc
 obtain⟨p4,hp4⟩:∃b,b=up 0 n0:=⟨_,rfl⟩
 obtain⟨p5,hp5⟩:∃b,b=up 1 n0:=⟨_,rfl⟩
 obtain⟨p6,hp6⟩:∃b,b=up 2 n0:=⟨_,rfl⟩
 simp only[Kd,XY,simprocAttr]
 rw[Jc];simp only[XY,simprocAttr,hn0,c1,s1,c2,s2,c3,s3,c4,s4,c5,s5,c6,s6]
 rw[<-hp4,<-hp5,<-hp6]
 obtain⟨S0,hS0⟩:∃S0,S0=(((st.new fun t=> .cells t [.int .i64 q1.kind, .int .i64 q1.n,nv1,kv1]).new fun t=> .cells t [.int .i64 q2.kind, .int .i64 q2.n,nv2,kv2]).new fun t=> .cells t [.int .i64 q3.kind, .int .i64 q3.n,nv3,kv3]):=⟨_,rfl⟩
 have G0:Gr st S0:=by rw[hS0];exact((Gr.new hw (Ja _)).nn (Ja _)).nn (Ja _)
 obtain⟨t4,r4⟩:∃t,S0.row p4= .cells t [.int .i64 q1.kind, .int .i64 q1.n,nv1,kv1]:=⟨_,by rw[hS0,hp4];simp only[XZ,simprocAttr,hn0];rfl⟩
 obtain⟨t5,r5⟩:∃t,S0.row p5= .cells t [.int .i64 q2.kind, .int .i64 q2.n,nv2,kv2]:=⟨_,by rw[hS0,hp5];simp only[XZ,simprocAttr,hn0];rfl⟩
 obtain⟨t6,r6⟩:∃t,S0.row p6= .cells t [.int .i64 q3.kind, .int .i64 q3.n,nv3,kv3]:=⟨_,by rw[hS0,hp6];simp only[XZ,simprocAttr,hn0];rfl⟩
 rw[<-hS0]
 clear hS0
 rw[Jf,Jc];simp only[XY,simprocAttr]
 refine Jb (known8 S0 G0.wf) ?_
 rintro _ S1 ⟨gk,rfl⟩
 have r4:=gk.cells r4
 have r5:=gk.cells r5
 have r6:=gk.cells r6
 have G1:=G0.trans gk
 simp only[XY,simprocAttr]
 rw[Jf,Jc];simp only[XY,simprocAttr,r4]
 refine Jb (fewC g1 _ G1 20 (by decide) (by decide)) ?_
 rintro _ S2 ⟨gf,m1,rfl,_,_⟩
 by_cases hm1:m1=0
 ·simp only[XZ,simprocAttr,hm1]
 have r4:=gf.cells r4
 have r5:=gf.cells r5
 have r6:=gf.cells r6
 have G2:=G1.trans gf
 simp only[XY,simprocAttr,hm1,r5]
 refine Jb (fewC g2 _ G2 20 (by decide) (by decide)) ?_
 rintro _ S3 ⟨gf2,m2,rfl,_,_⟩
 by_cases hm2:m2=0
 ·simp only[XZ,simprocAttr,hm2]
 have r4:=gf2.cells r4
 have r5:=gf2.cells r5
 have r6:=gf2.cells r6
 have G3:=G2.trans gf2
 simp only[XY,simprocAttr,hm2,r6]
 refine Jb (fewC g3 _ G3 20 (by decide) (by decide)) ?_
 rintro _ S4 ⟨gf3,m3,rfl,_,_⟩
 by_cases hm3:m3=0
 ·simp only[XZ,simprocAttr,hm3]
 have r4:=gf3.cells r4
 have r5:=gf3.cells r5
 have r6:=gf3.cells r6
 have G4:=G3.trans gf3
 simp only[XY,simprocAttr,hm3]
 have T3:TreeAt [] 3:=treeC [] (by decide) 2 (by decide)
 rw[Jc];simp only[XY,simprocAttr,r4]
 refine Jn (T3 (JB G4.wf _) ((g1.gr G4).imp fun r _ _=>⟨trivial,rfl⟩) (SlAt.nil (fun _=>False) _ _)) ?_
 rintro _ S5 G5 ⟨x,rfl,hx⟩
 obtain⟨X,hX⟩:∃X,X=treeS [] 3 q1:=⟨_,rfl⟩
 rw[<-hX]at hx
 have r5:=G5.cells r5
 have r6:=G5.cells r6
 simp only[XY,simprocAttr,r5]
 refine Jn (T3 (JB G5.wf _) ((g2.gr (G4.trans G5)).imp fun r _ _=>⟨trivial,rfl⟩) (SlAt.nil (fun _=>False) _ _)) ?_
 rintro _ S6 G6 ⟨y,rfl,hy⟩
 obtain⟨Y,hY⟩:∃Y,Y=treeS [] 3 q2:=⟨_,rfl⟩
 rw[<-hY]at hy
 have r6:=G6.cells r6
 simp only[XY,simprocAttr,r6]
 refine Jn (T3 (JB G6.wf _) ((g3.gr ((G4.trans G5).trans G6)).imp fun r _ _=>⟨trivial,rfl⟩) (SlAt.nil (fun _=>False) _ _)) ?_
 rintro _ S7 G7 ⟨z,rfl,hz⟩
 obtain⟨Z,hZ⟩:∃Z,Z=treeS [] 3 q3:=⟨_,rfl⟩
 rw[<-hZ]at hz
 have hx7:TyC (fun _=>True) S7 x X:=(TyC.imp (Q:=fun _=>True) (st':=S5) hx fun r _ _=>⟨trivial,rfl⟩).gr (G6.trans G7)
 have hy7:TyC (fun _=>True) S7 y Y:=(TyC.imp (Q:=fun _=>True) (st':=S6) hy fun r _ _=>⟨trivial,rfl⟩).gr G7
 have hz7:TyC (fun _=>True) S7 z Z:=TyC.imp (Q:=fun _=>True) (st':=S7) hz fun r _ _=>⟨trivial,rfl⟩
 obtain⟨xn,xk,xe,rfl,u1,u2,u3,u4⟩:=hx7.inv
 obtain⟨yn,yk,ye,rfl,v1,v2,v3,v4⟩:=hy7.inv
 obtain⟨zn,zk,ze,rfl,z1,z2,z3,z4⟩:=hz7.inv
 have d1:=u1.cells
 have d2:=u1.sc
 have d3:=u2.cells
 have d4:=u2.sc
 have d5:=v1.cells
 have d6:=v1.sc
 have d7:=v2.cells
 have d8:=v2.sc
 have f1:=z1.cells
 have f2:=z1.sc
 have f3:=z2.cells
 have f4:=z2.sc
 have w7:=G7.wf
 obtain⟨n7,hn7⟩:∃n,S7.nx=up 0 n:=⟨_,up0 _⟩
 simp only[XY,simprocAttr,hn7,d1,d2,d3,d4,d5,d6,d7,d8,f1,f2,f3,f4]
 refine Jgf ?_
 intro S8 hS8
 have G8:Gr S7 S8:=by
  rw[hS8]
  refine Gr.wr (Gr.wr (Gr.wr (((Gr.new w7 (Ja _)).nn (Ja _)).nn (Ja _)) (nx0 w7 hn7 0) ?_ ?_ (Ja _)) (nx0 w7 hn7 1) ?_ ?_ (Ja _)) (nx0 w7 hn7 2) ?_ ?_ (Ja _)
  all_goals first
   |(simp only[XZ,simprocAttr,hn7];done)
   |(simp only[XZ,simprocAttr,hn7];rfl)
   |(intro e;simp only[XZ,simprocAttr,hn7]at e;cases e)
 obtain⟨p9,hp9⟩:∃b,b=up 0 n7:=⟨_,rfl⟩
 obtain⟨p10,hp10⟩:∃b,b=up 1 n7:=⟨_,rfl⟩
 obtain⟨p11,hp11⟩:∃b,b=up 2 n7:=⟨_,rfl⟩
 obtain⟨t9,r9⟩:∃t,S8.row p9= .cells t [.int .i64 X.kind,ofL X.name,xn,xk]:=⟨_,by rw[hS8,hp9];simp only[XZ,simprocAttr,hn7];rfl⟩
 obtain⟨t10,r10⟩:∃t,S8.row p10= .cells t [.int .i64 Y.kind,ofL Y.name,yn,yk]:=⟨_,by rw[hS8,hp10];simp only[XZ,simprocAttr,hn7];rfl⟩
 obtain⟨t11,r11⟩:∃t,S8.row p11= .cells t [.int .i64 Z.kind,ofL Z.name,zn,zk]:=⟨_,by rw[hS8,hp11];simp only[XZ,simprocAttr,hn7];rfl⟩
 clear hS8
 rw[<-hp9,<-hp10,<-hp11]
 have w8:=G8.wf
 obtain⟨n8,hn8⟩:∃n,S8.nx=up 0 n:=⟨_,up0 _⟩
 have o9:=fun k=>nes (Js w8 hn8 (Je r9) k)
 have o10:=fun k=>nes (Js w8 hn8 (Je r10) k)
 have o11:=fun k=>nes (Js w8 hn8 (Je r11) k)
 rw[Jc];simp only[XY,simprocAttr,r9,r10,r11,hn8,o9,o10,o11,d1,d2,d3,d4,d5,d6,d7,d8,f1,f2,f3,f4]
 refine Jgf ?_
 intro S9 hS9
 have G9:Gr S8 S9:=by
  rw[hS9]
  refine Gr.wr (((Gr.new w8 (Ja _)).nn (Ja _)).nn (Ja _)) (nx0 w8 hn8 2) ?_ ?_ (Ja _)
  all_goals first
   |(simp only[XZ,simprocAttr,hn8];done)
   |(simp only[XZ,simprocAttr,hn8];rfl)
   |(intro e;simp only[XZ,simprocAttr,hn8]at e;cases e)
 obtain⟨x0,hx0⟩:∃b,b=up 0 n8:=⟨_,rfl⟩
 obtain⟨x1,hx1⟩:∃b,b=up 1 n8:=⟨_,rfl⟩
 obtain⟨p12,hp12⟩:∃b,b=up 2 n8:=⟨_,rfl⟩
 obtain⟨u0',y0⟩:∃t,S9.row x0= .cells t [.int .i64 X.kind,ofL X.name,xn,xk, .int .i64 Y.kind,ofL Y.name,yn,yk]:=⟨_,by rw[hS9,hx0];simp only[XZ,simprocAttr,hn8];rfl⟩
 obtain⟨u1',y1⟩:∃t,S9.row x1= .cells t [ofL [102], .slx x0 0 2 4 2, .int .i64 Z.kind,ofL Z.name,zn,zk]:=⟨_,by rw[hS9,hx1,hx0];simp only[XZ,simprocAttr,hn8];rfl⟩
 obtain⟨u2',y2⟩:∃t,S9.row p12= .cells t [.int .i64 Z.kind,ofL Z.name,zn,zk, .snil, .slx x1 0 1 6 1]:=⟨_,by rw[hS9,hp12,hx1];simp only[XZ,simprocAttr,hn8];rfl⟩
 clear hS9
 rw[<-hp12]
 have hx9:=(hx7.gr G8).gr G9
 have hy9:=(hy7.gr G8).gr G9
 have hz9:=(hz7.gr G8).gr G9
 obtain⟨sc,hsc⟩:∃s:Sch,s=⟨Z,[],[⟨[102],[X,Y],Z⟩]⟩:=⟨_,rfl⟩
 have hs9:SchC (fun _=>True) S9 [.int .i64 Z.kind,ofL Z.name,zn,zk, .snil, .slx x1 0 1 6 1] sc:=by
  rw[hsc]
  refine⟨[.int .i64 Z.kind,ofL Z.name,zn,zk], .snil, .slx x1 0 1 6 1,rfl,hz9,⟨[],SlAt.nil _ _ _,rfl,fun i h=>absurd h (by simp)⟩, ?_⟩
  refine⟨[[ofL [102], .slx x0 0 2 4 2, .int .i64 Z.kind,ofL Z.name,zn,zk]],SlAt.freshx (es:=[[ofL [102], .slx x0 0 2 4 2, .int .i64 Z.kind,ofL Z.name,zn,zk]]) (t:=u1') (by rw[y1];rfl) trivial (by simp),rfl,fun i h h'=> ?_⟩
  have:i=0:=by simpa using h
  subst this
  refine⟨.slx x0 0 2 4 2,[.int .i64 Z.kind,ofL Z.name,zn,zk],rfl,⟨[[.int .i64 X.kind,ofL X.name,xn,xk],[.int .i64 Y.kind,ofL Y.name,yn,yk]],SlAt.freshx (es:=[[.int .i64 X.kind,ofL X.name,xn,xk],[.int .i64 Y.kind,ofL Y.name,yn,yk]]) (t:=u0') (by rw[y0];rfl) trivial (by simp),rfl,fun i h h'=> ?_⟩,hz9⟩
  have:i=0\/i=1:=by have:i<2:=h;omega
  rcases this with rfl|rfl
  ·exact hx9
  ·exact hy9
 have htf:∀t∈[X,Y,Z],wfT t/\sizeT t<=21/\noName t=true:=by
  intro t ht
  simp only[List.mem_cons,List.not_mem_nil,or_false]at ht
  rcases ht with rfl|rfl|rfl
  ·rw[hX];exact⟨(YW q1).1,(YW q1).2,QR 3 q1⟩
  ·rw[hY];exact⟨(YW q2).1,(YW q2).2,QR 3 q2⟩
  ·rw[hZ];exact⟨(YW q3).1,(YW q3).2,QR 3 q3⟩
 obtain⟨fz,fl,hnew⟩:=Jnh [102] htf
 rw[<-hsc]at hnew
 rw[Jc];simp only[XY,simprocAttr,y2]
 refine Jb (newC G9.wf hs9) ?_
 rintro v S10 ⟨G10,hp⟩
 have y2:=G10.cells y2
 have hs10:SchC (fun r=>S10.row r≠ .none) S10 [.int .i64 Z.kind,ofL Z.name,zn,zk, .snil, .slx x1 0 1 6 1] sc:=hs9.imp fun r _ e=>⟨by rw[G10.same r e];exact e,G10.same r e⟩
 rw[hsc]at hs10
 have hR:=rnew5 G10.wf hs10 (by simp) fun _=>⟨fz,fl⟩
 cases hnw:newS sc with
 |mk o er=>
 rw[hnw]at hp
 cases o with
 | none=>
   have hp:v= .tup [.pnil, .int .i64 er]:=hp
   have he:=JkB hnw
   rw[hp]
   simp only[XY,simprocAttr]
   rw[Jc];simp only[XY,simprocAttr,y2]
   refine Jb hR ?_
   rintro _ S11 ⟨G11,⟨k,hk,rfl⟩|⟨_,Sb,ru,lv,tv,rest,O,trees,_,_,rfl⟩⟩
   ·simp only[XZ,simprocAttr,he]
   ·simp only[XZ,simprocAttr,he]
 |some tb=>
 have hO:=Jpq hnw
 obtain⟨rfl,hO⟩:=hO
 obtain⟨rt,W,rfl,T10,K10⟩:=hp
 obtain⟨hck,tb',hnw',hnd,hA,h120,hNd⟩:checkS sc=0/\∃tb',newS sc=(some tb',0)/\tb'.nodes=(addList [X,Y,Z] (tbM Z)).1.nodes/\Acy tb'/\tb'.nodes.length<=120/\∀n∈tb'.nodes,NdW n:=by
  rcases hnew with⟨_,e⟩|h
  ·rw[hnw]at e;cases e
  ·exact h
 rw[hnw]at hnw'
 injection hnw' with hnw' _
 injection hnw' with hnw'
 subst hnw'
 simp only[XY,simprocAttr]
 rw[Jc];simp only[XY,simprocAttr,y2]
 refine Jb hR ?_
 rintro _ S11 ⟨G11,⟨k,hk,rfl⟩|⟨_,Sb,ru,lv,tv,rest,O,trees,hRT,hrest,rfl⟩⟩
 ·simp only[XZ,simprocAttr,hk]
 have hRT:RT Sb S11 ru lv tv rest O (addList [X,Y,Z] (tbM Z)).1.nodes trees:=hRT
 rw[<-hnd]at hRT
 have T6:Tb6 S11 ru lv tb.nodes:=hRT.tb6 hrest hNd (fun n hn x hx=>by
  obtain⟨i,hi,e⟩:=List.getElem_of_mem hn
  have:=(hA i n (by rw[List.getElem?_eq_getElem hi,e])).2 x hx
  omega) h120
 have T11:=T10.gr G11
 obtain⟨ids,hsi,hsl⟩:=hO.sigs ⟨[102],[X,Y],Z⟩ (by rw[hsc];exact List.mem_singleton.2 rfl)
 obtain⟨ix,r5',rfl,hix,hr5⟩:=QS (show looksT tb.nodes [X,Y,Z]=some ids from hsl)
 obtain⟨iy,r6',rfl,hiy,hr6⟩:=QS hr5
 obtain⟨iz,r7',rfl,hiz,hr7⟩:=QS hr6
 have:r7'=[]:=by rw[looksT]at hr7;injection hr7 with hr7;exact hr7.symm
 subst this
 have hsi:sigI tb [102]=some [ix,iy,iz]:=hsi
 have hsg:sigI tb [103]=none:=hO.nosig [103] (by rw[hsc];show[103]∉[[102]];decide)
 obtain⟨_,nx',_⟩:=QJ hix
 obtain⟨_,ny',_⟩:=QJ hiy
 obtain⟨_,nz',_⟩:=QJ hiz
 have lx:=(List.getElem?_eq_some_iff.1 nx').1
 have ly:=(List.getElem?_eq_some_iff.1 ny').1
 have lz:=(List.getElem?_eq_some_iff.1 nz').1
 simp only[XY,simprocAttr,Jmb]
 rw[Jf,Jc];simp only[XY,simprocAttr]
 rw[Jc];simp only[XY,simprocAttr]
 refine Jb (sigX [102] T11 hsi (m:=2) rfl (by decide)) ?_
 rintro _ S12 ⟨G12,pp,rfl,hpp⟩
 have hpp:SlAt (fun r=>S11.row r= .none) S12 pp 1 (ints [ix,iy]):=hpp
 simp only[XY,simprocAttr,List.getElem_cons_succ,List.getElem_cons_zero]
 obtain⟨rp0,qp0,a0,_,_,b0⟩:=SlAt.one (xs:=[V.int .i64 (ix:Int),V.int .i64 (iy:Int)]) (i:=0) hpp (by simp)
 obtain⟨rp1,qp1,a1',_,_,b1⟩:=SlAt.one (xs:=[V.int .i64 (ix:Int),V.int .i64 (iy:Int)]) (i:=1) hpp (by simp)
 have a0:iaddrSV 1 pp (.int .i64 0)=some (.ptr rp0 qp0, .no):=a0
 have a1':iaddrSV 1 pp (.int .i64 1)=some (.ptr rp1 qp1, .no):=a1'
 simp only[List.getElem_cons_succ,List.getElem_cons_zero]at b0 b1
 have w12:=G12.wf
 obtain⟨n12,hn12⟩:∃n,S12.nx=up 0 n:=⟨_,up0 _⟩
 rw[Jc];simp only[XY,simprocAttr,a0,a1',b0,b1,hn12]
 refine Jgf ?_
 intro S13 hS13
 have G13:Gr S12 S13:=by rw[hS13];exact Gr.new w12 (Ja _)
 obtain⟨p13,hp13⟩:∃b,b=up 0 n12:=⟨_,rfl⟩
 obtain⟨t13,r13⟩:∃t,S13.row p13= .cells t [.int .i64 ix, .int .i64 iy, .int .i64 iz]:=⟨_,by rw[hS13,hp13];simp only[XZ,simprocAttr,hn12];rfl⟩
 clear hS13
 rw[<-hp13]
 have hl13:SlAt (fun _=>True) S13 (.slx p13 0 3 1 3) 1 (ints [ix,iy,iz]):=SlAt.freshx (es:=ints [ix,iy,iz]) (t:=t13) (by rw[r13];rfl) trivial (Y2 _)
 obtain⟨av,hav,la⟩:=Jj7 wI (n:=3) (by decide)
 obtain⟨cv,hcv,lc⟩:=Jj7 (IntKind.i64.wrap (wI.tdiv 3)) (n:=3) (by decide)
 have hav:wI%3=av:=hav
 have hcv:IntKind.i64.wrap (wI.tdiv 3)%3=cv:=hcv
 rw[Jc];simp only[XY,simprocAttr]
 refine Jn ((withinC wI 3 _ (by decide) (by decide)).mono fun v S h=>⟨by rw[<-h.2];exact Gr.refl (JB G13.wf _),h.1⟩) ?_
 rintro _ S14 G14 rfl
 rw[hav]
 have hl14:=hl13.gr G14
 obtain⟨ra,qa,o1,_,_,o2⟩:=SlAt.one (xs:=[V.int .i64 (ix:Int),V.int .i64 (iy:Int),V.int .i64 (iz:Int)]) (i:=av) hl14 (by simpa using la)
 simp only[XY,simprocAttr,o1,o2]
 refine Jn ((withinC (IntKind.i64.wrap (wI.tdiv 3)) 3 _ (by decide) (by decide)).mono fun v S h=>⟨by rw[<-h.2];exact Gr.refl (JB G14.wf _),h.1⟩) ?_
 rintro _ S15 G15 rfl
 rw[hcv]
 have hl15:=hl14.gr G15
 obtain⟨rc,qc,o3,_,_,o4⟩:=SlAt.one (xs:=[V.int .i64 (ix:Int),V.int .i64 (iy:Int),V.int .i64 (iz:Int)]) (i:=cv) hl15 (by simpa using lc)
 have hpick:∀k (hk:k<3),∃n,[V.int .i64 (ix:Int),V.int .i64 (iy:Int),V.int .i64 (iz:Int)][k]'(by simpa using hk)= .int .i64 (n:Nat)/\n<tb.nodes.length:=by
  intro k hk
  have:k=0\/k=1\/k=2:=by omega
  rcases this with rfl|rfl|rfl
  ·exact⟨ix,rfl,lx⟩
  ·exact⟨iy,rfl,ly⟩
  ·exact⟨iz,rfl,lz⟩
 obtain⟨i,ei,li⟩:=hpick av la
 obtain⟨j,ej,lj⟩:=hpick cv lc
 rw[ej]at o4
 simp only[XY,simprocAttr,o3,o4,ei]
 obtain⟨le,V1,hle⟩:∃le V,fitsS tb (ix+1) [] i ix=some (le,V):=by
  have:=JbU hA (ix+1) [] i ix (by omega)
  cases h:fitsS tb (ix+1) [] i ix with
  |none=>rw[h]at this;cases this
  |some p=>exact⟨p.1,p.2,rfl⟩
 obtain⟨lf,V2,hlf⟩:∃le V,fitsS tb (iy+1) [] j iy=some (le,V):=by
  have:=JbU hA (iy+1) [] j iy (by omega)
  cases h:fitsS tb (iy+1) [] j iy with
  |none=>rw[h]at this;cases this
  |some p=>exact⟨p.1,p.2,rfl⟩
 have G1115:=((G12.trans G13).trans G14).trans G15
 have T15:=T11.gr G1115
 have R15:=T6.gr G1115
 have w15:=G15.wf
 obtain⟨n15,hn15⟩:∃n,S15.nx=up 0 n:=⟨_,up0 _⟩
 have pp15:=hpp.gr ((G13.trans G14).trans G15)
 rw[Jc];simp only[XY,simprocAttr,hn15]
 refine Jas ?_
 intro S16 hS16
 have G16:Gr S15 S16:=by rw[hS16];exact Gr.new w15 (Ja _)
 obtain⟨p16,hp16⟩:∃b,b=up 0 n15:=⟨_,rfl⟩
 obtain⟨t16,r16⟩:∃t,S16.row p16= .cells t [.int .i64 i, .int .i64 j]:=⟨_,by rw[hS16,hp16];simp only[XZ,simprocAttr,hn15];rfl⟩
 have r16n:S15.row p16= .none:=by rw[hp16];exact nx0 w15 hn15 0
 clear hS16
 rw[<-hp16]
 have T16:=T15.gr G16
 have hav16:SlAt (fun r=>¬W r) S16 (.slx p16 0 2 1 2) 1 (ints [i,j]):=SlAt.freshx (es:=ints [i,j]) (t:=t16) (by rw[r16];rfl) (T15.own r16n) (Y2 _)
 have hbF:isB [102]=false:=by decide+kernel
 have hbG:isB [103]=false:=by decide+kernel
 refine Jb (ofF (m:=2) (b:=fun k=>if k=0 then le else lf) T16 hsi rfl (by decide) hbF hav16 (by simp) fun _ k h h'=>by
  have:k=0\/k=1:=by have:k<2:=h;omega
  rcases this with rfl|rfl
  ·exact⟨li,lx,_,V1,hle⟩
  ·exact⟨lj,ly,_,V2,hlf⟩) ?_
 rintro v S17 ⟨G17,hv⟩
 have hv:∃(k g:Int),v= .tup [.int .i64 k, .int .i64 g]/\(((le&&lf)=true/\k=iz/\g=0)\/((le&&lf)=false/\k=0/\g=17)):=by
  rcases hv with⟨h,_⟩|⟨_,h,e⟩|⟨_,⟨k,hk,h⟩,e⟩
  ·exact absurd rfl h
  ·have h0:=h 0 (by decide)
   have h1:=h 1 (by decide)
   simp only[if_true]at h0
   simp only[show¬(1:Nat)=0 by decide,if_false]at h1
   exact⟨_,_,e, .inl ⟨by rw[h0,h1];rfl,rfl,rfl⟩⟩
  ·refine⟨_,_,e, .inr ⟨?_,rfl,rfl⟩⟩
   have:k=0\/k=1:=by omega
   rcases this with rfl|rfl
   ·simp only[if_true]at h;rw[h];rfl
   ·simp only[show¬(1:Nat)=0 by decide,if_false]at h;rw[h,Bool.and_false]
 obtain⟨kk,gg,rfl,hkg⟩:=hv
 have pp17:=pp15.gr (G16.trans G17)
 obtain⟨rp0,qp0,a0,_,_,b0⟩:=SlAt.one (xs:=[V.int .i64 (ix:Int),V.int .i64 (iy:Int)]) (i:=0) pp17 (by simp)
 have a0:iaddrSV 1 pp (.int .i64 0)=some (.ptr rp0 qp0, .no):=a0
 simp only[List.getElem_cons_zero]at b0
 simp only[XY,simprocAttr]
 rw[Jc];simp only[XY,simprocAttr,a0,b0]
 refine Jb (rle6 G17.wf ((R15.gr G16).gr G17) hA li lx hle) ?_
 rintro _ S18 ⟨G18,n18,rfl⟩
 have pp18:=pp17.gr G18
 obtain⟨rp1,qp1,a1',_,_,b1⟩:=SlAt.one (xs:=[V.int .i64 (ix:Int),V.int .i64 (iy:Int)]) (i:=1) pp18 (by simp)
 have a1':iaddrSV 1 pp (.int .i64 1)=some (.ptr rp1 qp1, .no):=a1'
 simp only[List.getElem_cons_succ,List.getElem_cons_zero]at b1
 simp only[XY,simprocAttr]
 rw[Jc];simp only[XY,simprocAttr,a1',b1]
 refine Jb (rle6 G18.wf (((R15.gr G16).gr G17).gr G18) hA lj ly hlf) ?_
 rintro _ S19 ⟨G19,n19,rfl⟩
 have G1619:=(G17.trans G18).trans G19
 have T19:=T16.gr G1619
 have w19:=G19.wf
 obtain⟨n19',hn19⟩:∃n,S19.nx=up 0 n:=⟨_,up0 _⟩
 simp only[XY,simprocAttr]
 rw[Jc];simp only[XY,simprocAttr,hn19]
 refine Jas ?_
 intro S20 hS20
 have G20:Gr S19 S20:=by rw[hS20];exact Gr.new w19 (Ja _)
 obtain⟨p20,hp20⟩:∃b,b=up 0 n19':=⟨_,rfl⟩
 obtain⟨t20,r20⟩:∃t,S20.row p20= .cells t [.int .i64 i]:=⟨_,by rw[hS20,hp20];simp only[XZ,simprocAttr,hn19];rfl⟩
 have r20n:S19.row p20= .none:=by rw[hp20];exact nx0 w19 hn19 0
 clear hS20
 rw[<-hp20]
 have T20:=T19.gr G20
 have hav20:SlAt (fun r=>¬W r) S20 (.slx p20 0 1 1 1) 1 (ints [i]):=SlAt.freshx (es:=ints [i]) (t:=t20) (by rw[r20];rfl) (T19.own r20n) (Y2 _)
 refine Jb (ofF (m:=2) (b:=fun _=>true) T20 hsi rfl (by decide) hbF hav20 (by simp) fun h=>by cases h) ?_
 rintro v S21 ⟨G21,hv⟩
 have hv:v= .tup [.int .i64 0, .int .i64 18]:=by
  rcases hv with⟨_,e⟩|⟨h,_⟩|⟨h,_⟩
  ·exact e
  ·cases h
  ·cases h
 subst hv
 have T21:=T20.gr G21
 obtain⟨n21,hn21⟩:∃n,S21.nx=up 0 n:=⟨_,up0 _⟩
 simp only[XY,simprocAttr]
 rw[Jc];simp only[XY,simprocAttr,hn21]
 refine Jas ?_
 intro S22 hS22
 have G22:Gr S21 S22:=by rw[hS22];exact Gr.new G21.wf (Ja _)
 refine Jb (ofN (T21.gr G22) hsg hbG) ?_
 rintro _ S23 rfl
 cases le with
 | false=>
   obtain⟨h,_⟩|⟨_,rfl,rfl⟩:=hkg
   ·cases h
   ·simp only[XZ,simprocAttr]
 | true=>
   cases lf with
   | false=>
     obtain⟨h,_⟩|⟨_,rfl,rfl⟩:=hkg
     ·cases h
     ·simp only[XZ,simprocAttr]
   | true=>
     obtain⟨_,rfl,rfl⟩|⟨h,_⟩:=hkg
     ·simp only[XZ,simprocAttr]
     ·cases h
end Go.Proofs.Ytcahllomeaimeaa
