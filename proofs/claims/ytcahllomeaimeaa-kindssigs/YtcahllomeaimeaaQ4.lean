/- A function's numbers, told. What kinds' asker tells. What get, has, orelse answer. What functions answer: builtin ones. What functions answer: a schema's own; of no function an error. 'known' of chapter 8 is true, by its contracts. The document's names, words; a type by itself. The document's definitions; a type by itself, and with its kids. The document's walk over a type. The document's way t -/
import Derived.Test.YtcahllomeaimeaaQ3
set_option linter.unusedVariables false
set_option linter.unusedSimpArgs false
set_option maxRecDepth 100000
namespace Go.Proofs.Ytcahllomeaimeaa
open Eva Go.RowKit
theorem Jeg {R:V->List Nat->Prop}(n:Str):∀{sv:List (Str×V)} {sg:List (Str×List Nat)},sv.length=sg.length->(∀i (h:i<sv.length) (h':i<sg.length),sv[i].1=sg[i].1/\R sv[i].2 sg[i].2)->
  (∀ids,(sg.find? fun p=>n=p.1).map (·.2)=some ids->∃v,at_ n sv=some v/\R v ids)/\((sg.find? fun p=>n=p.1).map (·.2)=none->at_ n sv=none)
 |[],[],_,_=>⟨fun ids h=>(by cases h),fun _=>rfl⟩
 | (a,v)::r,(b,w)::q,hl,h=>by
   obtain⟨i1,i2⟩:=Jeg n (sv:=r) (sg:=q) (by simpa using hl) fun i h1 h2=>h (i+1) (by simpa using h1) (by simpa using h2)
   have h0:=h 0 (by simp) (by simp)
   simp only[List.getElem_cons_zero]at h0
   rw[at_]
   by_cases c:n=a
   ·have c':n=b:=by rw[c];exact h0.1
    rw[if_pos c]
    simp only[List.find?,c',decide_true,Option.map_some]
    exact⟨fun ids e=>⟨v,rfl,by injection e with e;rw[<-e];exact h0.2⟩,fun e=>by cases e⟩
   ·have c':¬n=b:=fun e=>c (by rw[e];exact h0.1.symm)
    rw[if_neg c]
    simp only[List.find?,c',decide_false]
    exact⟨i1,i2⟩
theorem sigX {W:Pt->Prop}{st:St}{rt:Pt}{tb:Tb}(nm:Str){ids:List Nat}{m:Nat}(hT:TabX st W rt tb)(hs:sigI tb nm=some ids)(hm:ids.length=m+1)(hm8:m<=100):
  Does (tabT tabD) kW [.ptr rt 0,ofL nm] st fun v S=>Gr st S/\∃v',v= .tup [v', .int .i64 (ids[m]:Nat), .bool true]/\SlAt (fun r=>st.row r= .none) S v' 1 (ints (ids.take m)):=by
 obtain⟨hw,F,lv,ra,rn,rs,es,sv,hT⟩:=hT
 refine Jw tabM kB rfl hw fun K fin=> ?_
 obtain⟨t,c⟩:=hT.cell
 have hlk:=Yg (e:= .one .s) hT.sigs .snil true nm (Q9 _ _) rfl
 obtain⟨v,hv,hsl⟩:=(Jeg (R:=fun v ids=>SlAt F st v 1 (ints ids)) nm hT.slen hT.sig).1 ids hs
 rw[hv]at hlk
 simp only[ansL,if_true]at hlk
 have hlen:ints ids=ints ids:=rfl
 have len:=hsl.len
 rw[Kq,hm]at len
 have hsub:IntKind.i64.wrap (((m+1:Nat):Int)-1)=(m:Int):=by rw[Jp (by omega) (by omega)];omega
 obtain⟨v1,hc,hs1,_⟩:=JiD hsl (k:=m) (by rw[Kq];omega)
 rw[show(ints ids).take m=ints (ids.take m) by simp[ints,List.map_take]]at hs1
 have hc':∀S',cutLV S' 1 v none (some (.int .i64 (m:Int))) none=some (v1, .no):=fun _=>hc
 simp only[Kw,XZ,simprocAttr,c,hlk,len,hsub,hc']
 refine Jn (Jb1 (Q:=fun r=>st.row r= .none) (JB hw _) (hs1.low _) (Jc9 _) (by rw[Kq,List.length_take];omega) fun r h=>h) ?_
 rintro v' S2 g2 c2
 have c2:=c2.unlow
 obtain⟨r,q,a1,a2,a3,a4⟩:=SlAt.one (xs:=ids.map fun n:Nat=>V.int .i64 (n:Int)) (i:=m) (hsl.gr g2) (by simp[hm])
 simp only[List.getElem_map]at a4
 simp only[XZ,simprocAttr,len,hsub,a1,a4,Jk]
 exact fin _ _ (fun r e=>g2.same r e) fun g=>⟨_,rfl,c2⟩
theorem sigN {W:Pt->Prop}{st:St}{rt:Pt}{tb:Tb}(nm:Str)(hT:TabX st W rt tb)(hs:sigI tb nm=none):
  Does (tabT tabD) kW [.ptr rt 0,ofL nm] st fun v S=>v= .tup [.snil, .int .i64 0, .bool false]/\st=S:=by
 obtain⟨hw,F,lv,ra,rn,rs,es,sv,hT⟩:=hT
 refine Jv kB rfl ?_
 obtain⟨t,c⟩:=hT.cell
 have hlk:=Yg (e:= .one .s) hT.sigs .snil true nm (Q9 _ _) rfl
 rw[(Jeg (R:=fun v ids=>SlAt F st v 1 (ints ids)) nm hT.slen hT.sig).2 hs]at hlk
 simp only[ansL,if_true]at hlk
 simp only[Kw,XZ,simprocAttr,c,hlk]
def AskC (P:Pt->Prop)(st:St)(rt:Pt)(e:List V)(nds:List Nd)(args:List Nat):Prop:=
 ∃lv av es,e=[.ptr rt 0,lv,av]/\SlAt P st lv 4 es/\es.length=nds.length/\(∀i (h:i<es.length) (h':i<nds.length),NdC P st es[i] nds[i])/\SlAt P st av 1 (ints args)
theorem AskC.imp {P Q:Pt->Prop}{st st':St}{rt:Pt}{e:List V}{nds:List Nd}{args:List Nat}(h:AskC P st rt e nds args)(k:∀r,P r->st.row r≠ .none->Q r/\st'.row r=st.row r):AskC Q st' rt e nds args:=by
 obtain⟨lv,av,es,rfl,h1,h2,h3,h4⟩:=h
 exact⟨lv,av,es,rfl,h1.imp k,h2,fun i a b=>(h3 i a b).imp k,h4.imp k⟩
theorem AskC.gr {P:Pt->Prop}{st st':St}{rt:Pt}{e:List V}{nds:List Nd}{args:List Nat}(h:AskC P st rt e nds args)(g:Gr st st'):AskC P st' rt e nds args:=h.imp fun r p e=>⟨p,g.same r e⟩
theorem AskC.low {P:Pt->Prop}{st:St}{rt:Pt}{e:List V}{nds:List Nd}{args:List Nat}(h:AskC P st rt e nds args)(k:Nat):AskC P {st with low:=k} rt e nds args:=h.imp fun r p _=>⟨p,rfl⟩
theorem JiQ {P:Pt->Prop}{st:St}{lv:V}{es:List (List V)}{nds:List Nd}(h1:SlAt P st lv 4 es)(h2:es.length=nds.length)(h3:∀i (h:i<es.length) (h':i<nds.length),NdC P st es[i] nds[i]){i:Nat}(hi:i<nds.length):
  ∃r q kv,iaddrSV 4 lv (.int .i64 i)=some (.ptr r q, .no)/\P r/\st.row r≠ .none/\ld1 (st.row r) q=some (.int .i64 nds[i].kind, .no)/\ld1 (st.row r) (q+3)=some (kv, .no)/\SlAt P st kv 1 (ints nds[i].kids):=by
 obtain⟨r,q,a1,a2,a3,a4,a5⟩:=h1.elem (i:=i) (by omega)
 have hn:=h3 i (by omega) hi
 obtain⟨E,hE⟩:∃E,E=es[i]'(by omega):=⟨_,rfl⟩
 rw[<-hE]at hn a5
 obtain⟨nv,kv,rfl,y1,y2⟩:=hn
 exact⟨r,q,kv,a1,a2,a3,a5 0 (by simp),a5 3 (by simp),y2⟩
def areS (ks:List Nat)(nds:List Nd):Bool:=(ks.zip nds).all fun p=>decide (p.2.kind=(p.1:Int))
theorem areC {P Q:Pt->Prop}{st:St}{rt:Pt}{e:List V}{nds:List Nd}{args:List Nat}{kv:V}{ks:List Nat}(hw:WF st)(h:AskC P st rt e nds args)(hk:SlAt Q st kv 1 (ints ks))(hl:ks.length<=nds.length)(h8:ks.length<=8):
  Does (tabT tabD) Jbz [.agg e,kv] st fun v S=>Gr st S/\v= .bool (areS ks nds):=by
 refine Jv JaG rfl ?_
 obtain⟨n0,hn0⟩:∃n,st.nx=up 0 n:=⟨_,up0 _⟩
 obtain⟨lv,av,es,rfl,h1,h2,h3,h4⟩:=h
 have c1:=h1.cells
 have c2:=h1.sc
 have c3:=h4.cells
 have c4:=h4.sc
 have len:=hk.len
 rw[Kq]at len
 obtain⟨p2,hp2⟩:∃b,b=up 0 n0:=⟨_,rfl⟩
 simp only[KO,XY,simprocAttr]
 rw[Jc];simp only[XY,simprocAttr,hn0,c1,c2,c3,c4]
 rw[<-hp2]
 obtain⟨S0,hS0⟩:∃S0,S0=(st.new fun t=> .cells t [.ptr rt 0,lv,av]):=⟨_,rfl⟩
 have G0:Gr st S0:=by rw[hS0];exact Gr.new hw (Ja _)
 obtain⟨t2,r2⟩:∃t,S0.row p2= .cells t [.ptr rt 0,lv,av]:=⟨_,by rw[hS0,hp2];simp only[XZ,simprocAttr,hn0];rfl⟩
 rw[<-hS0]
 clear hS0
 have hk0:=hk.gr G0
 have h10:=h1.gr G0
 have h30:∀i (h:i<es.length) (h':i<nds.length),NdC P S0 es[i] nds[i]:=fun i a b=>(h3 i a b).imp fun r p e=>⟨p,G0.same r e⟩
 refine JJ (fun _ S=>S=S0/\areS ks nds=true) ?_ fun fr S ⟨e,h⟩=>by
  subst e
  simp only[XZ,simprocAttr]
  exact⟨G0,congrArg V.bool h.symm⟩
 rw[Jc];simp only[XY,simprocAttr,len]
 obtain⟨L,hL⟩:∃L:Nat->Fr->St->Prop,∀j fr S,L j fr S<->∃(i:Nat),j+i=ks.length/\fr 2= .ptr p2 0/\fr 7=kv/\fr 8= .int .i64 ks.length/\fr 9= .int .i64 i/\S=S0/\areS ks nds=areS (ks.drop i) (nds.drop i):=⟨_,fun _ _ _=>Iff.rfl⟩
 refine Jq L ks.length (by omega) ((hL _ _ _).2 ⟨0,by omega,by simp only[XZ,simprocAttr],by simp only[XZ,simprocAttr],by simp only[XZ,simprocAttr],by simp only[XZ,simprocAttr]<;>rfl,rfl,rfl⟩) ?_
 intro j fr S hLj
 obtain⟨i,hj,f2,f7,f8,f9,rfl,hrec⟩:=(hL _ _ _).1 hLj
 by_cases hi:i<ks.length
 ·have hi':(i:Int)<ks.length:=by omega
  have hin:i<nds.length:=by omega
  have hadd1:IntKind.i64.wrap ((i:Int)+1)=((i+1:Nat):Int):=by rw[Jp (by omega) (by omega)];rfl
  obtain⟨r,q,kv',a1,a2,a3,a4,a5,a6⟩:=JiQ h10 h2 h30 hin
  obtain⟨r',q',b1,b2,b3,b4⟩:=SlAt.one (xs:=ks.map fun n:Nat=>V.int .i64 (n:Int)) (i:=i) hk0 (by simpa using hi)
  simp only[List.getElem_map]at b4
  have hstep:areS (ks.drop i) (nds.drop i)=(decide (nds[i].kind=(ks[i]:Int))&&areS (ks.drop (i+1)) (nds.drop (i+1))):=by
   rw[List.drop_eq_getElem_cons hi,List.drop_eq_getElem_cons hin];rfl
  rw[hstep]at hrec
  by_cases hk:nds[i].kind=(ks[i]:Int)
  ·have hk':(nds[i].kind=(ks[i]:Int))=True:=eq_true hk
   simp only[XZ,simprocAttr,f2,f7,f8,f9,hi',b1,b4,r2,a1,a4,hk',hadd1]
   refine⟨j-1,by omega,(hL _ _ _).2 ⟨i+1,by omega,by simp only[XZ,simprocAttr,f2],by simp only[XZ,simprocAttr,f7],by simp only[XZ,simprocAttr,f8],by simp only[XZ,simprocAttr],rfl,by rw[hrec,decide_eq_true hk,Bool.true_and]⟩⟩
  ·have hk':(nds[i].kind=(ks[i]:Int))=False:=eq_false hk
   simp only[XZ,simprocAttr,f2,f7,f8,f9,hi',b1,b4,r2,a1,a4,hk']
   exact⟨G0,by rw[hrec,decide_eq_false hk,Bool.false_and]⟩
 ·have hi':¬(i:Int)<ks.length:=by omega
  simp only[XZ,simprocAttr,f8,f9,hi']
  rw[List.drop_of_length_le (by omega)]at hrec
  exact hrec
theorem baseX {W:Pt->Prop}{st:St}{rt:Pt}{tb:Tb}(k:Int)(hT:TabX st W rt tb):
  Does (tabT tabD) JbF [.ptr rt 0, .int .i64 k] st fun v S=>Ch W st S/\∃W',TabX S W' rt (layS tb ⟨k,[],[],[]⟩).1/\(∀r,W' r->W r\/st.row r= .none)/\v= .tup [.int .i64 ((layS tb ⟨k,[],[],[]⟩).2.1:Nat), .int .i64 (layS tb ⟨k,[],[],[]⟩).2.2]:=by
 obtain⟨hw,F,hT⟩:=hT
 refine Jv JaK rfl ?_
 simp only[KN,XZ,simprocAttr]
 refine Jb (lay (P:=fun _=>True) (nd:=⟨k,[],[],[]⟩) hw hT ⟨.snil, .snil,rfl,SlAt.nil _ _ _,SlAt.nil _ _ _⟩ ⟨Nat.zero_le _,Nat.zero_le _⟩) ?_
 rintro _ S2 ⟨c2,⟨W2,F2,b1,b2,b3,T2⟩,rfl⟩
 simp only[XZ,simprocAttr]
 exact⟨c2,W2,⟨c2.wf,F2,T2⟩,b2⟩
def baseR (tb:Tb)(k:Int)(ok:Bool):Tb×Nat×Int:=if ok then layS tb ⟨k,[],[],[]⟩else(tb,0,17)
theorem baseA {W P:Pt->Prop}{st:St}{rt:Pt}{tb:Tb}{e:List V}{nds:List Nd}{args:List Nat}(k:Int)(ok:Bool)(hT:TabX st W rt tb)(h:AskC P st rt e nds args):
  Does (tabT tabD) JaF [.agg e, .int .i64 k, .bool ok] st fun v S=>Ch W st S/\∃W',TabX S W' rt (baseR tb k ok).1/\(∀r,W' r->W r\/st.row r= .none)/\v= .tup [.int .i64 ((baseR tb k ok).2.1:Nat), .int .i64 (baseR tb k ok).2.2]:=by
 refine Jv qN rfl ?_
 obtain⟨n0,hn0⟩:∃n,st.nx=up 0 n:=⟨_,up0 _⟩
 obtain⟨lv,av,es,rfl,h1,h2,h3,h4⟩:=h
 have c1:=h1.cells
 have c2:=h1.sc
 have c3:=h4.cells
 have c4:=h4.sc
 have hw:=hT.1
 obtain⟨S0,hS0⟩:∃S0,S0=(st.new fun t=> .cells t [.ptr rt 0,lv,av]):=⟨_,rfl⟩
 have G0:Gr st S0:=by rw[hS0];exact Gr.new hw (Ja _)
 obtain⟨t2,r2⟩:∃t,S0.row (up 0 n0)= .cells t [.ptr rt 0,lv,av]:=⟨_,by rw[hS0];simp only[XZ,simprocAttr,hn0];rfl⟩
 simp only[KB,XY,simprocAttr]
 rw[Jc];simp only[XY,simprocAttr,hn0,c1,c2,c3,c4]
 rw[<-hS0]
 clear hS0
 cases ok with
 | false=>
   simp only[XZ,simprocAttr]
   exact⟨Ch.of W G0,W,hT.gr G0,fun r w=> .inl w,rfl⟩
 | true=>
   rw[Jf,Jc];simp only[XY,simprocAttr]
   rw[Jc];simp only[XY,simprocAttr,r2]
   refine Jb (baseX k (hT.gr G0)) ?_
   rintro _ S2 ⟨C2,W2,T2,K2,rfl⟩
   simp only[XZ,simprocAttr]
   exact⟨(Ch.of W G0).trans C2 fun r w=> .inl w,W2,T2,fun r w=>by rcases K2 r w with w|w;exact .inl w;exact .inr (Ch.fresh (Ch.of W G0) w),rfl⟩
def Ans (W:Pt->Prop)(st:St)(rt:Pt)(x:Tb×Nat×Int)(v:V)(S:St):Prop:=Ch W st S/\∃W',TabX S W' rt x.1/\(∀r,W' r->W r\/st.row r= .none)/\v= .tup [.int .i64 (x.2.1:Nat), .int .i64 x.2.2]
theorem Ans.gr {W:Pt->Prop}{st0 st:St}{rt:Pt}{x:Tb×Nat×Int}{v:V}{S:St}(G:Gr st0 st)(h:Ans W st rt x v S):Ans W st0 rt x v S:=by
 obtain⟨C,W',T,K,e⟩:=h
 exact⟨(Ch.of W G).trans C fun r w=> .inl w,W',T,fun r w=>by rcases K r w with w|w;exact .inl w;exact .inr (Ch.fresh (Ch.of W G) w),e⟩
theorem Ans.same {W:Pt->Prop}{st S:St}{rt:Pt}{tb:Tb}{n:Nat}{z:Int}(hT:TabX st W rt tb)(G:Gr st S):Ans W st rt (tb,n,z) (.tup [.int .i64 (n:Nat), .int .i64 z]) S:=⟨Ch.of W G,W,hT.gr G,fun r w=> .inl w,rfl⟩
theorem Ans.kept {W:Pt->Prop}{st S:St}{rt:Pt}{x:Tb×Nat×Int}{v:V}(h:Ans W st rt x v S):∃W',TabX S W' rt x.1/\Kept st W S W'/\v= .tup [.int .i64 (x.2.1:Nat), .int .i64 x.2.2]:=by
 obtain⟨C,W',T,K,e⟩:=h
 exact⟨W',T,Kept.ch C K,e⟩
theorem Jka {W:Pt->Prop}{st:St}{rt:Pt}{tb:Tb}{lo:Nat}(h:TabX st W rt tb)(hw:WF {st with low:=lo}):TabX {st with low:=lo} W rt tb:=by
 obtain⟨_,F,h⟩:=h
 exact⟨hw,F,h.keep fun r _ _=>rfl⟩
set_option maxHeartbeats 2000000 in
theorem addB {W:Pt->Prop}{st:St}{rt:Pt}{tb:Tb}{e:List V}{A B:Nd}{args:List Nat}(hT:TabX st W rt tb)(h:AskC (fun r=>¬W r) st rt e [A,B] args):
  Does (tabT tabD) QL [.agg e,ofL [97,100,100]] st (Ans W st rt (baseR tb 2 (areS [2,2] [A,B]))):=by
 refine Jv Yp rfl ?_
 obtain⟨n0,hn0⟩:∃n,st.nx=up 0 n:=⟨_,up0 _⟩
 have hask:=h
 obtain⟨lv,av,es,rfl,h1,h2,h3,h4⟩:=h
 have c1:=h1.cells
 have c2:=h1.sc
 have c3:=h4.cells
 have c4:=h4.sc
 have hw:=hT.1
 obtain⟨p2,hp2⟩:∃b,b=up 0 n0:=⟨_,rfl⟩
 obtain⟨S0,hS0⟩:∃S0,S0=(st.new fun t=> .cells t [.ptr rt 0,lv,av]):=⟨_,rfl⟩
 have G0:Gr st S0:=by rw[hS0];exact Gr.new hw (Ja _)
 obtain⟨t2,r2⟩:∃t,S0.row p2= .cells t [.ptr rt 0,lv,av]:=⟨_,by rw[hS0,hp2];simp only[XZ,simprocAttr,hn0];rfl⟩
 have h30:∀i (h:i<es.length) (h':i<([A,B]).length),NdC (fun r=>¬W r) S0 es[i] ([A,B])[i]:=fun i a b=>(h3 i a b).imp fun r p e=>⟨p,G0.same r e⟩
 obtain⟨r,q,kv',a1,a2,a3,a4,a5,a6⟩:=JiQ (h1.gr G0) h2 h30 (i:=0) (by simp)
 have a1:iaddrSV 4 lv (.int .i64 0)=some (.ptr r q, .no):=a1
 simp only[List.getElem_cons_zero]at a4 a6
 simp only[JP,XY,simprocAttr]
 rw[Jc];simp only[XY,simprocAttr,hn0,c1,c2,c3,c4]
 rw[<-hS0,<-hp2]
 clear hS0
 rw[Jc];simp only[XY,simprocAttr,r2,a1,a4]
 have w0:=G0.wf
 obtain⟨n1,hn1⟩:∃n,S0.nx=up 0 n:=⟨_,up0 _⟩
 have o2:=fun k=>nes (Js w0 hn1 (Je r2) k)
 simp only[XZ,simprocAttr,r2,hn1,o2,List.cons.injEq,and_false,false_and,and_true,true_and,List.cons_ne_nil,reduceCtorEq]
 obtain⟨x0,hx0⟩:∃b,b=up 0 n1:=⟨_,rfl⟩
 obtain⟨S1,hS1⟩:∃S,S=(S0.new fun t=>Row.cells t [V.int IntKind.i64 2,V.int IntKind.i64 2]):=⟨_,rfl⟩
 have G1:Gr S0 S1:=by rw[hS1];exact Gr.new w0 (Ja _)
 obtain⟨t3,r3⟩:∃t,S1.row x0= .cells t [.int .i64 2, .int .i64 2]:=⟨_,by rw[hS1,hx0];simp only[XZ,simprocAttr,hn1];rfl⟩
 rw[<-hS1,<-hx0]
 clear hS1
 have hk:SlAt (fun _=>True) S1 (.slx x0 0 2 1 2) 1 (ints [2,2]):=SlAt.freshx (es:=ints [2,2]) (t:=t3) (by rw[r3];rfl) trivial (Y2 _)
 have G01:=G0.trans G1
 have r2:=G1.cells r2
 refine Jn (areC (JB G1.wf _) ((hask.gr G01).low _) (hk.low _) (by simp) (by simp)) ?_
 rintro _ S2 G2 rfl
 have G02:=G01.trans G2
 have r2:=G2.cells r2
 simp only[XZ,simprocAttr]
 refine QH (W:=W) G2.wf ((baseA 2 (areS [2,2] [A,B]) (Jka (hT.gr G02) (JB G2.wf _)) ((hask.gr G02).low _)).mono fun v S h=>⟨h.1,h.2⟩) ?_
 rintro _ S3 lo C3 ⟨W3,T3,K3,rfl⟩
 simp only[XZ,simprocAttr]
 exact Ans.gr G02 ⟨C3,W3,Jka T3 C3.wf,K3,rfl⟩
set_option maxHeartbeats 2000000 in
theorem lenB {W:Pt->Prop}{st:St}{rt:Pt}{tb:Tb}{e:List V}{A:Nd}{args:List Nat}(hT:TabX st W rt tb)(h:AskC (fun r=>¬W r) st rt e [A] args)(hA:A.kind=2):
  Does (tabT tabD) QL [.agg e,ofL [108,101,110]] st (Ans W st rt (tb,0,17)):=by
 refine Jv Yp rfl ?_
 obtain⟨n0,hn0⟩:∃n,st.nx=up 0 n:=⟨_,up0 _⟩
 have hask:=h
 obtain⟨lv,av,es,rfl,h1,h2,h3,h4⟩:=h
 have c1:=h1.cells
 have c2:=h1.sc
 have c3:=h4.cells
 have c4:=h4.sc
 have hw:=hT.1
 obtain⟨p2,hp2⟩:∃b,b=up 0 n0:=⟨_,rfl⟩
 obtain⟨S0,hS0⟩:∃S0,S0=(st.new fun t=> .cells t [.ptr rt 0,lv,av]):=⟨_,rfl⟩
 have G0:Gr st S0:=by rw[hS0];exact Gr.new hw (Ja _)
 obtain⟨t2,r2⟩:∃t,S0.row p2= .cells t [.ptr rt 0,lv,av]:=⟨_,by rw[hS0,hp2];simp only[XZ,simprocAttr,hn0];rfl⟩
 have h30:∀i (h:i<es.length) (h':i<([A]).length),NdC (fun r=>¬W r) S0 es[i] ([A])[i]:=fun i a b=>(h3 i a b).imp fun r p e=>⟨p,G0.same r e⟩
 obtain⟨r,q,kv',a1,a2,a3,a4,a5,a6⟩:=JiQ (h1.gr G0) h2 h30 (i:=0) (by simp)
 have a1:iaddrSV 4 lv (.int .i64 0)=some (.ptr r q, .no):=a1
 simp only[List.getElem_cons_zero,hA]at a4 a6
 simp only[JP,XY,simprocAttr]
 rw[Jc];simp only[XY,simprocAttr,hn0,c1,c2,c3,c4]
 rw[<-hS0,<-hp2]
 clear hS0
 rw[Jc];simp only[XY,simprocAttr,r2,a1,a4]
 have w0:=G0.wf
 obtain⟨n1,hn1⟩:∃n,S0.nx=up 0 n:=⟨_,up0 _⟩
 have o2:=fun k=>nes (Js w0 hn1 (Je r2) k)
 simp only[XZ,simprocAttr,r2,hn1,o2,List.cons.injEq,and_false,false_and,and_true,true_and,List.cons_ne_nil,reduceCtorEq]
 refine Jb (baseA 2 false (hT.gr G0) (hask.gr G0)) ?_
 rintro _ S3 ⟨C3,W3,T3,K3,rfl⟩
 simp only[XZ,simprocAttr]
 exact Ans.gr G0 ⟨C3,W3,T3,K3,rfl⟩
theorem openO {W:Pt->Prop}{st:St}{rt:Pt}{tb:Tb}{id o:Nat}(hT:TabX st W rt tb)(ho:openS tb (tb.nodes.length+1) id=(o,true)):
  Does (tabT tabD) Yo [.ptr rt 0, .int .i64 id] st fun v S=>v= .tup [.int .i64 (o:Nat), .bool true]/\st=S:=by
 obtain⟨hw,F,hT⟩:=hT
 have:=openC (id:=id) hw hT
 rw[ho]at this
 exact this
def Opened (tb:Tb)(args:List Nat)(nds:List Nd):Prop:=args.length=nds.length/\∀i (h:i<args.length) (h':i<nds.length),∃o,openS tb (tb.nodes.length+1) args[i]=(o,true)/\tb.nodes[o]? =some nds[i]
theorem Opened.nil (tb:Tb):Opened tb [] []:=⟨rfl,fun i h=>absurd h (by simp)⟩
theorem Opened.cons {tb:Tb}{a o:Nat}{n:Nd}{args:List Nat}{nds:List Nd}(h:Opened tb args nds)(ho:openS tb (tb.nodes.length+1) a=(o,true))(hn:tb.nodes[o]? =some n):Opened tb (a::args) (n::nds):=by
 obtain⟨h1,h2⟩:=h
 refine⟨by simp[h1],fun i hi hi'=> ?_⟩
 cases i with
 |zero=>exact⟨o,ho,hn⟩
 |succ i=>exact h2 i (by simpa using hi) (by simpa using hi')
set_option maxHeartbeats 4000000 in
theorem ofB {W:Pt->Prop}{st:St}{rt:Pt}{tb:Tb}{nm:Str}{av:V}{args:List Nat}{nds:List Nd}{x:Tb×Nat×Int}(hT:TabX st W rt tb)(hs:sigI tb nm=none)(hb:(identB nm&&Lib.contains YD (32::(nm++[32])))=true)
  (hmany:∀S,Does (tabT tabD) jv [ofL nm] S fun v S'=>v= .int .i64 (args.length:Nat)/\S=S') (hlen:args.length<=8) (hav:SlAt (fun r=>¬W r) st av 1 (ints args)) (hop:Opened tb args nds)
  (hB:∀(S:St) (e:List V),Gr st S->AskC (fun r=>¬W r) S rt e nds args->Does (tabT tabD) QL [.agg e,ofL nm] S (Ans W S rt x)):
  Does (tabT tabD) Jax [.ptr rt 0,ofL nm,av] st (Ans W st rt x):=by
 refine Jv jZ rfl ?_
 obtain⟨hnl,hopn⟩:=hop
 have len:=hav.len
 rw[Kq]at len
 have hl0:lenLV .snil=some (.int .i64 0, .no):=rfl
 simp only[QT,XY,simprocAttr]
 rw[Jc];simp only[XY,simprocAttr]
 rw[Jc];simp only[XY,simprocAttr]
 refine Jb (sigN nm hT hs) ?_
 rintro _ _ ⟨rfl,rfl⟩
 simp only[XY,simprocAttr]
 rw[Jc];simp only[XY,simprocAttr,hl0]
 rw[Jf];simp only[XY,simprocAttr]
 rw[Jc];simp only[XY,simprocAttr]
 refine Jb (kU nm st hT.1) ?_
 rintro _ S1 ⟨G1,rfl⟩
 rw[hb]
 simp only[XY,simprocAttr]
 refine Jb (hmany S1) ?_
 rintro _ _ ⟨rfl,rfl⟩
 simp only[XY,simprocAttr]
 rw[Jf,Jc];simp only[XY,simprocAttr,len]
 rw[Jf,Jc];simp only[XY,simprocAttr]
 refine Jb (kU nm S1 G1.wf) ?_
 rintro _ S2 ⟨G2,rfl⟩
 rw[hb]
 have G02:=G1.trans G2
 have hav2:=hav.gr G02
 have s1:=hav.sc
 have s2:=hav.cells
 obtain⟨n2,hn2⟩:∃n,S2.nx=up 0 n:=⟨_,up0 _⟩
 simp only[XY,simprocAttr]
 rw[Jc];simp only[XY,simprocAttr,hn2,s1,s2]
 obtain⟨b7,hb7⟩:∃b,b=up 0 n2:=⟨_,rfl⟩
 obtain⟨S3,hS3⟩:∃S,S=((S2.new fun t=> .cells t [.pnil, .snil, .snil]).wr (up 0 n2) S2.t fun u=> .cells u [.ptr rt 0, .snil,av]):=⟨_,rfl⟩
 have g3:Gr S2 S3:=by rw[hS3];exact(Gr.refl G02.wf).nw hn2 (Ja _) (Ja _)
 obtain⟨t7,r7⟩:∃t,S3.row b7= .cells t [.ptr rt 0, .snil,av]:=⟨_,by rw[hS3,hb7];simp only[XZ,simprocAttr,hn2];rfl⟩
 have e72:S2.row b7= .none:=by rw[hb7];exact nx0 G02.wf hn2 0
 rw[<-hS3,<-hb7]
 clear hS3
 have gs3:=G02.trans g3
 have e7:st.row b7= .none:=Ch.fresh (Ch.of (fun _=>False) G02) e72
 obtain⟨B,hB'⟩:∃B:Pt->Prop,∀r,B r<->(st.row r≠ .none\/r=b7):=⟨_,fun _=>Iff.rfl⟩
 have B7:B b7:=(hB' _).2 (.inr rfl)
 have B3:∀r,B r->S3.row r≠ .none:=fun r h=>by
  rcases(hB' _).1 h with h|h
  ·rw[gs3.same r h];exact h
  ·rw[h];exact Je r7
 refine JJ (fun fr S=>∃kv' t,fr 1=ofL nm/\fr 16= .ptr b7 0/\LsF NdC st S3 B 4 S kv' nds/\S.row b7= .cells t [.ptr rt 0,kv',av]) ?_ ?_
 ·rw[Jc];simp only[XY,simprocAttr,len]
  obtain⟨L,hL⟩:∃L:Nat->Fr->St->Prop,∀j fr S,L j fr S<->∃(i:Nat) (kv':V) (t:Nat),j+i=args.length/\fr 0= .ptr rt 0/\fr 1=ofL nm/\fr 16= .ptr b7 0/\fr 73=av/\fr 74= .int .i64 args.length/\fr 75= .int .i64 i/\LsF NdC st S3 B 4 S kv' (nds.take i)/\S.row b7= .cells t [.ptr rt 0,kv',av]:=⟨_,fun _ _ _=>Iff.rfl⟩
  refine Jq L args.length (by omega) ((hL _ _ _).2 ⟨0, .snil,t7,by omega,by simp only[XZ,simprocAttr],by simp only[XZ,simprocAttr],by simp only[XZ,simprocAttr],by simp only[XZ,simprocAttr],by simp only[XZ,simprocAttr],by simp only[XZ,simprocAttr]<;>rfl,LsF.nil gs3,r7⟩) ?_
  intro j fr S hLj
  obtain⟨i,kv',t,hj,f0,f1,f16,f73,f74,f75,hF,r7⟩:=(hL _ _ _).1 hLj
  by_cases hi:i<args.length
  rotate_left
  ·have hi':¬(i:Int)<args.length:=by omega
   simp only[XZ,simprocAttr,f74,f75,hi']
   rw[List.take_of_length_le (by omega)]at hF
   exact⟨kv',t,f1,f16,hF,r7⟩
  have hi':(i:Int)<args.length:=by omega
  have hin:i<nds.length:=by omega
  have hadd1:IntKind.i64.wrap ((i:Int)+1)=((i+1:Nat):Int):=by rw[Jp (by omega) (by omega)];rfl
  obtain⟨o,ho,hnd⟩:=hopn i hi hin
  obtain⟨hol,hne⟩:=List.getElem?_eq_some_iff.1 hnd
  obtain⟨ra,oa,o1,o2,o3,o4⟩:=SlAt.one (xs:=args.map fun n:Nat=>V.int .i64 (n:Int)) (i:=i) (hav.gr hF.g) (by simpa using hi)
  simp only[List.getElem_map]at o4
  have TS:=hT.gr hF.g
  rw[Jc];simp only[XY,simprocAttr,f74,f75,hi']
  rw[Jf];simp only[XY,simprocAttr]
  rw[Jf];simp only[XY,simprocAttr]
  rw[Jc];simp only[XY,simprocAttr,f73,f75,o1,o4]
  rw[Jc];simp only[XY,simprocAttr,f0]
  refine Jb (openO TS ho) ?_
  rintro _ _ ⟨rfl,rfl⟩
  simp only[XY,simprocAttr]
  rw[Jc];simp only[XY,simprocAttr,f0]
  obtain⟨_,FT,TT⟩:=TS
  refine Jb (nodeC (Q:=fun r=>S.row r= .none) hF.g.wf TT hol fun _ h=>h) ?_
  rintro _ Sa ⟨ga,e,rfl,nv,kv,rfl,x1,x2⟩
  rw[hne]at x1 x2⊢
  obtain⟨N,hN⟩:∃N,N=nds[i]:=⟨_,rfl⟩
  rw[<-hN]at x1 x2⊢
  have hNd:NdC (fun r=>S.row r= .none) Sa [.int .i64 N.kind,ofL N.name,nv,kv] N:=⟨nv,kv,rfl,x1,x2⟩
  have q1:=x1.cells
  have q2:=x1.sc
  have q3:=x2.cells
  have q4:=x2.sc
  obtain⟨nA,hnA⟩:∃n,Sa.nx=up 0 n:=⟨_,up0 _⟩
  simp only[XY,simprocAttr,hnA,q1,q2,q3,q4]
  obtain⟨pa,hpa⟩:∃b,b=up 0 nA:=⟨_,rfl⟩
  obtain⟨Sb,hSb⟩:∃Sb,Sb=((Sa.new fun t=> .cells t [.int .i64 0,ofL [], .snil, .snil]).wr (up 0 nA) Sa.t fun u=> .cells u [.int .i64 N.kind,ofL N.name,nv,kv]):=⟨_,rfl⟩
  have gb:Gr Sa Sb:=by rw[hSb];exact(Gr.refl ga.wf).nw hnA (Ja _) (Ja _)
  obtain⟨tb1,rb⟩:∃t,Sb.row pa= .cells t [.int .i64 N.kind,ofL N.name,nv,kv]:=⟨_,by rw[hSb,hpa];simp only[XZ,simprocAttr,hnA];rfl⟩
  rw[<-hSb,<-hpa]
  clear hSb
  have gab:=ga.trans gb
  have TB:TabX Sb W rt tb:=TabX.gr ⟨hF.g.wf,FT,TT⟩ gab
  rw[Jf,Jc];simp only[XY,simprocAttr,f0]
  refine Jb (openO TB ho) ?_
  rintro _ _ ⟨rfl,rfl⟩
  simp only[XY,simprocAttr]
  rw[Jc];simp only[XY,simprocAttr]
  have r7b:=gab.cells r7
  have wb:=gb.wf
  obtain⟨nB,hnB⟩:∃n,Sb.nx=up 0 n:=⟨_,up0 _⟩
  have ob:=fun k=>nes (Js wb hnB (Je r7b) k)
  simp only[XY,simprocAttr,f16,r7b,rb,hnB,ob,q1,q2,q3,q4]
  have Fb:=hF.gr (C:=NdC) NdC.imp gab
  have gn:Gr Sb (Sb.new fun t=> .cells t [.int .i64 N.kind,ofL N.name,nv,kv]):=Gr.new wb (Ja _)
  have Fg:=Fb.gr (C:=NdC) NdC.imp gn
  have hone:=YI (st:=Sb) (z:=4) (e:=[.int .i64 N.kind,ofL N.name,nv,kv]) rfl
  rw[hnB]at hone
  refine Jm6 (C:=NdC) NdC.imp Fg hone (by simp only[allSc,List.all_cons,List.all_nil,q2,q4];rfl) (hNd.imp fun r p e=>⟨⟨fun b=>hF.live r (B3 r b) p,fun e=>hF.alive e p⟩,(gb.trans gn).same r e⟩) B3 (by rw[List.length_take];omega) fun Sf vf Ff kp=> ?_
  rw[hN,<-List.take_succ_eq_append_getElem hin]at Ff
  have d5:=Ff.sc
  have rg:=gn.cells r7b
  have rf:=(kp b7 (Je rg) fun e=>B3 b7 B7 (hF.own _ e)).trans rg
  simp only[XZ,simprocAttr,f16,f75,rf,hadd1,Jk,d5.1,d5.2]
  exact⟨j-1,by omega,(hL _ _ _).2 ⟨i+1,vf,_,by omega,by simp only[XZ,simprocAttr,f0],by simp only[XZ,simprocAttr,f1],by simp only[XZ,simprocAttr,f16],by simp only[XZ,simprocAttr,f73],by simp only[XZ,simprocAttr,f74],by simp only[XZ,simprocAttr],Ff.wr (C:=NdC) NdC.imp B7 e7 (B3 _ B7) rf,Jl _ _ _ _⟩⟩
 rintro fr S4 ⟨kv',t,f1,f16,hF,r7⟩
 obtain⟨es,x1,x2,x3⟩:=hF.lst (C:=NdC) NdC.imp B3
 have hst:∀r,¬B r->st.row r= .none:=fun r n=>Classical.byContradiction fun e=>n ((hB' _).2 (.inl e))
 rw[Jc];simp only[XY,simprocAttr,f1,f16,r7]
 refine Jb (hB S4 _ hF.g ⟨kv',av,es,rfl,x1.imp fun r p e=>⟨hT.own (hst r p),rfl⟩,x2,fun i a b=>(x3 i a b).imp fun r p e=>⟨hT.own (hst r p),rfl⟩,hav.gr hF.g⟩) ?_
 rintro _ S5 ⟨C5,W5,T5,K5,rfl⟩
 simp only[XZ,simprocAttr]
 exact Ans.gr hF.g ⟨C5,W5,T5,K5,rfl⟩
def isB (nm:Str):Bool:=identB nm&&Lib.contains YD (32::(nm++[32]))
theorem leG {W:Pt->Prop}{st:St}{rt:Pt}{tb:Tb}{a b:Nat}{is:Bool}(hT:TabX st W rt tb)(ha:a<tb.nodes.length)(hb:b<tb.nodes.length)(hr:∃f V,fitsS tb f [] a b=some (is,V)):
  Does (tabT tabD) Jib [.ptr rt 0, .int .i64 a, .int .i64 b] st fun v S=>Gr st S/\∃n,v= .tup [.bool is, .int .i64 n]:=by
 obtain⟨f,V,hr⟩:=hr
 obtain⟨hw,F,hT⟩:=hT
 refine(leC hw hT ha hb hr).mono ?_
 rintro v S ⟨g,rfl⟩
 exact⟨g,_,rfl⟩
theorem ofN {W:Pt->Prop}{st:St}{rt:Pt}{tb:Tb}{nm:Str}{av:V}(hT:TabX st W rt tb)(hs:sigI tb nm=none)(hb:isB nm=false):
  Does (tabT tabD) Jax [.ptr rt 0,ofL nm,av] st fun v S=>v= .tup [.int .i64 0, .int .i64 15]:=by
 refine Jv jZ rfl ?_
 have hl0:lenLV .snil=some (.int .i64 0, .no):=rfl
 unfold isB at hb
 simp only[QT,XY,simprocAttr]
 rw[Jc];simp only[XY,simprocAttr]
 rw[Jc];simp only[XY,simprocAttr]
 refine Jb (sigN nm hT hs) ?_
 rintro _ _ ⟨rfl,rfl⟩
 simp only[XY,simprocAttr]
 rw[Jc];simp only[XY,simprocAttr,hl0]
 rw[Jf];simp only[XY,simprocAttr]
 rw[Jc];simp only[XY,simprocAttr]
 refine Jb (kU nm st hT.1) ?_
 rintro _ S1 ⟨G1,rfl⟩
 rw[hb]
 simp only[XZ,simprocAttr]
set_option maxHeartbeats 2000000 in
theorem ofF {W:Pt->Prop}{st:St}{rt:Pt}{tb:Tb}{nm:Str}{av:V}{args ids:List Nat}{m:Nat}{b:Nat->Bool}(hT:TabX st W rt tb)(hs:sigI tb nm=some ids)(hm:ids.length=m+1)(hm8:m<=100)(hb:isB nm=false)(hav:SlAt (fun r=>¬W r) st av 1 (ints args))(hal:args.length<=100)
  (hle:args.length=m->∀i (h:i<args.length) (h':i<ids.length),args[i]<tb.nodes.length/\ids[i]<tb.nodes.length/\∃f V,fitsS tb f [] args[i] ids[i]=some (b i,V)):
  Does (tabT tabD) Jax [.ptr rt 0,ofL nm,av] st fun v S=>Gr st S/\((args.length≠m/\v= .tup [.int .i64 0, .int .i64 18])\/(args.length=m/\(∀i,i<m->b i=true)/\v= .tup [.int .i64 (ids.getD m 0:Nat), .int .i64 0])\/(args.length=m/\(∃i,i<m/\b i=false)/\v= .tup [.int .i64 0, .int .i64 17])):=by
 refine Jw tabM jZ rfl hT.1 fun K fin=> ?_
 have len:=hav.len
 rw[Kq]at len
 unfold isB at hb
 simp only[QT,XY,simprocAttr]
 rw[Jc];simp only[XY,simprocAttr]
 rw[Jc];simp only[XY,simprocAttr]
 refine Jb (sigX nm hT hs hm hm8) ?_
 rintro _ S1 ⟨G1,pv,rfl,hpv⟩
 have plen:=hpv.len
 rw[Kq,List.length_take,Nat.min_eq_left (by omega)]at plen
 simp only[XY,simprocAttr]
 rw[Jc];simp only[XY,simprocAttr,plen]
 rw[Jf];simp only[XY,simprocAttr]
 rw[Jc];simp only[XY,simprocAttr]
 refine Jb (kU nm S1 G1.wf) ?_
 rintro _ S2 ⟨G2,rfl⟩
 rw[hb]
 have G02:=G1.trans G2
 by_cases hn:args.length=m
 rotate_left
 ·have hn':¬(args.length:Int)=(m:Int):=by omega
  simp only[XZ,simprocAttr,len,hn']
  exact fin _ _ (fun r e=>G02.same r e) fun _=> .inl ⟨hn,rfl⟩
 have hn':(args.length:Int)=(m:Int):=by omega
 simp only[XY,simprocAttr]
 rw[Jc];simp only[XY,simprocAttr]
 rw[Jf,Jc];simp only[XY,simprocAttr,len,hn']
 rw[Jf,Jc];simp only[XY,simprocAttr]
 refine Jb (kU nm S2 G02.wf) ?_
 rintro _ S3 ⟨G3,rfl⟩
 rw[hb]
 have G03:=G02.trans G3
 simp only[XY,simprocAttr]
 rw[Jf,Jc];simp only[XY,simprocAttr,plen]
 obtain⟨L,hL⟩:∃L:Nat->Fr->St->Prop,∀j fr S,L j fr S<->∃(i:Nat),j+i=m/\fr 0= .ptr rt 0/\fr 2=av/\fr 9= .int .i64 (ids.getD m 0:Nat)/\fr 49=pv/\fr 50= .int .i64 m/\fr 51= .int .i64 i/\Gr S3 S/\∀q,q<i->b q=true:=⟨_,fun _ _ _=>Iff.rfl⟩
 refine Jq L m (by omega) ((hL _ _ _).2 ⟨0,by omega,by simp only[XZ,simprocAttr],by simp only[XZ,simprocAttr],by simp only[XZ,simprocAttr];simp[List.getD_eq_getElem?_getD,hm],by simp only[XZ,simprocAttr],by simp only[XZ,simprocAttr],by simp only[XZ,simprocAttr]<;>rfl,Gr.refl G03.wf,fun q h=>absurd h (Nat.not_lt_zero _)⟩) ?_
 intro j fr S hLj
 obtain⟨i,hj,f0,f2,f9,f49,f50,f51,g,hok⟩:=(hL _ _ _).1 hLj
 have GS:=G03.trans g
 by_cases hi:i<m
 ·have hi':(i:Int)<m:=by omega
  have hadd1:IntKind.i64.wrap ((i:Int)+1)=((i+1:Nat):Int):=by rw[Jp (by omega) (by omega)];rfl
  obtain⟨h1,h2,h3⟩:=hle hn i (by omega) (by omega)
  obtain⟨q1,o1,a1,_,_,a2⟩:=SlAt.one (xs:=(ids.take m).map fun n:Nat=>V.int .i64 (n:Int)) (i:=i) ((hpv.gr (G2.trans G3)).gr g) (by simp;omega)
  obtain⟨q2,o2,c1,_,_,c2⟩:=SlAt.one (xs:=args.map fun n:Nat=>V.int .i64 (n:Int)) (i:=i) (hav.gr GS) (by simp;omega)
  simp only[List.getElem_map,List.getElem_take]at a2 c2
  simp only[XZ,simprocAttr,f0,f2,f49,f50,f51,hi',a1,a2,c1,c2]
  refine Jb (leG (hT.gr GS) h1 h2 h3) ?_
  rintro _ S4 ⟨g4,n4,rfl⟩
  cases hbi:b i with
  | true=>
    simp only[XZ,simprocAttr,f51,hadd1]
    exact⟨m-(i+1),by omega,(hL _ _ _).2 ⟨i+1,by omega,by simp only[XZ,simprocAttr,f0],by simp only[XZ,simprocAttr,f2],by simp only[XZ,simprocAttr,f9],by simp only[XZ,simprocAttr,f49],by simp only[XZ,simprocAttr,f50],by simp only[XZ,simprocAttr],g.trans g4,fun q h=>by
     by_cases e:q=i
     ·rw[e];exact hbi
     ·exact hok q (by omega)⟩⟩
  | false=>
    simp only[XZ,simprocAttr]
    exact fin _ _ (fun r e=>(GS.trans g4).same r e) fun _=> .inr (.inr ⟨hn,⟨i,hi,hbi⟩,rfl⟩)
 ·have hi':¬(i:Int)<m:=by omega
  simp only[XZ,simprocAttr,f9,f50,f51,hi']
  exact fin _ _ (fun r e=>GS.same r e) fun _=> .inr (.inl ⟨hn,fun q h=>hok q (by omega),rfl⟩)
theorem many1 (nm:Str)(h:nm=[108,101,110]\/nm=[104,97,115])(S:St):Does (tabT tabD) jv [ofL nm] S fun v S'=>v= .int .i64 ((1:Nat):Int)/\S=S':=by
 refine Jv qZ rfl ?_
 rcases h with rfl|rfl
 all_goals simp only[QK,XZ,simprocAttr,List.cons.injEq,and_false,false_and,and_true,true_and,List.cons_ne_nil,reduceCtorEq]<;>rfl
theorem many2 (nm:Str)(h:nm=[97,100,100]\/nm=[103,101,116]\/nm=[111,114,101,108,115,101])(S:St):Does (tabT tabD) jv [ofL nm] S fun v S'=>v= .int .i64 ((2:Nat):Int)/\S=S':=by
 refine Jv qZ rfl ?_
 rcases h with rfl|rfl|rfl
 all_goals simp only[QK,XZ,simprocAttr,List.cons.injEq,and_false,false_and,and_true,true_and,List.cons_ne_nil,reduceCtorEq]<;>rfl
def knY :Tb:=⟨[⟨2,[],[],[]⟩],[],0,[]⟩
theorem Jnj :newS ⟨.mk 2 [] [] [],[],[]⟩=(some knY,0):=by kernel_rfl
theorem known8 (st:St)(hw:WF st):Does (tabT tabD) Jbn [] st fun v S=>Gr st S/\v= .bool true:=by
 refine Jw tabM Jau rfl hw fun K fin=> ?_
 simp only[KJ,XY,simprocAttr]
 rw[Jc];simp only[XY,simprocAttr]
 rw[Jc];simp only[XY,simprocAttr]
 refine Jb (newX1 hw (JmZ (fun _=>True) st 2)) ?_
 rintro v S1 ⟨G1,hp⟩
 rw[Jnj]at hp
 obtain⟨rt,W,rfl,T1,K1⟩:=hp
 simp only[XY,simprocAttr]
 rw[Jf,Jc];simp only[XY,simprocAttr,Jmb]
 obtain⟨n1,hn1⟩:∃n,S1.nx=up 0 n:=⟨_,up0 _⟩
 rw[Jc];simp only[XY,simprocAttr,hn1]
 obtain⟨S2,hS2⟩:∃S,S=(S1.new fun t=>Row.cells t [V.int IntKind.i64 0]):=⟨_,rfl⟩
 have G2:Gr S1 S2:=by rw[hS2];exact Gr.new G1.wf (Ja _)
 obtain⟨t2,r2⟩:∃t,S2.row (up 0 n1)= .cells t [.int .i64 0]:=⟨_,by rw[hS2];simp only[XZ,simprocAttr,hn1];rfl⟩
 have x1:S1.row (up 0 n1)= .none:=nx0 G1.wf hn1 0
 rw[<-hS2]
 clear hS2
 have op1:Opened knY [0] [⟨2,[],[],[]⟩]:=(Opened.nil knY).cons (o:=0) rfl rfl
 have op2:Opened knY [0,0] [⟨2,[],[],[]⟩,⟨2,[],[],[]⟩]:=op1.cons (o:=0) rfl rfl
 have sl2:SlAt (fun r=>¬W r) S2 (.slx (up 0 n1) 0 1 1 1) 1 (ints [0]):=SlAt.freshx (es:=ints [0]) (t:=t2) (by rw[r2];rfl) (T1.own x1) (Y2 _)
 refine Jb (ofB (nm:=[108,101,110]) (args:=[0]) (x:=(knY,0,17)) (T1.gr G2) rfl (by decide+kernel) (many1 _ (.inl rfl)) (by decide) sl2 op1 fun S e g h=>lenB (T1.gr (G2.trans g)) h rfl) ?_
 rintro _ S3 a3
 obtain⟨W3,T3,K3,rfl⟩:=a3.kept
 have C3:=a3.1
 simp only[XY,simprocAttr]
 obtain⟨n3,hn3⟩:∃n,S3.nx=up 0 n:=⟨_,up0 _⟩
 rw[Jc];simp only[XY,simprocAttr,hn3]
 obtain⟨S4,hS4⟩:∃S,S=(S3.new fun t=>Row.cells t [V.int IntKind.i64 0,V.int IntKind.i64 0]):=⟨_,rfl⟩
 have G4:Gr S3 S4:=by rw[hS4];exact Gr.new T3.1 (Ja _)
 obtain⟨t4,r4⟩:∃t,S4.row (up 0 n3)= .cells t [.int .i64 0, .int .i64 0]:=⟨_,by rw[hS4];simp only[XZ,simprocAttr,hn3];rfl⟩
 have x3:S3.row (up 0 n3)= .none:=nx0 T3.1 hn3 0
 rw[<-hS4]
 clear hS4
 have sl4:SlAt (fun r=>¬W3 r) S4 (.slx (up 0 n3) 0 2 1 2) 1 (ints [0,0]):=SlAt.freshx (es:=ints [0,0]) (t:=t4) (by rw[r4];rfl) (T3.own x3) (Y2 _)
 have hadd:baseR knY 2 (areS [2,2] [⟨2,[],[],[]⟩,⟨2,[],[],[]⟩])=(knY,0,0):=rfl
 refine Jb (ofB (nm:=[97,100,100]) (args:=[0,0]) (x:=(knY,0,0)) (T3.gr G4) rfl (by decide+kernel) (many2 _ (.inl rfl)) (by decide) sl4 op2 fun S e g h=>by rw[<-hadd];exact addB (T3.gr (G4.trans g)) h) ?_
 rintro _ S5 a5
 obtain⟨W5,T5,K5,rfl⟩:=a5.kept
 simp only[XZ,simprocAttr]
 have hold:∀r,st.row r≠ .none->S5.row r=st.row r:=fun r e=>by
  obtain⟨k1,k2⟩:=K1 r e fun h=>h
  have e2:S2.row r≠ .none:=by rw[G2.same r (by rw[k1];exact e),k1];exact e
  obtain⟨k3,k4⟩:=K3 r e2 k2
  have e4:S4.row r=S2.row r:=by rw[G4.same r (by rw[k3];exact e2),k3]
  obtain⟨k5,_⟩:=K5 r (by rw[e4];exact e2) k4
  rw[k5,e4,G2.same r (by rw[k1];exact e),k1]
 exact fin _ _ hold fun _=>by simp
theorem rdigitC (x:Nat)(hx:x<256)(st:St):Does (tabT tabD) JbB [.int .u8 x] st fun v st'=>v= .bool (digB x)/\st=st':=by
 refine Jv JaJ rfl ?_
 by_cases h1:(48:Int)<=(x:Int)
 ·by_cases h2:(x:Int)<=57
  ·simp only[JX,XZ,simprocAttr,h1,h2]
   rw[digB,decide_eq_true (by omega),decide_eq_true (by omega)];rfl
  ·simp only[JX,XZ,simprocAttr,h1,h2]
   rw[digB,decide_eq_true (by omega),decide_eq_false (by omega)];rfl
 ·simp only[JX,XZ,simprocAttr,h1]
  rw[digB,decide_eq_false (by omega)];rfl
theorem Jh7 (x:Nat)(hx:x<256)(st:St):Does (tabT tabD) JaI [.int .u8 x] st fun v st'=>v= .bool (letB x)/\st=st':=by
 refine Jv qP rfl ?_
 rw[<-Jm4 hx]
 unfold letR
 by_cases h1:(97:Int)<=(x:Int)
 ·rw[decide_eq_true (show 97<=x by omega)]
  by_cases h2:(x:Int)<=122
  ·rw[decide_eq_true (show x<=122 by omega)]
   simp only[JF,XZ,simprocAttr,h1,h2]
   rfl
  ·rw[decide_eq_false (show¬x<=122 by omega),decide_eq_true (show 65<=x by omega),decide_eq_false (show¬x<=90 by omega),decide_eq_false (show¬x=95 by omega)]
   have h3:(65:Int)<=(x:Int):=by omega
   have h4:¬(x:Int)<=90:=by omega
   have h5:¬(x:Int)=95:=by omega
   simp only[JF,XZ,simprocAttr,h1,h2,h3,h4,h5]
   rfl
 ·rw[decide_eq_false (show¬97<=x by omega)]
  by_cases h3:(65:Int)<=(x:Int)
  ·rw[decide_eq_true (show 65<=x by omega)]
   by_cases h4:(x:Int)<=90
   ·rw[decide_eq_true (show x<=90 by omega)]
    simp only[JF,XZ,simprocAttr,h1,h3,h4]
    rfl
   ·rw[decide_eq_false (show¬x<=90 by omega)]
    by_cases h5:(x:Int)=95
    ·rw[decide_eq_true (show x=95 by omega)]
     simp only[JF,XZ,simprocAttr,h1,h3,h4,h5]
     rfl
    ·rw[decide_eq_false (show¬x=95 by omega)]
     simp only[JF,XZ,simprocAttr,h1,h3,h4,h5]
     rfl
  ·rw[decide_eq_false (show¬65<=x by omega),decide_eq_false (show¬x=95 by omega)]
   have h5:¬(x:Int)=95:=by omega
   simp only[JF,XZ,simprocAttr,h1,h3,h5]
   rfl
theorem ridentC (l:List UInt8)(st:St):Does (tabT tabD) Jbt [ofL l] st fun v st'=>v= .bool (identB l)/\st=st':=by
 refine Jv JaD rfl ?_
 cases l with
 | nil=>
   simp only[JW,XZ,simprocAttr,Int.natCast_zero]
   rfl
 | cons c r=>
   obtain⟨l,hle⟩:∃l,l=c::r:=⟨_,rfl⟩
   have hid:=Jm5 c r
   rw[<-hle]at hid⊢
   have hne:¬(l.length:Int)=0:=by rw[hle];simp only[List.length_cons];omega
   have hb:byteAt l 0=c.toNat:=by rw[hle];exact Y0 (l:=c::r) (i:=0) (by simp)
   have h0:(0:Int)<(l.length:Int):=by omega
   by_cases h16:16<l.length
   ·have h16':(16:Int)<(l.length:Int):=by omega
    simp only[JW,XZ,simprocAttr,hne,h16']
    rw[hid,decide_eq_false (by omega)];rfl
   have h16':¬(16:Int)<(l.length:Int):=by omega
   rw[decide_eq_true (by omega)]at hid
   have hid:identB l=(letB c.toNat&&okAll l):=hid
   simp only[JW,XY,simprocAttr]
   rw[Jc];simp only[XY,simprocAttr]
   rw[Jf,Jc];simp only[XY,simprocAttr,hne,h16',h0,hb]
   refine Jb (Jh7 c.toNat (UInt8.toNat_lt _) _) ?_
   rintro _ _ ⟨rfl,rfl⟩
   cases hl:letB c.toNat with
   | false=>
     rw[hl]at hid
     simp only[XZ,simprocAttr]
     rw[hid];rfl
   | true=>
     rw[hl]at hid
     have hid:identB l=okAll l:=hid
     simp only[XY,simprocAttr]
     rw[Jf,Jc];simp only[XY,simprocAttr]
     obtain⟨I,hI⟩:∃I:Nat->Fr->St->Prop,∀j fr S,I j fr S<->∃(i:Nat),j+i=l.length/\fr 0=ofL l/\fr 3= .int .i64 i/\st=S/\okAll l=okAll (l.drop i):=⟨_,fun _ _ _=>Iff.rfl⟩
     refine Jq I l.length (by omega) ((hI _ _ _).2 ⟨0,by omega,by simp only[XZ,simprocAttr],by simp only[XZ,simprocAttr]<;>rfl,rfl,rfl⟩) ?_
     intro j fr S hIj
     obtain⟨i,hj,f0,f3,rfl,hrec⟩:=(hI _ _ _).1 hIj
     by_cases hi:i<l.length
     ·have hi':(i:Int)<l.length:=by omega
      have hi0:(0:Int)<=(i:Int):=by omega
      have hb:=Y0 (l:=l) (i:=i) hi
      have hadd1:IntKind.i64.wrap ((i:Int)+1)=((i+1:Nat):Int):=by rw[Jp (by omega) (by omega)];rfl
      have hd:okAll l=(okB l[i].toNat&&okAll (l.drop (i+1))):=by rw[hrec,List.drop_eq_getElem_cons hi];rfl
      simp only[XZ,simprocAttr,f0,f3,hi',hi0,hb]
      refine Jb (Jh7 l[i].toNat (UInt8.toNat_lt _) _) ?_
      rintro _ _ ⟨rfl,rfl⟩
      cases hlt:letB l[i].toNat with
      | true=>
        have hok:okB l[i].toNat=true:=by unfold okB;rw[hlt];rfl
        simp only[XZ,simprocAttr,f3,hadd1]
        exact⟨l.length-(i+1),by omega,(hI _ _ _).2 ⟨i+1,by omega,by simp only[XZ,simprocAttr,f0],by simp only[XZ,simprocAttr],rfl,by rw[hd,hok];rfl⟩⟩
      | false=>
        simp only[XZ,simprocAttr,f0,f3,hi',hi0,hb]
        refine Jb (rdigitC l[i].toNat (UInt8.toNat_lt _) _) ?_
        rintro _ _ ⟨rfl,rfl⟩
        have hok:okB l[i].toNat=digB l[i].toNat:=by unfold okB;rw[hlt];rfl
        cases hdg:digB l[i].toNat with
        | true=>
          simp only[XZ,simprocAttr,f3,hadd1]
          exact⟨l.length-(i+1),by omega,(hI _ _ _).2 ⟨i+1,by omega,by simp only[XZ,simprocAttr,f0],by simp only[XZ,simprocAttr],rfl,by rw[hd,hok,hdg];rfl⟩⟩
        | false=>
          simp only[XZ,simprocAttr]
          rw[hid,hd,hok,hdg];rfl
     ·have hi':¬(i:Int)<l.length:=by omega
      simp only[XZ,simprocAttr,f0,f3,hi']
      rw[hid,hrec,List.drop_eq_nil_of_le (by omega)];rfl
theorem rwordC (l:List UInt8)(st:St):Does (tabT tabD) Jcb [ofL l] st fun v st'=>v= .bool (wordL.contains l)/\st=st':=by
 refine Jv Jbu rfl ?_
 by_cases n0:l=[66,111,111,108]
 ·have h0:(l=[66,111,111,108])=True:=eq_true n0
  simp only[JC,XZ,simprocAttr,h0]
  rw[n0];rfl
 have h0:(l=[66,111,111,108])=False:=eq_false n0
 by_cases n1:l=[73,110,116]
 ·have h1:(l=[73,110,116])=True:=eq_true n1
  simp only[JC,XZ,simprocAttr,h0,h1]
  rw[n1];rfl
 have h1:(l=[73,110,116])=False:=eq_false n1
 by_cases n2:l=[84,101,120,116]
 ·have h2:(l=[84,101,120,116])=True:=eq_true n2
  simp only[JC,XZ,simprocAttr,h0,h1,h2]
  rw[n2];rfl
 have h2:(l=[84,101,120,116])=False:=eq_false n2
 by_cases n3:l=[76,105,115,116]
 ·have h3:(l=[76,105,115,116])=True:=eq_true n3
  simp only[JC,XZ,simprocAttr,h0,h1,h2,h3]
  rw[n3];rfl
 have h3:(l=[76,105,115,116])=False:=eq_false n3
 by_cases n4:l=[77,97,112]
 ·have h4:(l=[77,97,112])=True:=eq_true n4
  simp only[JC,XZ,simprocAttr,h0,h1,h2,h3,h4]
  rw[n4];rfl
 have h4:(l=[77,97,112])=False:=eq_false n4
 by_cases n5:l=[79,112,116]
 ·have h5:(l=[79,112,116])=True:=eq_true n5
  simp only[JC,XZ,simprocAttr,h0,h1,h2,h3,h4,h5]
  rw[n5];rfl
 have h5:(l=[79,112,116])=False:=eq_false n5
 by_cases n6:l=[85,110,105,111,110]
 ·have h6:(l=[85,110,105,111,110])=True:=eq_true n6
  simp only[JC,XZ,simprocAttr,h0,h1,h2,h3,h4,h5,h6]
  rw[n6];rfl
 have h6:(l=[85,110,105,111,110])=False:=eq_false n6
 simp only[JC,XZ,simprocAttr,h0,h1,h2,h3,h4,h5,h6]
 have:wordL.contains l=false:=by
  cases hc:wordL.contains l with
  |false=>rfl
  | true=>
    have:=List.contains_iff_mem.1 hc
    simp only[wordL,List.mem_cons,List.not_mem_nil,or_false,h0,h1,h2,h3,h4,h5,h6]at this
 rw[this]
set_option maxHeartbeats 4000000 in
theorem JkG (l:List UInt8)(st:St):Does (tabT tabD) qL [ofL l] st fun v st'=>v= .bool (builtL.contains l)/\st=st':=by
 refine Jv qi rfl ?_
 by_cases n0:l=[108,101,110]
 ·have h0:(l=[108,101,110])=True:=eq_true n0
  simp only[Jj,XZ,simprocAttr,h0]
  rw[n0];rfl
 have h0:(l=[108,101,110])=False:=eq_false n0
 by_cases n1:l=[110,111,116]
 ·have h1:(l=[110,111,116])=True:=eq_true n1
  simp only[Jj,XZ,simprocAttr,h0,h1]
  rw[n1];rfl
 have h1:(l=[110,111,116])=False:=eq_false n1
 by_cases n2:l=[97,110,100]
 ·have h2:(l=[97,110,100])=True:=eq_true n2
  simp only[Jj,XZ,simprocAttr,h0,h1,h2]
  rw[n2];rfl
 have h2:(l=[97,110,100])=False:=eq_false n2
 by_cases n3:l=[111,114]
 ·have h3:(l=[111,114])=True:=eq_true n3
  simp only[Jj,XZ,simprocAttr,h0,h1,h2,h3]
  rw[n3];rfl
 have h3:(l=[111,114])=False:=eq_false n3
 by_cases n4:l=[101,113]
 ·have h4:(l=[101,113])=True:=eq_true n4
  simp only[Jj,XZ,simprocAttr,h0,h1,h2,h3,h4]
  rw[n4];rfl
 have h4:(l=[101,113])=False:=eq_false n4
 by_cases n5:l=[108,116]
 ·have h5:(l=[108,116])=True:=eq_true n5
  simp only[Jj,XZ,simprocAttr,h0,h1,h2,h3,h4,h5]
  rw[n5];rfl
 have h5:(l=[108,116])=False:=eq_false n5
 by_cases n6:l=[97,100,100]
 ·have h6:(l=[97,100,100])=True:=eq_true n6
  simp only[Jj,XZ,simprocAttr,h0,h1,h2,h3,h4,h5,h6]
  rw[n6];rfl
 have h6:(l=[97,100,100])=False:=eq_false n6
 by_cases n7:l=[115,117,98]
 ·have h7:(l=[115,117,98])=True:=eq_true n7
  simp only[Jj,XZ,simprocAttr,h0,h1,h2,h3,h4,h5,h6,h7]
  rw[n7];rfl
 have h7:(l=[115,117,98])=False:=eq_false n7
 by_cases n8:l=[109,117,108]
 ·have h8:(l=[109,117,108])=True:=eq_true n8
  simp only[Jj,XZ,simprocAttr,h0,h1,h2,h3,h4,h5,h6,h7,h8]
  rw[n8];rfl
 have h8:(l=[109,117,108])=False:=eq_false n8
 by_cases n9:l=[115,104,108]
 ·have h9:(l=[115,104,108])=True:=eq_true n9
  simp only[Jj,XZ,simprocAttr,h0,h1,h2,h3,h4,h5,h6,h7,h8,h9]
  rw[n9];rfl
 have h9:(l=[115,104,108])=False:=eq_false n9
 by_cases n10:l=[115,104,114]
 ·have h10:(l=[115,104,114])=True:=eq_true n10
  simp only[Jj,XZ,simprocAttr,h0,h1,h2,h3,h4,h5,h6,h7,h8,h9,h10]
  rw[n10];rfl
 have h10:(l=[115,104,114])=False:=eq_false n10
 by_cases n11:l=[105,56]
 ·have h11:(l=[105,56])=True:=eq_true n11
  simp only[Jj,XZ,simprocAttr,h0,h1,h2,h3,h4,h5,h6,h7,h8,h9,h10,h11]
  rw[n11];rfl
 have h11:(l=[105,56])=False:=eq_false n11
 by_cases n12:l=[105,49,54]
 ·have h12:(l=[105,49,54])=True:=eq_true n12
  simp only[Jj,XZ,simprocAttr,h0,h1,h2,h3,h4,h5,h6,h7,h8,h9,h10,h11,h12]
  rw[n12];rfl
 have h12:(l=[105,49,54])=False:=eq_false n12
 by_cases n13:l=[105,51,50]
 ·have h13:(l=[105,51,50])=True:=eq_true n13
  simp only[Jj,XZ,simprocAttr,h0,h1,h2,h3,h4,h5,h6,h7,h8,h9,h10,h11,h12,h13]
  rw[n13];rfl
 have h13:(l=[105,51,50])=False:=eq_false n13
 by_cases n14:l=[117,56]
 ·have h14:(l=[117,56])=True:=eq_true n14
  simp only[Jj,XZ,simprocAttr,h0,h1,h2,h3,h4,h5,h6,h7,h8,h9,h10,h11,h12,h13,h14]
  rw[n14];rfl
 have h14:(l=[117,56])=False:=eq_false n14
 by_cases n15:l=[117,49,54]
 ·have h15:(l=[117,49,54])=True:=eq_true n15
  simp only[Jj,XZ,simprocAttr,h0,h1,h2,h3,h4,h5,h6,h7,h8,h9,h10,h11,h12,h13,h14,h15]
  rw[n15];rfl
 have h15:(l=[117,49,54])=False:=eq_false n15
 by_cases n16:l=[117,51,50]
 ·have h16:(l=[117,51,50])=True:=eq_true n16
  simp only[Jj,XZ,simprocAttr,h0,h1,h2,h3,h4,h5,h6,h7,h8,h9,h10,h11,h12,h13,h14,h15,h16]
  rw[n16];rfl
 have h16:(l=[117,51,50])=False:=eq_false n16
 by_cases n17:l=[99,97,116]
 ·have h17:(l=[99,97,116])=True:=eq_true n17
  simp only[Jj,XZ,simprocAttr,h0,h1,h2,h3,h4,h5,h6,h7,h8,h9,h10,h11,h12,h13,h14,h15,h16,h17]
  rw[n17];rfl
 have h17:(l=[99,97,116])=False:=eq_false n17
 by_cases n18:l=[116,101,120,116]
 ·have h18:(l=[116,101,120,116])=True:=eq_true n18
  simp only[Jj,XZ,simprocAttr,h0,h1,h2,h3,h4,h5,h6,h7,h8,h9,h10,h11,h12,h13,h14,h15,h16,h17,h18]
  rw[n18];rfl
 have h18:(l=[116,101,120,116])=False:=eq_false n18
 by_cases n19:l=[97,116]
 ·have h19:(l=[97,116])=True:=eq_true n19
  simp only[Jj,XZ,simprocAttr,h0,h1,h2,h3,h4,h5,h6,h7,h8,h9,h10,h11,h12,h13,h14,h15,h16,h17,h18,h19]
  rw[n19];rfl
 have h19:(l=[97,116])=False:=eq_false n19
 by_cases n20:l=[103,101,116]
 ·have h20:(l=[103,101,116])=True:=eq_true n20
  simp only[Jj,XZ,simprocAttr,h0,h1,h2,h3,h4,h5,h6,h7,h8,h9,h10,h11,h12,h13,h14,h15,h16,h17,h18,h19,h20]
  rw[n20];rfl
 have h20:(l=[103,101,116])=False:=eq_false n20
 by_cases n21:l=[104,97,115]
 ·have h21:(l=[104,97,115])=True:=eq_true n21
  simp only[Jj,XZ,simprocAttr,h0,h1,h2,h3,h4,h5,h6,h7,h8,h9,h10,h11,h12,h13,h14,h15,h16,h17,h18,h19,h20,h21]
  rw[n21];rfl
 have h21:(l=[104,97,115])=False:=eq_false n21
 by_cases n22:l=[111,114,101,108,115,101]
 ·have h22:(l=[111,114,101,108,115,101])=True:=eq_true n22
  simp only[Jj,XZ,simprocAttr,h0,h1,h2,h3,h4,h5,h6,h7,h8,h9,h10,h11,h12,h13,h14,h15,h16,h17,h18,h19,h20,h21,h22]
  rw[n22];rfl
 have h22:(l=[111,114,101,108,115,101])=False:=eq_false n22
 simp only[Jj,XZ,simprocAttr,h0,h1,h2,h3,h4,h5,h6,h7,h8,h9,h10,h11,h12,h13,h14,h15,h16,h17,h18,h19,h20,h21,h22]
 have:builtL.contains l=false:=by
  cases hc:builtL.contains l with
  |false=>rfl
  | true=>
    have:=List.contains_iff_mem.1 hc
    simp only[builtL,List.mem_cons,List.not_mem_nil,or_false,h0,h1,h2,h3,h4,h5,h6,h7,h8,h9,h10,h11,h12,h13,h14,h15,h16,h17,h18,h19,h20,h21,h22]at this
 rw[this]
set_option maxHeartbeats 4000000 in
theorem rdefC {P:Pt->Prop}{st:St}{e:List V}{s:Sch}(n:Str)(hw:WF st)(h:SchC P st e s)(hl:s.types.length<=1000):
  Does (tabT tabD) Jc2 [.agg e,ofL n] st fun v S=>Gr st S/\∃E,v= .tup [.agg E, .bool (hasN s.types n)]/\TyC P st E ((defN s.types n).getD zeroTy):=by
 refine Jw tabM Jck rfl hw fun K fin=> ?_
 obtain⟨n0,hn0⟩:∃n,st.nx=up 0 n:=⟨_,up0 _⟩
 obtain⟨c,tv,sv,rfl,h1,h2,h3⟩:=h
 obtain⟨l,hll⟩:∃l,l=s.types:=⟨_,rfl⟩
 rw[<-hll]at h2 hl fin
 obtain⟨nv,kv,es,rfl,x1,x2,x3,x4⟩:=h1.inv
 have l1:=h2.len
 have cs1:=x1.cells
 have cs2:=x1.sc
 have cs3:=x2.cells
 have cs4:=x2.sc
 have cv1:=h2.sc
 have cv2:=h3.sc
 obtain⟨I,hI⟩:∃I:Fr->St->Prop,∀fr S,I fr S<->(Gr st S/\fr 1=ofL n/\fr 2= .ptr (up 0 n0) 0/\fr 4= .ptr (up 1 n0) 0/\(∃u,S.row (up 0 n0)= .cells u [.int .i64 s.main.kind,ofL s.main.name,nv,kv,tv,sv])/\(∃u,S.row (up 1 n0)= .cells u [.int .i64 0,ofL [], .snil, .snil])):=⟨_,fun _ _=>Iff.rfl⟩
 simp only[Qu,XY,simprocAttr]
 refine Q8 I ?_ ?_
 ·simp only[XZ,simprocAttr,hn0,cs1,cs2,cs3,cs4,cv1.1,cv1.2,cv2.1,cv2.2]
  exact(hI _ _).2 ⟨(Gr.new hw (Ja _)).nn (Ja _),by simp only[XZ,simprocAttr],by simp only[XZ,simprocAttr],by simp only[XZ,simprocAttr],⟨_,by simp only[XZ,simprocAttr,hn0];rfl⟩,⟨_,by simp only[XZ,simprocAttr,hn0];rfl⟩⟩
 intro fr S hIf
 obtain⟨g0,f1,f2,f4,⟨t0,r0⟩,⟨t1,r1⟩⟩:=(hI _ _).1 hIf
 rw[Jf,Jc];simp only[XY,simprocAttr]
 have kst:∀r,st.row r≠ .none->S.row r=st.row r:=fun r e=>g0.same r e
 obtain⟨L,hL⟩:∃L:Nat->Fr->St->Prop,∀j fr S',L j fr S'<->∃(i:Nat),j+i=l.length/\fr 1=ofL n/\fr 2= .ptr (up 0 n0) 0/\fr 4= .ptr (up 1 n0) 0/\fr 6= .int .i64 i/\S=S'/\defN l n=defN (l.drop i) n:=⟨_,fun _ _ _=>Iff.rfl⟩
 refine Jq L l.length (by omega) ((hL _ _ _).2 ⟨0,by omega,by simp only[XZ,simprocAttr,f1],by simp only[XZ,simprocAttr,f2],by simp only[XZ,simprocAttr,f4],by simp only[XZ,simprocAttr]<;>rfl,rfl,rfl⟩) ?_
 clear f1 f2 f4
 intro j fr S' hLj
 obtain⟨i,hj,f1,f2,f4,f6,rfl,hrec⟩:=(hL _ _ _).1 hLj
 have wr1:∀E:List V,Gr st (S.wr (up 1 n0) t1 fun u=> .cells u E):=fun E=>g0.wr (nx0 hw hn0 1) (Je r1) (by rw[r1];rfl) (Ja _)
 by_cases hi:i<l.length
 ·have hi':(i:Int)<l.length:=by omega
  obtain⟨r,q,nv1,kv1,a1,a3,a4,hty,d1,d2,d3,d4⟩:=JcC h2 kst hi
  have a5:=kA a4 (j:=0) (by decide) rfl
  have a5:ld1 (S.row r) q=some (ofL l[i].1, .no):=a5
  have a6:=kT (a:=1) (b:=4) a4
  have a6:ldn (S.row r) (q+1) 4=some (.agg [.int .i64 l[i].2.kind,ofL l[i].2.name,nv1,kv1], .no):=a6
  have hadd1:IntKind.i64.wrap ((i:Int)+1)=((i+1:Nat):Int):=by rw[Jp (by omega) (by omega)];rfl
  have hd:defN (l.drop i) n=if l[i].1=n then some l[i].2 else defN (l.drop (i+1)) n:=by
   rw[List.drop_eq_getElem_cons hi]
   unfold defN
   rw[List.find?_cons]
   by_cases e:l[i].1=n
   ·simp[e]
   ·simp[e]
  by_cases hn:l[i].1=n
  ·rw[if_pos hn]at hd
   simp only[XZ,simprocAttr,f1,f2,f4,f6,r0,l1,hi',a1,a5,a6,hn,d1,d2,d3,d4,r1]
   refine fin _ _ (fun r e=>(wr1 _).same r e) fun _=>⟨[.int .i64 l[i].2.kind,ofL l[i].2.name,nv1,kv1], ?_, ?_⟩
   ·rw[JdZ,hrec,hd];rfl
   ·rw[hrec,hd];exact hty
  ·rw[if_neg hn]at hd
   simp only[XZ,simprocAttr,f1,f2,f4,f6,r0,l1,hi',a1,a5,hn,hadd1]
   exact⟨l.length-(i+1),by omega,(hL _ _ _).2 ⟨i+1,by omega,by simp only[XZ,simprocAttr,f1],by simp only[XZ,simprocAttr,f2],by simp only[XZ,simprocAttr,f4],by simp only[XZ,simprocAttr],rfl,by rw[hrec,hd]⟩⟩
 ·have hi':¬(i:Int)<l.length:=by omega
  have hdef:defN l n=none:=by rw[hrec,List.drop_eq_nil_of_le (by omega)];rfl
  simp only[XZ,simprocAttr,f2,f4,f6,r0,r1,l1,hi']
  refine fin _ _ (fun r e=>(wr1 _).same r e) fun _=>⟨[.int .i64 0,ofL [], .snil, .snil], ?_, ?_⟩
  ·rw[JdZ,hdef];rfl
  ·rw[hdef];exact JlW P _
theorem rinC {P:Pt->Prop}{st:St}{v:V}{ns:List Str}(n:Str)(hw:WF st)(h:SlAt P st v 1 (strs ns))(hl:ns.length<=1000):
  Does (tabT tabD) Jel [v,ofL n] st fun v' S=>v'= .bool (ns.contains n)/\st=S:=by
 refine Jv Jc3 rfl ?_
 have l1:=h.len
 rw[JL]at l1
 simp only[QE,XY,simprocAttr]
 rw[Jc];simp only[XY,simprocAttr]
 rw[Jf,Jc];simp only[XY,simprocAttr]
 obtain⟨L,hL⟩:∃L:Nat->Fr->St->Prop,∀j fr S',L j fr S'<->∃(i:Nat),j+i=ns.length/\fr 0=v/\fr 1=ofL n/\fr 5= .int .i64 i/\st=S'/\ns.contains n=(ns.drop i).contains n:=⟨_,fun _ _ _=>Iff.rfl⟩
 refine Jq L ns.length (by omega) ((hL _ _ _).2 ⟨0,by omega,by simp only[XZ,simprocAttr],by simp only[XZ,simprocAttr],by simp only[XZ,simprocAttr]<;>rfl,rfl,rfl⟩) ?_
 intro j fr S' hLj
 obtain⟨i,hj,f0,f1,f5,rfl,hrec⟩:=(hL _ _ _).1 hLj
 by_cases hi:i<ns.length
 ·have hi':(i:Int)<ns.length:=by omega
  obtain⟨q,qo,a1,a2,a3,a4⟩:=h.one (xs:=ns.map ofL) (i:=i) (by simpa using hi)
  simp only[List.getElem_map]at a4
  have hadd1:IntKind.i64.wrap ((i:Int)+1)=((i+1:Nat):Int):=by rw[Jp (by omega) (by omega)];rfl
  rw[List.drop_eq_getElem_cons hi,List.contains_cons]at hrec
  by_cases hn:ns[i]=n
  ·simp only[XZ,simprocAttr,f0,f1,f5,l1,hi',a1,a4,hn]
   rw[hrec,hn];simp
  ·have hn2:(n==ns[i])=false:=by simpa using fun e=>hn e.symm
   rw[hn2,Bool.false_or]at hrec
   simp only[XZ,simprocAttr,f0,f1,f5,l1,hi',a1,a4,hn,hadd1]
   exact⟨ns.length-(i+1),by omega,(hL _ _ _).2 ⟨i+1,by omega,by simp only[XZ,simprocAttr,f0],by simp only[XZ,simprocAttr,f1],by simp only[XZ,simprocAttr],rfl,hrec⟩⟩
 ·have hi':¬(i:Int)<ns.length:=by omega
  simp only[XZ,simprocAttr,f0,f5,l1,hi']
  rw[hrec,List.drop_eq_nil_of_le (by omega)];rfl
set_option maxHeartbeats 8000000 in
theorem rownC {P:Pt->Prop}{st:St}{e1 e2:List V}{s:Sch}{t:Ty}(hw:WF st)(h:SchC P st e1 s)(ht:TyC P st e2 t)(hl:s.types.length<=1000):
  Does (tabT tabD) JcZ [.agg e1, .agg e2] st fun v S=>Gr st S/\v= .int .i64 (ownS (hasN s.types) t):=by
 refine Jw tabM Jch rfl hw fun K fin=> ?_
 obtain⟨n0,hn0⟩:∃n,st.nx=up 0 n:=⟨_,up0 _⟩
 have hsch:=h
 obtain⟨c,tv,sv,rfl,h1,h2,h3⟩:=h
 obtain⟨nv0,kv0,es0,rfl,x1,x2,x3,x4⟩:=h1.inv
 obtain⟨k,n,ns,ks⟩:=t
 obtain⟨nv,kv,es,rfl,y1,y2,y3,y4⟩:=ht.inv'
 have l1:=y1.len
 rw[JL]at l1
 have l2:=y2.len
 rw[y3]at l2
 have cs1:=x1.cells
 have cs2:=x1.sc
 have cs3:=x2.cells
 have cs4:=x2.sc
 have cv1:=h2.sc
 have cv2:=h3.sc
 have ct1:=y1.cells
 have ct2:=y1.sc
 have ct3:=y2.cells
 have ct4:=y2.sc
 have hown:ownS (hasN s.types) (.mk k n ns ks)=if k<1\/9<k then 1 else if ks.length≠kidsS (.mk k n ns ks)\/(n≠[]/\k≠9)\/(0<ns.length/\¬(k=7\/k=8))then 12 else if k=9/\hasN s.types n=false then 15 else fieldsS (.mk k n ns ks):=rfl
 have hk:fieldsS (.mk k n ns ks)=if 8<ns.length then 3 else if namesS none ns≠0 then namesS none ns else if k=8/\ns=[]then 12 else 0:=rfl
 obtain⟨I,hI⟩:∃I:Fr->St->Prop,∀fr S,I fr S<->(Gr st S/\fr 2= .ptr (up 0 n0) 0/\fr 3= .ptr (up 1 n0) 0/\(∃u,S.row (up 0 n0)= .cells u [.int .i64 s.main.kind,ofL s.main.name,nv0,kv0,tv,sv])/\(∃u,S.row (up 1 n0)= .cells u [.int .i64 k,ofL n,nv,kv])):=⟨_,fun _ _=>Iff.rfl⟩
 simp only[Qt,XY,simprocAttr]
 refine Q8 I ?_ ?_
 ·simp only[XZ,simprocAttr,hn0,cs1,cs2,cs3,cs4,cv1.1,cv1.2,cv2.1,cv2.2,ct1,ct2,ct3,ct4]
  exact(hI _ _).2 ⟨(Gr.new hw (Ja _)).nn (Ja _),by simp only[XZ,simprocAttr],by simp only[XZ,simprocAttr],⟨_,by simp only[XZ,simprocAttr,hn0];rfl⟩,⟨_,by simp only[XZ,simprocAttr,hn0];rfl⟩⟩
 intro fr S hIf
 obtain⟨g0,f2,f3,⟨t0,r0⟩,⟨t1,r1⟩⟩:=(hI _ _).1 hIf
 have out:∀x,ownS (hasN s.types) (.mk k n ns ks)=x->∀S',Gr S S'->K (.int .i64 x) S':=fun x hx S' g=>fin _ _ (fun r e=>(g0.trans g).same r e) fun _=>by rw[hx]
 have rS:=Gr.refl g0.wf
 by_cases b1:k<1
 ·rw[Jf,Jc];simp only[XZ,simprocAttr,f3,r1,b1]
  exact out _ (by rw[hown,if_pos (.inl b1)]) _ rS
 by_cases b2:9<k
 ·rw[Jf,Jc];simp only[XZ,simprocAttr,f3,r1,b1,b2]
  exact out _ (by rw[hown,if_pos (.inr b2)]) _ rS
 rw[if_neg (fun h=>by rcases h with h|h;exact b1 h;exact b2 h)]at hown
 rw[Jf,Jc];simp only[XY,simprocAttr,f3,r1,b1,b2]
 rw[Jc];simp only[XY,simprocAttr]
 obtain⟨J,hJ⟩:∃J:Fr->St->Prop,∀fr S',J fr S'<->(S=S'/\fr 2= .ptr (up 0 n0) 0/\fr 3= .ptr (up 1 n0) 0/\fr 5= .int .i64 (kidsS (.mk k n ns ks):Nat)):=⟨_,fun _ _=>Iff.rfl⟩
 refine JJ J ?_ ?_
 ·have hks:kidsS (.mk k n ns ks)=if k=4\/k=5\/k=6 then 1 else if k=7\/k=8 then ns.length else 0:=rfl
  by_cases k4:k=4
  ·simp only[XZ,simprocAttr,f3,r1,k4]
   exact(hJ _ _).2 ⟨rfl,by simp only[XZ,simprocAttr,f2],by simp only[XZ,simprocAttr,f3],by simp only[XZ,simprocAttr];rw[hks,if_pos (.inl k4)];rfl⟩
  by_cases k5:k=5
  ·simp only[XZ,simprocAttr,f3,r1,k4,k5]
   exact(hJ _ _).2 ⟨rfl,by simp only[XZ,simprocAttr,f2],by simp only[XZ,simprocAttr,f3],by simp only[XZ,simprocAttr];rw[hks,if_pos (.inr (.inl k5))];rfl⟩
  by_cases k6:k=6
  ·simp only[XZ,simprocAttr,f3,r1,k4,k5,k6]
   exact(hJ _ _).2 ⟨rfl,by simp only[XZ,simprocAttr,f2],by simp only[XZ,simprocAttr,f3],by simp only[XZ,simprocAttr];rw[hks,if_pos (.inr (.inr k6))];rfl⟩
  rw[if_neg (by omega)]at hks
  by_cases k7:k=7
  ·simp only[XZ,simprocAttr,f3,r1,k4,k5,k6,k7,l1]
   exact(hJ _ _).2 ⟨rfl,by simp only[XZ,simprocAttr,f2],by simp only[XZ,simprocAttr,f3],by simp only[XZ,simprocAttr];rw[hks,if_pos (.inl k7)]⟩
  by_cases k8:k=8
  ·simp only[XZ,simprocAttr,f3,r1,k4,k5,k6,k7,k8,l1]
   exact(hJ _ _).2 ⟨rfl,by simp only[XZ,simprocAttr,f2],by simp only[XZ,simprocAttr,f3],by simp only[XZ,simprocAttr];rw[hks,if_pos (.inr k8)]⟩
  rw[if_neg (by omega)]at hks
  simp only[XZ,simprocAttr,f3,r1,k4,k5,k6,k7,k8]
  exact(hJ _ _).2 ⟨rfl,by simp only[XZ,simprocAttr,f2],by simp only[XZ,simprocAttr,f3],by simp only[XZ,simprocAttr];rw[hks];rfl⟩
 clear f2 f3
 intro fr S' hJf
 obtain⟨rfl,f2,f3,f5⟩:=(hJ _ _).1 hJf
 obtain⟨kk,hkk⟩:∃kk,kk=kidsS (.mk k n ns ks):=⟨_,rfl⟩
 rw[<-hkk]at f5 hown
 obtain⟨R,hR⟩:∃b,b=decide (k=7\/k=8):=⟨_,rfl⟩
 obtain⟨J2,hJ2⟩:∃J:Fr->St->Prop,∀fr S',J fr S'<->(S=S'/\fr 2= .ptr (up 0 n0) 0/\fr 3= .ptr (up 1 n0) 0/\fr 5= .int .i64 kk/\fr 6= .bool R):=⟨_,fun _ _=>Iff.rfl⟩
 refine Q8 J2 ?_ ?_
 ·by_cases k7:k=7
  ·simp only[XZ,simprocAttr,f3,r1,k7]
   exact(hJ2 _ _).2 ⟨rfl,by simp only[XZ,simprocAttr,f2],by simp only[XZ,simprocAttr,f3],by simp only[XZ,simprocAttr,f5],by simp only[XZ,simprocAttr];rw[hR,decide_eq_true (.inl k7)]⟩
  by_cases k8:k=8
  ·simp only[XZ,simprocAttr,f3,r1,k7,k8]
   exact(hJ2 _ _).2 ⟨rfl,by simp only[XZ,simprocAttr,f2],by simp only[XZ,simprocAttr,f3],by simp only[XZ,simprocAttr,f5],by simp only[XZ,simprocAttr];rw[hR,decide_eq_true (.inr k8)]⟩
  simp only[XZ,simprocAttr,f3,r1,k7,k8]
  exact(hJ2 _ _).2 ⟨rfl,by simp only[XZ,simprocAttr,f2],by simp only[XZ,simprocAttr,f3],by simp only[XZ,simprocAttr,f5],by simp only[XZ,simprocAttr];rw[hR,decide_eq_false (by omega)]⟩
 clear f2 f3 f5
 intro fr S' hJf
 obtain⟨rfl,f2,f3,f5,f6⟩:=(hJ2 _ _).1 hJf
 by_cases c1:ks.length=kk
 rotate_left
 ·have c1':¬(ks.length:Int)=(kk:Int):=by omega
  rw[Jf,Jc];simp only[XZ,simprocAttr,f3,f5,r1,l2,c1']
  exact out _ (by rw[hown,if_pos (.inl c1)]) _ rS
 have c1':(ks.length:Int)=(kk:Int):=by omega
 by_cases c2:n≠[]/\k≠9
 ·have c2a:¬n=[]:=c2.1
  have c2b:¬k=9:=c2.2
  rw[Jf,Jc];simp only[XZ,simprocAttr,f3,f5,r1,l2,c1',c2a,c2b]
  exact out _ (by rw[hown,if_pos (.inr (.inl c2))]) _ rS
 by_cases c3:0<ns.length/\¬(k=7\/k=8)
 ·have c3a:¬(ns.length:Int)=0:=by omega
  have hR0:R=false:=by rw[hR];exact decide_eq_false c3.2
  rw[hR0]at f6
  by_cases k9:k=9
  ·rw[Jf,Jc];simp only[XZ,simprocAttr,f3,f5,f6,r1,l1,l2,c1',c3a,k9]
   exact out _ (by rw[hown,if_pos (.inr (.inr c3))]) _ rS
  ·have hn:n=[]:=Classical.byContradiction fun h=>c2 ⟨h,k9⟩
   rw[Jf,Jc];simp only[XZ,simprocAttr,f3,f5,f6,r1,l1,l2,c1',c3a,k9,hn]
   exact out _ (by rw[hown,if_pos (.inr (.inr c3))]) _ rS
 rw[if_neg (fun h=>by rcases h with h|h|h;exact h c1;exact c2 h;exact c3 h)]at hown
 have hn9:k=9\/n=[]:=by
  by_cases k9:k=9
  ·exact .inl k9
  ·exact .inr (Classical.byContradiction fun h=>c2 ⟨h,k9⟩)
 have hr0:R=true\/R=false/\(ns.length:Int)=0:=by
  by_cases k78:k=7\/k=8
  ·exact .inl (by rw[hR];exact decide_eq_true k78)
  ·exact .inr ⟨by rw[hR];exact decide_eq_false k78,by have:=fun h=>c3 ⟨h,k78⟩;omega⟩
 obtain⟨J3,hJ3⟩:∃J:Fr->St->Prop,∀fr S',J fr S'<->(S=S'/\fr 2= .ptr (up 0 n0) 0/\fr 3= .ptr (up 1 n0) 0):=⟨_,fun _ _=>Iff.rfl⟩
 refine JJ J3 ?_ ?_
 ·have fin3:∀fr':Fr,fr' 2= .ptr (up 0 n0) 0->fr' 3= .ptr (up 1 n0) 0->J3 fr' S:=fun _ a b=>(hJ3 _ _).2 ⟨rfl,a,b⟩
  rcases hn9 with k9|hn
  ·rcases hr0 with hr|⟨hr,hz⟩
   ·rw[hr]at f6
    rw[Jc];simp only[XZ,simprocAttr,f3,f5,f6,r1,l1,l2,c1',k9]
    exact fin3 _ (by simp only[XZ,simprocAttr,f2]) (by simp only[XZ,simprocAttr,f3])
   ·rw[hr]at f6
    rw[Jc];simp only[XZ,simprocAttr,f3,f5,f6,r1,l1,l2,c1',k9,hz]
    exact fin3 _ (by simp only[XZ,simprocAttr,f2]) (by simp only[XZ,simprocAttr,f3])
  ·by_cases k9:k=9
   ·rcases hr0 with hr|⟨hr,hz⟩
    ·rw[hr]at f6
     rw[Jc];simp only[XZ,simprocAttr,f3,f5,f6,r1,l1,l2,c1',k9]
     exact fin3 _ (by simp only[XZ,simprocAttr,f2]) (by simp only[XZ,simprocAttr,f3])
    ·rw[hr]at f6
     rw[Jc];simp only[XZ,simprocAttr,f3,f5,f6,r1,l1,l2,c1',k9,hz]
     exact fin3 _ (by simp only[XZ,simprocAttr,f2]) (by simp only[XZ,simprocAttr,f3])
   ·rcases hr0 with hr|⟨hr,hz⟩
    ·rw[hr]at f6
     rw[Jc];simp only[XZ,simprocAttr,f3,f5,f6,r1,l1,l2,c1',k9,hn]
     exact fin3 _ (by simp only[XZ,simprocAttr,f2]) (by simp only[XZ,simprocAttr,f3])
    ·rw[hr]at f6
     rw[Jc];simp only[XZ,simprocAttr,f3,f5,f6,r1,l1,l2,c1',k9,hn,hz]
     exact fin3 _ (by simp only[XZ,simprocAttr,f2]) (by simp only[XZ,simprocAttr,f3])
 clear f2 f3 f5 f6
 intro fr S' hJf
 obtain⟨rfl,f2,f3⟩:=(hJ3 _ _).1 hJf
 obtain⟨J4,hJ4⟩:∃J:Fr->St->Prop,∀fr S',J fr S'<->(Gr S S'/\fr 3= .ptr (up 1 n0) 0/\¬(k=9/\hasN s.types n=false)):=⟨_,fun _ _=>Iff.rfl⟩
 refine JJ J4 ?_ ?_
 ·by_cases k9:k=9
  ·rw[Jc];simp only[XY,simprocAttr,f3,r1,k9]
   rw[Jc];simp only[XY,simprocAttr,f2,f3,r0,r1,cs1,cs2,cs3,cs4,cv1.1,cv1.2,cv2.1,cv2.2]
   refine Jb (rdefC (P:=P) (s:=s) n g0.wf (hsch.imp fun r p e=>⟨p,g0.same r e⟩) hl) ?_
   rintro _ S1 ⟨g1,E,rfl,hE⟩
   have w1:=g1.wf
   obtain⟨n1,hn1⟩:∃n,S1.nx=up 0 n:=⟨_,up0 _⟩
   have e4:=hE.four
   have eok:=hE.ok
   have esp:splice [.int .i64 0,ofL [], .snil, .snil] 0 E=E:=Yc (by rw[e4];rfl)
   have etk:E.take 4=E:=by rw[<-e4,List.take_length]
   have gn:Gr S1 ((S1.new fun t=> .cells t [.int .i64 0,ofL [], .snil, .snil]).wr (up 0 n1) S1.t fun u=> .cells u E):=(Gr.refl w1).nw hn1 (Ja _) (Ja _)
   simp only[XN,simprocAttr,hn1,e4,eok,etk,esp]
   cases hh:hasN s.types n with
   | true=>
     rw[Jc];simp only[XZ,simprocAttr]
     exact(hJ4 _ _).2 ⟨g1.trans gn,by simp only[XZ,simprocAttr,f3],fun h=>by rw[hh]at h;cases h.2⟩
   | false=>
     rw[Jc];simp only[XZ,simprocAttr]
     exact out _ (by rw[hown,if_pos ⟨k9,hh⟩]) _ (g1.trans gn)
  ·rw[Jc];simp only[XZ,simprocAttr,f3,r1,k9]
   exact(hJ4 _ _).2 ⟨rS,by simp only[XZ,simprocAttr,f3],fun h=>k9 h.1⟩
 clear f2 f3
 intro fr S1 hJf
 obtain⟨g1,f3,c4⟩:=(hJ4 _ _).1 hJf
 rw[if_neg c4,hk]at hown
 have r1:=g1.cells r1
 by_cases b8:8<ns.length
 ·have b8':(8:Int)<ns.length:=by omega
  rw[Jf,Jc];simp only[XZ,simprocAttr,f3,r1,l1,b8']
  exact out _ (by rw[hown,if_pos b8]) _ g1
 have b8':¬(8:Int)<ns.length:=by omega
 rw[if_neg b8]at hown
 rw[Jf,Jc];simp only[XY,simprocAttr,f3,r1,l1,b8']
 obtain⟨J5,hJ5⟩:∃J:Fr->St->Prop,∀fr S',J fr S'<->(S1=S'/\fr 3= .ptr (up 1 n0) 0/\namesS none ns=0):=⟨_,fun _ _=>Iff.rfl⟩
 refine JJ J5 ?_ ?_
 ·rw[Jc];simp only[XY,simprocAttr]
  obtain⟨L,hL⟩:∃L:Nat->Fr->St->Prop,∀j fr S',L j fr S'<->∃(i:Nat) (p:Option Str),j+i=ns.length/\fr 3= .ptr (up 1 n0) 0/\fr 9= .int .i64 i/\S1=S'/\namesS none ns=namesS p (ns.drop i)/\(p=if i=0 then none else ns[i-1]?):=⟨_,fun _ _ _=>Iff.rfl⟩
  refine Jq L ns.length (by omega) ((hL _ _ _).2 ⟨0,none,by omega,by simp only[XZ,simprocAttr,f3],by simp only[XZ,simprocAttr]<;>rfl,rfl,rfl,rfl⟩) ?_
  clear f3
  intro j fr S' hLj
  obtain⟨i,p,hj,f3,f9,rfl,hrec,hp⟩:=(hL _ _ _).1 hLj
  have yS:=(y1.gr (g0.trans g1))
  by_cases hi:i<ns.length
  ·have hi':(i:Int)<ns.length:=by omega
   obtain⟨q,qo,a1,a2,a3,a4⟩:=yS.one (xs:=ns.map ofL) (i:=i) (by simpa using hi)
   simp only[List.getElem_map]at a4
   have hd:=List.drop_eq_getElem_cons hi
   have hadd1:IntKind.i64.wrap ((i:Int)+1)=((i+1:Nat):Int):=by rw[Jp (by omega) (by omega)];rfl
   simp only[XZ,simprocAttr,f3,f9,r1,l1,hi',a1,a4]
   refine Jb (ridentC _ _) ?_
   rintro _ _ ⟨rfl,rfl⟩
   cases hid:identB ns[i]with
   | false=>
     have hv:namesS none ns=15:=by rw[hrec,hd,namesS,if_pos hid]
     simp only[XZ,simprocAttr]
     exact out _ (by rw[hown,hv];rfl) _ g1
   | true=>
     have next:∀{fr':Fr},notLess p ns[i]=false->fr' 3= .ptr (up 1 n0) 0->fr' 9= .int .i64 ((i+1:Nat):Int)->∃j',j'<j/\L j' fr' S1:=fun{fr'} hl e3 e9=>
      ⟨ns.length-(i+1),by omega,(hL _ _ _).2 ⟨i+1,some ns[i],by omega,e3,e9,rfl,by rw[hrec,hd,JcI hid hl],by rw[if_neg (by omega)];simp[hi]⟩⟩
     by_cases h0:i=0
     ·have h0':¬(0:Int)<(i:Int):=by omega
      simp only[XZ,simprocAttr,f9,h0',hadd1,Jk]
      exact next (by rw[hp,if_pos h0];rfl) (by simp only[XZ,simprocAttr,f3]) (by simp only[XZ,simprocAttr])
     ·have h0':(0:Int)<(i:Int):=by omega
      have hsub:IntKind.i64.wrap ((i:Int)-1)=((i-1:Nat):Int):=by rw[Jp (by omega) (by omega)];omega
      obtain⟨q',qo',d1,d2,d3,d4⟩:=yS.one (xs:=ns.map ofL) (i:=i-1) (by simp;omega)
      simp only[List.getElem_map]at d4
      have hp':p=some ns[i-1]:=by rw[hp,if_neg h0,List.getElem?_eq_getElem (by omega)]
      cases hl:Op.bytesLess ns[i-1] ns[i]with
      | false=>
        have hv:namesS none ns=6:=by rw[hrec,hd,namesS,if_neg (by rw[hid];simp),if_pos (by rw[hp',notLess,hl];rfl)]
        simp only[XZ,simprocAttr,f3,f9,r1,h0',hsub,a1,a4,d1,d4,YV,hl,Jk]
        exact out _ (by rw[hown,hv];rfl) _ g1
      | true=>
        simp only[XZ,simprocAttr,f3,f9,r1,h0',hsub,a1,a4,d1,d4,YV,hl,Jk,hadd1]
        exact next (by rw[hp',notLess,hl];rfl) (by simp only[XZ,simprocAttr,f3]) (by simp only[XZ,simprocAttr])
  ·have hi':¬(i:Int)<ns.length:=by omega
   have hv:namesS none ns=0:=by rw[hrec,List.drop_eq_nil_of_le (by omega),namesS]
   simp only[XZ,simprocAttr,f3,f9,r1,l1,hi']
   exact(hJ5 _ _).2 ⟨rfl,by simp only[XZ,simprocAttr,f3],hv⟩
 clear f3
 intro fr S' hJf
 obtain⟨rfl,f3,hn0'⟩:=(hJ5 _ _).1 hJf
 rw[if_neg (fun h=>h hn0')]at hown
 by_cases c8:k=8
 ·by_cases cn:ns.length=0
  ·have cn':(ns.length:Int)=0:=by omega
   simp only[XZ,simprocAttr,f3,r1,l1,c8,cn']
   exact out _ (by rw[hown,if_pos ⟨c8,List.length_eq_zero_iff.1 cn⟩]) _ g1
  ·have cn':¬(ns.length:Int)=0:=by omega
   simp only[XZ,simprocAttr,f3,r1,l1,c8,cn']
   exact out _ (by rw[hown,if_neg fun h=>cn (by rw[h.2];rfl)]) _ g1
 ·simp only[XZ,simprocAttr,f3,r1,l1,c8]
  exact out _ (by rw[hown,if_neg fun h=>c8 h.1]) _ g1
theorem _root_.Eva.SchC.low {P:Pt->Prop}{st:St}{e:List V}{s:Sch}(h:SchC P st e s)(k:Nat):SchC P {st with low:=k} e s:=h.imp fun r p _=>⟨p,rfl⟩
set_option maxHeartbeats 8000000 in
theorem rmayC :∀(m:Nat) (ty:Ty),tsz ty<m->∀(P:Pt->Prop) (st:St) (kr:Pt) (s:Sch) (met:Nat) (E e:List V) (deep:Nat),WF st->SchC P st E s->TyC P st e ty->(∀r,P r->r≠kr)->(∃t,st.row kr= .cells t (E++[.int .i64 met]))->deep<=13->met<=400->s.types.length<=1000->cntT ty<1000000\/True->
  Does (tabT tabD) YH [.ptr kr 0, .agg e, .int .i64 deep] st fun v st'=>Ch (fun r=>r=kr) st st'/\(∃t,st'.row kr= .cells t (E++[.int .i64 (mayS (hasN s.types) ty deep met).2]))/\v= .int .i64 (mayS (hasN s.types) ty deep met).1
 |0,_,h=>absurd h (by omega)
 | m+1, .mk k nm ns ks,hm=>by
   intro P st kr s met E e deep hw hsch hx hsep hkr hdeep hmet hl _
   refine Yn tabM jF rfl hw fun K fin=> ?_
   obtain⟨n0,hn0⟩:∃n,st.nx=up 0 n:=⟨_,up0 _⟩
   have hsch0:=hsch
   obtain⟨c,tv,sv,rfl,h1,h2,h3⟩:=hsch
   obtain⟨nv0,kv0,es0,rfl,x1,x2,x3,x4⟩:=h1.inv
   have hx0:=hx
   obtain⟨nv,kv,es,rfl,y1,y2,y3,y4⟩:=hx.inv'
   have l2:=y2.len
   rw[y3]at l2
   have cs1:=x1.cells
   have cs2:=x1.sc
   have cs3:=x2.cells
   have cs4:=x2.sc
   have cv1:=h2.sc
   have cv2:=h3.sc
   have ct1:=y1.cells
   have ct2:=y1.sc
   have ct3:=y2.cells
   have ct4:=y2.sc
   obtain⟨tk,rk⟩:=hkr
   have rk:st.row kr= .cells tk [.int .i64 s.main.kind,ofL s.main.name,nv0,kv0,tv,sv, .int .i64 met]:=rk
   have hrec:=Q0 (hasN s.types) k nm ns ks deep met
   have kne:=Js hw hn0 (Je rk) 0
   have one:=nes kne
   obtain⟨I,hI⟩:∃I:Fr->St->Prop,∀fr S,I fr S<->(Ch (fun r=>r=kr) st S/\fr 0= .ptr kr 0/\fr 2= .int .i64 deep/\fr 4= .ptr (up 0 n0) 0/\(∃u,S.row (up 0 n0)= .cells u [.int .i64 k,ofL nm,nv,kv])/\(∃u,S.row kr= .cells u [.int .i64 s.main.kind,ofL s.main.name,nv0,kv0,tv,sv, .int .i64 ((met+1:Nat):Int)])):=⟨_,fun _ _=>Iff.rfl⟩
   have hadd:IntKind.i64.wrap ((met:Int)+1)=((met+1:Nat):Int):=by rw[Jp (by omega) (by omega)];rfl
   simp only[Kj,XY,simprocAttr]
   rw[Jc];simp only[XY,simprocAttr,hn0,ct1,ct2,ct3,ct4]
   refine Q8 I ?_ ?_
   ·have gn:Gr st (st.new fun t=> .cells t [.int .i64 k,ofL nm,nv,kv]):=Gr.new hw (Ja _)
    have rk1:=gn.cells rk
    simp only[XZ,simprocAttr,rk1,hadd]
    refine(hI _ _).2 ⟨(Ch.of _ gn).wr (Je rk1) (by rw[rk1];rfl) (.inl rfl) (Ja _),by simp only[XZ,simprocAttr],by simp only[XZ,simprocAttr],by simp only[XZ,simprocAttr],⟨_,by simp only[XZ,simprocAttr,hn0,one];rfl⟩,⟨_,Jl _ _ _ _⟩⟩
   intro fr S hIf
   obtain⟨hC,f0,f2,f4,⟨t0,r0⟩,⟨u1,rk1⟩⟩:=(hI _ _).1 hIf
   have keepP:∀{S':St},Ch (fun r=>r=kr) st S'->∀r,P r->st.row r≠ .none->P r/\S'.row r=st.row r:=fun c r p e=>⟨p,c.same r e (hsep r p)⟩
   have out:∀(x:Int) (mm:Nat),mayS (hasN s.types) (.mk k nm ns ks) deep met=(x,mm)->∀S',Ch (fun r=>r=kr) st S'->(∃u,S'.row kr= .cells u [.int .i64 s.main.kind,ofL s.main.name,nv0,kv0,tv,sv, .int .i64 (mm:Int)])->K (.int .i64 x) S':=fun x mm hx S' c hr=>fin _ _ (fun r a b=>c.same r a b) fun _=>by rw[hx];exact⟨hr,rfl⟩
   by_cases b1:400<met+1
   ·have b1':(400:Int)<((met+1:Nat):Int):=by omega
    rw[Jf,Jc];simp only[XZ,simprocAttr,f0,rk1,b1']
    exact out _ _ (by rw[hrec,if_pos b1]) _ hC ⟨_,rk1⟩
   have b1':¬(400:Int)<((met+1:Nat):Int):=by omega
   rw[if_neg b1]at hrec
   rw[Jf,Jc];simp only[XY,simprocAttr,f0,rk1,b1']
   by_cases b2:12<deep
   ·have b2':(12:Int)<(deep:Int):=by omega
    rw[Jf,Jc];simp only[XZ,simprocAttr,f2,b2']
    exact out _ _ (by rw[hrec,if_pos b2]) _ hC ⟨_,rk1⟩
   have b2':¬(12:Int)<(deep:Int):=by omega
   rw[if_neg b2]at hrec
   rw[Jf,Jc];simp only[XY,simprocAttr,f2,b2']
   have wS:=hC.wf
   rw[Jc];simp only[XY,simprocAttr,f0,f4,rk1,r0,cs1,cs2,cs3,cs4,cv1.1,cv1.2,cv2.1,cv2.2,ct1,ct2,ct3,ct4]
   refine Jn (rownC (P:=P) (s:=s) (JB wS S.t) ((hsch0.imp (keepP hC)).low S.t) ((hx0.imp (keepP hC)).low S.t) hl) ?_
   rintro _ S1 g1 rfl
   obtain⟨O,hO⟩:∃O,O=ownS (hasN s.types) (.mk k nm ns ks):=⟨_,rfl⟩
   rw[<-hO]at hrec⊢
   have C1:Ch (fun r=>r=kr) st S1:=hC.gr g1
   have r01:=g1.cells r0
   have rk1:=g1.cells rk1
   simp only[XY,simprocAttr,Jk]
   obtain⟨J,hJ⟩:∃J:Fr->St->Prop,∀fr S',J fr S'<->(∃x mm,fr 7= .int .i64 x/\mayS (hasN s.types) (.mk k nm ns ks) deep met=(x,mm)/\Ch (fun r=>r=kr) st S'/\∃u,S'.row kr= .cells u [.int .i64 s.main.kind,ofL s.main.name,nv0,kv0,tv,sv, .int .i64 (mm:Int)]):=⟨_,fun _ _=>Iff.rfl⟩
   refine JJ J ?_ ?_
   ·rw[Jc];simp only[XY,simprocAttr]
    obtain⟨L,hL⟩:∃L:Nat->Fr->St->Prop,∀j fr S',L j fr S'<->∃(i mi:Nat) (x:Int),j+i=ks.length/\fr 0= .ptr kr 0/\fr 2= .int .i64 deep/\fr 4= .ptr (up 0 n0) 0/\fr 7= .int .i64 x/\fr 8= .int .i64 i/\Ch (fun r=>r=kr) st S'/\(∃u,S'.row (up 0 n0)= .cells u [.int .i64 k,ofL nm,nv,kv])/\(∃u,S'.row kr= .cells u [.int .i64 s.main.kind,ofL s.main.name,nv0,kv0,tv,sv, .int .i64 (mi:Int)])/\mayS (hasN s.types) (.mk k nm ns ks) deep met=(if x≠0 then(x,mi)else maysS (hasN s.types) (ks.drop i) (deep+1) mi)/\(x=0->mi<=400):=⟨_,fun _ _ _=>Iff.rfl⟩
    have hlen:ks.length<1000000\/O≠0:=by
     by_cases ho:O=0
     ·left
      have hf:ownS (hasN s.types) (.mk k nm ns ks)=if k<1\/9<k then 1 else if ks.length≠kidsS (.mk k nm ns ks)\/(nm≠[]/\k≠9)\/(0<ns.length/\¬(k=7\/k=8))then 12 else if k=9/\hasN s.types nm=false then 15 else fieldsS (.mk k nm ns ks):=rfl
      rw[hO,hf]at ho
      by_cases d1:k<1\/9<k
      ·rw[if_pos d1]at ho;cases ho
      rw[if_neg d1]at ho
      by_cases d2:ks.length≠kidsS (.mk k nm ns ks)\/(nm≠[]/\k≠9)\/(0<ns.length/\¬(k=7\/k=8))
      ·rw[if_pos d2]at ho;cases ho
      rw[if_neg d2]at ho
      have d3:ks.length=kidsS (.mk k nm ns ks):=Classical.byContradiction fun h=>d2 (.inl h)
      by_cases d4:k=9/\hasN s.types nm=false
      ·rw[if_pos d4]at ho;cases ho
      rw[if_neg d4]at ho
      have hk8:ns.length<=8:=by
       have hk:fieldsS (.mk k nm ns ks)=if 8<ns.length then 3 else if namesS none ns≠0 then namesS none ns else if k=8/\ns=[]then 12 else 0:=rfl
       rw[hk]at ho
       by_cases d5:8<ns.length
       ·rw[if_pos d5]at ho;cases ho
       ·omega
      have hks:kidsS (.mk k nm ns ks)=if k=4\/k=5\/k=6 then 1 else if k=7\/k=8 then ns.length else 0:=rfl
      rw[hks]at d3
      split at d3
      ·omega
      split at d3
      ·omega
      ·omega
     ·exact .inr ho
    by_cases ho:O=0
    rotate_left
    ·
     refine Qz (by decide) ?_
     by_cases hz:(0:Int)<ks.length
     ·simp only[XZ,simprocAttr,f4,r01,l2,ho,hz]
      exact(hJ _ _).2 ⟨O,met+1,by simp only[XZ,simprocAttr],by rw[hrec,if_pos ho],C1,_,rk1⟩
     ·simp only[XZ,simprocAttr,f4,r01,l2,hz]
      exact(hJ _ _).2 ⟨O,met+1,by simp only[XZ,simprocAttr],by rw[hrec,if_pos ho],C1,_,rk1⟩
    have hlen:ks.length<1000000:=hlen.resolve_right fun h=>h ho
    rw[if_neg (fun h=>h ho)]at hrec
    refine Jq L ks.length (by omega) ((hL _ _ _).2 ⟨0,met+1,O,by omega,by simp only[XZ,simprocAttr,f0],by simp only[XZ,simprocAttr,f2],by simp only[XZ,simprocAttr,f4],by simp only[XZ,simprocAttr],by simp only[XZ,simprocAttr]<;>rfl,C1,⟨_,r01⟩,⟨_,rk1⟩,by rw[hrec,if_neg (fun h=>h ho)];rfl,fun _=>by omega⟩) ?_
    clear f0 f2 f4
    intro j fr S2 hLj
    obtain⟨i,mi,x,hj,f0,f2,f4,f7,f8,C2,⟨ua,r02⟩,⟨ub,rk2⟩,hrc,hmi⟩:=(hL _ _ _).1 hLj
    by_cases hi:i<ks.length
    ·have hi':(i:Int)<ks.length:=by omega
     by_cases hx:x=0
     ·rw[if_neg (fun h=>h hx),List.drop_eq_getElem_cons hi,JE]at hrc
      have hx2:LstAt (TyC P S2) P S2 kv 4 ks:=⟨es,y2.imp (keepP C2),y3,fun i a b=>(y4 i a b).imp (keepP C2)⟩
      obtain⟨q,qo,E',a1,a2,a3,a4,hE,e4,a5⟩:=hx2.elem hi
      have hadd1:IntKind.i64.wrap ((i:Int)+1)=((i+1:Nat):Int):=by rw[Jp (by omega) (by omega)];rfl
      have haddd:IntKind.i64.wrap ((deep:Int)+1)=((deep+1:Nat):Int):=by rw[Jp (by omega) (by omega)];rfl
      simp only[XZ,simprocAttr,f0,f2,f4,f7,f8,r02,l2,hi',hx,a1,a4,haddd]
      refine Jb (rmayC m ks[i] (by have:=YN (k:=k) (n:=nm) (ns:=ns) hi;omega) P S2 kr s mi _ E' (deep+1) C2.wf (hsch0.imp (keepP C2)) hE hsep ⟨ub,rk2⟩ (by omega) (hmi hx) hl (.inr trivial)) ?_
      rintro _ S3 ⟨c3,⟨u3,rk3⟩,rfl⟩
      have rk3:S3.row kr= .cells u3 [.int .i64 s.main.kind,ofL s.main.name,nv0,kv0,tv,sv, .int .i64 ((mayS (hasN s.types) ks[i] (deep+1) mi).2:Nat)]:=rk3
      have C3:=C2.trans c3 fun r w=> .inl w
      have r03:S3.row (up 0 n0)= .cells ua [.int .i64 k,ofL nm,nv,kv]:=by rw[c3.same _ (Je r02) (fun h=>kne h.symm),r02]
      have hm4:=KV (hasN s.types) ks[i] (deep+1) mi (hmi hx)
      simp only[XZ,simprocAttr,f8,hadd1]
      exact⟨ks.length-(i+1),by omega,(hL _ _ _).2 ⟨i+1,_,_,by omega,by simp only[XZ,simprocAttr,f0],by simp only[XZ,simprocAttr,f2],by simp only[XZ,simprocAttr,f4],by simp only[XZ,simprocAttr],by simp only[XZ,simprocAttr],C3,⟨ua,r03⟩,⟨u3,rk3⟩,hrc,hm4.2⟩⟩
     ·rw[if_pos hx]at hrc
      simp only[XZ,simprocAttr,f4,f7,f8,r02,l2,hi',hx]
      exact(hJ _ _).2 ⟨x,mi,by simp only[XZ,simprocAttr,f7],hrc,C2,ub,rk2⟩
    ·have hi':¬(i:Int)<ks.length:=by omega
     simp only[XZ,simprocAttr,f4,f7,f8,r02,l2,hi']
     refine(hJ _ _).2 ⟨x,mi,by simp only[XZ,simprocAttr,f7], ?_,C2,ub,rk2⟩
     rw[hrc,List.drop_eq_nil_of_le (by omega),J6]
     by_cases hx:x=0
     ·rw[if_neg (fun h=>h hx),hx]
     ·rw[if_pos hx]
   intro fr S2 hJf
   obtain⟨x,mm,f7,hxm,C2,hr⟩:=(hJ _ _).1 hJf
   simp only[XZ,simprocAttr,f7]
   exact out _ _ hxm _ C2 hr
set_option maxHeartbeats 4000000 in
theorem rendsC :∀(m:Nat) (ty:Ty),tsz ty<m->∀(P Q:Pt->Prop) (st:St) (lv:V) (has:List Str) (e:List V),WF st->SlAt Q st lv 1 (strs has)->has.length<=1000->TyC P st e ty->cntT ty<1000000->
  Does (tabT tabD) ja [lv, .agg e] st fun v st'=>Gr st st'/\v= .bool (endsR has.contains ty)
 |0,_,h=>absurd h (by omega)
 | m+1, .mk k nm ns ks,hm=>by
   intro P Q st lv has e hw hlv hlh hx hsz
   refine Jw tabM JbC rfl hw fun K fin=> ?_
   obtain⟨n0,hn0⟩:∃n,st.nx=up 0 n:=⟨_,up0 _⟩
   obtain⟨nv,kv,es,rfl,y1,y2,y3,y4⟩:=hx.inv'
   have l2:=y2.len
   rw[y3]at l2
   have ct1:=y1.cells
   have ct2:=y1.sc
   have ct3:=y2.cells
   have ct4:=y2.sc
   have hS:=Jd1 has.contains k nm ns ks
   have hlen:ks.length<1000000:=by have h1:=Ja6 ks;rw[Yw]at hsz;omega
   obtain⟨I,hI⟩:∃I:Fr->St->Prop,∀fr S,I fr S<->(Gr st S/\fr 0=lv/\fr 3= .ptr (up 0 n0) 0/\(∃u,S.row (up 0 n0)= .cells u [.int .i64 k,ofL nm,nv,kv])):=⟨_,fun _ _=>Iff.rfl⟩
   simp only[Qc,XY,simprocAttr]
   refine Q8 I ?_ ?_
   ·simp only[XZ,simprocAttr,hn0,ct1,ct2,ct3,ct4]
    exact(hI _ _).2 ⟨Gr.new hw (Ja _),by simp only[XZ,simprocAttr],by simp only[XZ,simprocAttr],⟨_,by simp only[XZ,simprocAttr,hn0];rfl⟩⟩
   intro fr S hIf
   obtain⟨g0,f0,f3,⟨t0,r0⟩⟩:=(hI _ _).1 hIf
   have out:∀b,endsR has.contains (.mk k nm ns ks)=b->∀S',Gr S S'->K (.bool b) S':=fun b hb S' g=>fin _ _ (fun r e=>(g0.trans g).same r e) fun _=>by rw[hb]
   have kid:∀{S':St} {i:Nat} (hi:i<ks.length),Gr S S'->∃q o E,iaddrSV 4 kv (.int .i64 i)=some (.ptr q o, .no)/\ldn (S'.row q) o 4=some (.agg E, .no)/\Does (tabT tabD) ja [lv, .agg E] S' fun v S''=>Gr S' S''/\v= .bool (endsR has.contains ks[i]):=fun{S' i} hi g=>by
    have G:=g0.trans g
    have hx2:LstAt (TyC P S') P S' kv 4 ks:=⟨es,y2.gr G,y3,fun i a b=>(y4 i a b).gr G⟩
    obtain⟨q,qo,E',a1,a2,a3,a4,hE,e4,a5⟩:=hx2.elem hi
    have h1:=kq hi
    have h2:=Yw k nm ns ks
    exact⟨q,qo,E',a1,a4,rendsC m ks[i] (by have:=YN (k:=k) (n:=nm) (ns:=ns) hi;omega) P Q S' lv has E' G.wf (hlv.gr G) hlh hE (by omega)⟩
   rw[Jf,Jc];simp only[XY,simprocAttr,f3,r0]
   by_cases k7:k=7
   ·rw[if_pos k7,Jbg]at hS
    rw[Jc];simp only[XY,simprocAttr,k7]
    rw[Jf,Jc];simp only[XY,simprocAttr]
    obtain⟨L,hL⟩:∃L:Nat->Fr->St->Prop,∀j fr S',L j fr S'<->∃(i:Nat),j+i=ks.length/\fr 0=lv/\fr 3= .ptr (up 0 n0) 0/\fr 5= .int .i64 i/\Gr S S'/\(ks.all fun t=>endsR has.contains t)=((ks.drop i).all fun t=>endsR has.contains t):=⟨_,fun _ _ _=>Iff.rfl⟩
    refine Jq L ks.length (by omega) ((hL _ _ _).2 ⟨0,by omega,by simp only[XZ,simprocAttr,f0],by simp only[XZ,simprocAttr,f3],by simp only[XZ,simprocAttr]<;>rfl,Gr.refl g0.wf,rfl⟩) ?_
    clear f0 f3
    intro j fr S' hLj
    obtain⟨i,hj,f0,f3,f5,hg,hrec⟩:=(hL _ _ _).1 hLj
    have r0:=hg.cells r0
    by_cases hi:i<ks.length
    ·have hi':(i:Int)<ks.length:=by omega
     have hadd1:IntKind.i64.wrap ((i:Int)+1)=((i+1:Nat):Int):=by rw[Jp (by omega) (by omega)];rfl
     obtain⟨q,o,E,a1,a2,a3⟩:=kid hi hg
     rw[List.drop_eq_getElem_cons hi,List.all_cons]at hrec
     simp only[XZ,simprocAttr,f0,f3,f5,r0,l2,hi',a1,a2]
     refine Jb a3 ?_
     rintro _ S2 ⟨g2,rfl⟩
     cases hb:endsR has.contains ks[i]with
     | true=>
       rw[hb,Bool.true_and]at hrec
       simp only[XZ,simprocAttr,f5,hadd1]
       exact⟨ks.length-(i+1),by omega,(hL _ _ _).2 ⟨i+1,by omega,by simp only[XZ,simprocAttr,f0],by simp only[XZ,simprocAttr,f3],by simp only[XZ,simprocAttr],hg.trans g2,hrec⟩⟩
     | false=>
       rw[hb,Bool.false_and]at hrec
       simp only[XZ,simprocAttr]
       exact out _ (by rw[hS,hrec]) _ (hg.trans g2)
    ·have hi':¬(i:Int)<ks.length:=by omega
     rw[List.drop_eq_nil_of_le (by omega)]at hrec
     simp only[XZ,simprocAttr,f3,f5,r0,l2,hi']
     exact out _ (by rw[hS,hrec];rfl) _ hg
   rw[if_neg k7]at hS
   by_cases k8:k=8
   ·rw[if_pos k8,Jbf]at hS
    rw[Jc];simp only[XY,simprocAttr,k7]
    rw[Jc];simp only[XY,simprocAttr,k8]
    rw[Jf,Jc];simp only[XY,simprocAttr]
    obtain⟨L,hL⟩:∃L:Nat->Fr->St->Prop,∀j fr S',L j fr S'<->∃(i:Nat),j+i=ks.length/\fr 0=lv/\fr 3= .ptr (up 0 n0) 0/\fr 6= .int .i64 i/\Gr S S'/\(ks.any fun t=>endsR has.contains t)=((ks.drop i).any fun t=>endsR has.contains t):=⟨_,fun _ _ _=>Iff.rfl⟩
    refine Jq L ks.length (by omega) ((hL _ _ _).2 ⟨0,by omega,by simp only[XZ,simprocAttr,f0],by simp only[XZ,simprocAttr,f3],by simp only[XZ,simprocAttr]<;>rfl,Gr.refl g0.wf,rfl⟩) ?_
    clear f0 f3
    intro j fr S' hLj
    obtain⟨i,hj,f0,f3,f6,hg,hrec⟩:=(hL _ _ _).1 hLj
    have r0:=hg.cells r0
    by_cases hi:i<ks.length
    ·have hi':(i:Int)<ks.length:=by omega
     have hadd1:IntKind.i64.wrap ((i:Int)+1)=((i+1:Nat):Int):=by rw[Jp (by omega) (by omega)];rfl
     obtain⟨q,o,E,a1,a2,a3⟩:=kid hi hg
     rw[List.drop_eq_getElem_cons hi,List.any_cons]at hrec
     simp only[XZ,simprocAttr,f0,f3,f6,r0,l2,hi',a1,a2]
     refine Jb a3 ?_
     rintro _ S2 ⟨g2,rfl⟩
     cases hb:endsR has.contains ks[i]with
     | false=>
       rw[hb,Bool.false_or]at hrec
       simp only[XZ,simprocAttr,f6,hadd1]
       exact⟨ks.length-(i+1),by omega,(hL _ _ _).2 ⟨i+1,by omega,by simp only[XZ,simprocAttr,f0],by simp only[XZ,simprocAttr,f3],by simp only[XZ,simprocAttr],hg.trans g2,hrec⟩⟩
     | true=>
       rw[hb,Bool.true_or]at hrec
       simp only[XZ,simprocAttr]
       exact out _ (by rw[hS,hrec]) _ (hg.trans g2)
    ·have hi':¬(i:Int)<ks.length:=by omega
     rw[List.drop_eq_nil_of_le (by omega)]at hrec
     simp only[XZ,simprocAttr,f3,f6,r0,l2,hi']
     exact out _ (by rw[hS,hrec];rfl) _ hg
   rw[if_neg k8]at hS
   by_cases k9:k=9
   ·rw[if_pos k9]at hS
    simp only[XZ,simprocAttr,k7,k8,k9,f0,f3,r0]
    refine Jb (rinC (P:=Q) nm g0.wf (hlv.gr g0) hlh) ?_
    rintro _ _ ⟨rfl,rfl⟩
    simp only[XZ,simprocAttr]
    exact out _ hS _ (Gr.refl g0.wf)
   ·rw[if_neg k9]at hS
    simp only[XZ,simprocAttr,k7,k8,k9]
    exact out _ hS _ (Gr.refl g0.wf)
def rndR (l:List (Str×Ty))(has:List Str):List Str:=(l.filter fun p=>endsR has.contains p.2).map Prod.fst
theorem Jh8 (l:List (Str×Ty))(has:List Str):(rndR l has).length<=l.length:=by
 unfold rndR
 rw[List.length_map]
 exact List.length_filter_le _ _
set_option maxHeartbeats 8000000 in
theorem Jmp {P:Pt->Prop}{st:St}{E:List V}{s:Sch}(hw:WF st)(h:SchC P st E s)(hl:s.types.length<=100)(hcnt:cntTs (s.types.map Prod.snd)<1000000):
  Does (tabT tabD) JaE [.agg E] st fun v S=>Gr st S/\SlAt (fun r=>st.row r= .none) S v 1 (strs (finR s.types (s.types.length+1) [])):=by
 refine Jw tabM qM rfl hw fun K fin=> ?_
 obtain⟨n0,hn0⟩:∃n,st.nx=up 0 n:=⟨_,up0 _⟩
 obtain⟨c,tv,sv,rfl,h1,h2,h3⟩:=h
 obtain⟨l,hll⟩:∃l,l=s.types:=⟨_,rfl⟩
 rw[<-hll]at h2 hl hcnt fin
 obtain⟨nv0,kv0,es0,rfl,x1,x2,x3,x4⟩:=h1.inv
 have l1:=h2.len
 have cs1:=x1.cells
 have cs2:=x1.sc
 have cs3:=x2.cells
 have cs4:=x2.sc
 have cv1:=h2.sc
 have cv2:=h3.sc
 simp only[KE,XY,simprocAttr]
 rw[Jc];simp only[XY,simprocAttr,hn0,cs1,cs2,cs3,cs4,cv1.1,cv1.2,cv2.1,cv2.2]
 obtain⟨S0,hS0⟩:∃S0,S0=(st.new fun t=> .cells t [.int .i64 s.main.kind,ofL s.main.name,nv0,kv0,tv,sv]):=⟨_,rfl⟩
 have g0:Gr st S0:=by rw[hS0];exact Gr.new hw (Ja _)
 obtain⟨t0,r0⟩:∃t,S0.row (up 0 n0)= .cells t [.int .i64 s.main.kind,ofL s.main.name,nv0,kv0,tv,sv]:=⟨_,by rw[hS0];simp only[XZ,simprocAttr,hn0];rfl⟩
 rw[<-hS0]
 clear hS0
 rw[Jc];simp only[XY,simprocAttr]
 have kst:∀{S:St},Gr S0 S->∀r,st.row r≠ .none->S.row r=st.row r:=fun g r e=>by rw[g.same r (by rw[g0.same r e];exact e),g0.same r e]
 have kty:∀{S:St} {e t},Gr S0 S->TyC P st e t->TyC P S e t:=fun g h=>h.imp fun r p e=>⟨p,kst g r e⟩
 rw[Jf,Jc];simp only[XY,simprocAttr]
 obtain⟨I,hI⟩:∃I:Nat->Fr->St->Prop,∀j fr S,I j fr S<->∃(k:Nat) (lv:V) (has:List Str),j+k=l.length+1/\fr 1= .ptr (up 0 n0) 0/\fr 3=lv/\fr 4= .int .i64 k/\Gr S0 S/\SlF S0 S lv 1 (strs has)/\has.length<=l.length/\finR l (l.length+1) []=finR l (l.length+1-k) has:=⟨_,fun _ _ _=>Iff.rfl⟩
 refine Jq I (l.length+1) (by omega) ((hI _ _ _).2 ⟨0, .snil,[],by omega,by simp only[XZ,simprocAttr],by simp only[XZ,simprocAttr],by simp only[XZ,simprocAttr]<;>rfl,Gr.refl g0.wf,SlF.nil _ _ _,Nat.zero_le _,rfl⟩) ?_
 intro j fr S hIj
 obtain⟨k,lv,has,hj,f1,f3,f4,hg,hlv,hhl,hrec⟩:=(hI _ _ _).1 hIj
 have rS:=hg.cells r0
 by_cases hk:k<=l.length
 ·have hk':(k:Int)<=l.length:=by omega
  have haddk:IntKind.i64.wrap ((k:Int)+1)=((k+1:Nat):Int):=by rw[Jp (by omega) (by omega)];rfl
  rw[show l.length+1-k=(l.length+1-(k+1))+1 by omega,JkA]at hrec
  rw[Jf,Jc];simp only[XY,simprocAttr,f1,f4,rS,l1,hk']
  rw[Jf];simp only[XY,simprocAttr]
  rw[Jc];simp only[XY,simprocAttr]
  obtain⟨J,hJ⟩:∃J:Fr->St->Prop,∀fr S',J fr S'<->(∃nv,fr 1= .ptr (up 0 n0) 0/\fr 4= .int .i64 k/\fr 5=nv/\Gr S0 S'/\SlF S0 S' nv 1 (strs (rndR l has))):=⟨_,fun _ _=>Iff.rfl⟩
  refine JJ J ?_ ?_
  ·rw[Jc];simp only[XY,simprocAttr]
   obtain⟨L,hL⟩:∃L:Nat->Fr->St->Prop,∀j fr S',L j fr S'<->∃(i:Nat) (nv:V),j+i=l.length/\fr 1= .ptr (up 0 n0) 0/\fr 3=lv/\fr 4= .int .i64 k/\fr 5=nv/\fr 6= .int .i64 i/\Gr S0 S'/\SlF S0 S' lv 1 (strs has)/\SlF S0 S' nv 1 (strs (rndR (l.take i) has))/\(∀r,rowOf nv=some r->rowOf lv≠some r):=⟨_,fun _ _ _=>Iff.rfl⟩
   refine Jq L l.length (by omega) ((hL _ _ _).2 ⟨0, .snil,by omega,by simp only[XZ,simprocAttr,f1],by simp only[XZ,simprocAttr,f3],by simp only[XZ,simprocAttr,f4],by simp only[XZ,simprocAttr],by simp only[XZ,simprocAttr]<;>rfl,hg,hlv,SlF.nil _ _ _,fun r h=>by cases h⟩) ?_
   clear f1 f3 f4 rS hg hlv
   intro j2 fr S' hLj
   obtain⟨i,nw,hj2,f1,f3,f4,f5,f6,hg,hlv,hnw,hap⟩:=(hL _ _ _).1 hLj
   have rS:=hg.cells r0
   by_cases hi:i<l.length
   ·have hi':(i:Int)<l.length:=by omega
    have hadd1:IntKind.i64.wrap ((i:Int)+1)=((i+1:Nat):Int):=by rw[Jp (by omega) (by omega)];rfl
    obtain⟨r,q,nv1,kv1,a1,a3,a4,hty,d1,d2,d3,d4⟩:=JcC h2 (kst hg) hi
    have a6:=kT (a:=1) (b:=4) a4
    have a6:ldn (S'.row r) (q+1) 4=some (.agg [.int .i64 l[i].2.kind,ofL l[i].2.name,nv1,kv1], .no):=a6
    have hc1:=kq (ks:=l.map Prod.snd) (i:=i) (by simpa using hi)
    rw[List.getElem_map]at hc1
    have htk:rndR (l.take (i+1)) has=if endsR has.contains l[i].2=true then rndR (l.take i) has++[l[i].1]else rndR (l.take i) has:=by
     unfold rndR
     rw[List.take_succ_eq_append_getElem hi,List.filter_append,List.map_append]
     by_cases e:endsR has.contains l[i].2=true
     ·rw[if_pos e];simp[List.filter,e]
     ·rw[if_neg e];simp[List.filter,e]
    simp only[XZ,simprocAttr,f1,f3,f6,rS,l1,hi',a1,a6]
    refine Jb (rendsC _ l[i].2 (Nat.lt_succ_self _) P _ S' lv has _ hg.wf hlv.at (by omega) (kty hg hty) (by omega)) ?_
    rintro _ S2 ⟨g2,rfl⟩
    have G2:=hg.trans g2
    have r2:=G2.cells r0
    cases hb:endsR has.contains l[i].2 with
    | false=>
      rw[if_neg (by rw[hb];simp)]at htk
      simp only[XZ,simprocAttr,f6,hadd1]
      exact⟨l.length-(i+1),by omega,(hL _ _ _).2 ⟨i+1,nw,by omega,by simp only[XZ,simprocAttr,f1],by simp only[XZ,simprocAttr,f3],by simp only[XZ,simprocAttr,f4],by simp only[XZ,simprocAttr,f5],by simp only[XZ,simprocAttr],G2,hlv.gr g2,by rw[htk];exact hnw.gr g2,hap⟩⟩
    | true=>
      rw[if_pos hb]at htk
      obtain⟨r',q',nv2,kv2,b1,b3,b4,_⟩:=JcC h2 (kst G2) hi
      have b5:=kA b4 (j:=0) (by decide) rfl
      have b5:ld1 (S2.row r') q'=some (ofL l[i].1, .no):=b5
      have w2:=g2.wf
      obtain⟨n2,hn2⟩:∃n,S2.nx=up 0 n:=⟨_,up0 _⟩
      simp only[XZ,simprocAttr,f1,f5,f6,r2,b1,b5,hn2]
      have gn:Gr S2 (S2.new fun t=> .cells t [ofL l[i].1]):=Gr.new w2 (Ja _)
      have hone:SlAt (fun r=>r=up 0 n2) (S2.new fun t=> .cells t [ofL l[i].1]) (.slx (up 0 n2) 0 1 1 1) 1 [[ofL l[i].1]]:=by
       have:=YI (st:=S2) (z:=1) (e:=[ofL l[i].1]) rfl
       rwa [hn2]at this
      have hrl:=Jh8 (l.take i) has
      rw[List.length_take]at hrl
      refine jr (S0:=S0) (G2.trans gn) ((hnw.gr g2).gr gn) hone (fun e he=>by rw[List.mem_singleton.1 he];rfl) (by simp) (by rw[JL];simp;omega) ?_
      intro S3 v3 g3 h3 rv kp
      have hlv2:=(hlv.gr g2).gr gn
      have hlv3:SlF S0 S3 lv 1 (strs has):=hlv2.keep fun r hr=>kp r (by obtain⟨_,t,e⟩:=hlv2.row hr;rw[e];exact fun e=>by cases e) (fun e=>hap r e hr)
      simp only[XZ,simprocAttr,f6,hadd1]
      refine⟨l.length-(i+1),by omega,(hL _ _ _).2 ⟨i+1,v3,by omega,by simp only[XZ,simprocAttr,f1],by simp only[XZ,simprocAttr,f3],by simp only[XZ,simprocAttr,f4],by simp only[XZ,simprocAttr],by simp only[XZ,simprocAttr],g3,hlv3, ?_, ?_⟩⟩
      ·rw[htk]
       have:strs (rndR (l.take i) has++[l[i].1])=strs (rndR (l.take i) has)++[[ofL l[i].1]]:=by unfold strs;simp
       rw[this];exact h3
      ·intro r hr e
       rcases rv with rv|rv
       ·exact hap r (by rw[<-rv];exact hr) e
       ·rw[rv]at hr
        injection hr with hr
        obtain⟨_,t,e2⟩:=hlv2.row e
        rw[<-hr]at e2
        have:=KQ gn.wf
        rw[e2]at this;cases this
   ·have hi':¬(i:Int)<l.length:=by omega
    rw[List.take_of_length_le (by omega)]at hnw
    simp only[XZ,simprocAttr,f1,f6,rS,l1,hi']
    exact(hJ _ _).2 ⟨nw,by simp only[XZ,simprocAttr,f1],by simp only[XZ,simprocAttr,f4],by simp only[XZ,simprocAttr,f5],hg,hnw⟩
  clear f1 f3 f4
  intro fr S' hJf
  obtain⟨nw,f1,f4,f5,hg',hnw⟩:=(hJ _ _).1 hJf
  simp only[XZ,simprocAttr,f4,f5,haddk]
  exact⟨l.length+1-(k+1),by omega,(hI _ _ _).2 ⟨k+1,nw,rndR l has,by omega,by simp only[XZ,simprocAttr,f1],by simp only[XZ,simprocAttr],by simp only[XZ,simprocAttr],hg',hnw,Jh8 l has,hrec⟩⟩
 ·have hk':¬(k:Int)<=l.length:=by omega
  rw[show l.length+1-k=0 by omega]at hrec
  have hrec:finR l (l.length+1) []=has:=hrec
  simp only[XZ,simprocAttr,f1,f3,f4,rS,l1,hk']
  refine fin _ _ (kst hg) fun _=> ?_
  rw[hrec]
  exact hlv.at.imp fun r p _=>⟨Ch.fresh (Ch.of (fun _=>False) g0) p,rfl⟩
end Go.Proofs.Ytcahllomeaimeaa
