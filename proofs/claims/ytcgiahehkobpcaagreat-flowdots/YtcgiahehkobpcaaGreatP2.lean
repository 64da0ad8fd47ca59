/- Trees made of raw ones, without names, hold no name. What stays beside a table that gro -/
import Derived.Test.YtcgiahehkobpcaaGreatP1
import Derived.ChangeArms
set_option linter.unusedVariables false
set_option linter.unusedSimpArgs false
set_option linter.unusedSectionVars false
set_option maxRecDepth 100000
namespace Eva
open Go Go.RowKit
def TabX (S:St)(W:Pt->Prop)(rt:Pt)(tb:Tb):Prop:=WF S/\∃F,Tab W F S rt tb
def Kept (S:St)(W:Pt->Prop)(S':St)(W':Pt->Prop):Prop:=∀r,S.row r≠ .none->¬W r->S'.row r=S.row r/\¬W' r
section
variable {S S' S'' : St} {W W' W'' : Pt -> Prop} {rt : Pt} {tb : Tb}
theorem Kept.refl (S:St)(W:Pt->Prop):Kept S W S W:=fun r _ h=>⟨rfl,h⟩
theorem Kept.trans (h:Kept S W S' W')(k:Kept S' W' S'' W''):Kept S W S'' W'':=fun r e n=>by
 obtain⟨h1,h2⟩:=h r e n;obtain⟨k1,k2⟩:=k r (by rw[h1];exact e) h2;exact⟨by rw[k1,h1],k2⟩
theorem Kept.gr (g:Gr S S')(W:Pt->Prop):Kept S W S' W:=fun r e n=>⟨g.same r e,n⟩
theorem Kept.ch (c:Ch W S S')(h:∀r,W' r->W r\/S.row r= .none):Kept S W S' W':=fun r e n=>⟨c.same r e n,fun w=>by rcases h r w with w|w;exact n w;exact e w⟩
theorem Kept.row (h:Kept S W S' W'){p:Pt}{t:Nat}{l:List V}(e:S.row p= .cells t l)(n:¬W p):S'.row p= .cells t l:=by rw[(h p (by rw[e];exact fun k=>by cases k) n).1,e]
theorem Kept.out (h:Kept S W S' W'){p:Pt}(e:S.row p≠ .none)(n:¬W p):¬W' p:=(h p e n).2
theorem Kept.ty (h:Kept S W S' W'){e:List V}{t:Ty}(k:TyC (fun r=>¬W r) S e t):TyC (fun r=>¬W' r) S' e t:=k.imp fun r n e=>⟨(h r e n).2,(h r e n).1⟩
theorem Kept.sl (h:Kept S W S' W'){v:V}{z:Nat}{es:List (List V)}(k:SlAt (fun r=>¬W r) S v z es):SlAt (fun r=>¬W' r) S' v z es:=k.imp fun r n e=>⟨(h r e n).2,(h r e n).1⟩
theorem TabX.gr (h:TabX S W rt tb)(g:Gr S S'):TabX S' W rt tb:=by
 obtain⟨_,F,h⟩:=h;exact⟨g.wf,F,h.gr g⟩
theorem TabX.own (h:TabX S W rt tb){r:Pt}(e:S.row r= .none):¬W r:=by
 obtain⟨_,F,_,_,_,_,_,_,h⟩:=h;exact fun w=>h.own r w e
theorem TyC.new (h:TabX S W rt tb){P:Pt->Prop}(hP:∀r,P r->¬W r){e:List V}{t:Ty}(k:TyC P S e t):TyC (fun r=>¬W r) S e t:=k.imp fun r p _=>⟨hP r p,rfl⟩
end
theorem Y7 {nodes:List Nd}{t:Ty}{i:Nat}(h:lookT nodes t=some i):∃ids,nodes[i]? =some ⟨t.kind,t.name,t.names,ids⟩/\looksT nodes t.kids=some ids:=by
 obtain⟨k,n,ns,ks⟩:=t;rw[lookT]at h
 cases c:looksT nodes ks with
 |none=>rw[c]at h;cases h
 | some ids=>
   rw[c]at h;have:=(JdH h).2;rw[Nat.sub_zero]at this;exact⟨ids,this,c⟩
theorem Jgz {nodes:List Nd}{k:Int}{X:Ty}{p i:Nat}(h:lookT nodes (.mk k [] [] [X])=some p)(hx:lookT nodes X=some i):nodes[p]? =some ⟨k,[],[],[i]⟩:=by
 obtain⟨ids,h1,h2⟩:=Y7 h;rw[show(Ty.mk k [] [] [X]).kids=[X]from rfl,looksT,hx,looksT]at h2;injection h2 with h2;rw[h1,<-h2];rfl
theorem JmO (t:Ty)(left:Int)(tb:Tb):∃r,(addT t left tb).1={tb with nodes:=tb.nodes++r}:=addT_pre t left tb
where
 addT_pre:∀(t:Ty) (left:Int) (tb:Tb),∃r,(addT t left tb).1={tb with nodes:=tb.nodes++r}
  | .mk k n ns ks,left,tb=>by
    rw[Q7]
    split
    ·exact⟨[],by simp⟩
    ·obtain⟨r,hr⟩:=addTs_pre ks (left-1) tb;generalize addTs ks (left-1) tb=x at hr⊢;obtain⟨tb1,ids,e,l1⟩:=x;simp only at hr⊢;by_cases he:e=0
     ·rw[if_neg (fun k=>k he)];simp only;unfold layS
      split
      ·exact⟨r,hr⟩
      ·split
       ·exact⟨r,hr⟩
       ·exact⟨r++[⟨k,n,ns,ids⟩],by rw[hr];simp⟩
     ·rw[if_pos he];exact⟨r,hr⟩
 addTs_pre:∀(ts:List Ty) (left:Int) (tb:Tb),∃r,(addTs ts left tb).1={tb with nodes:=tb.nodes++r}
  |[],left,tb=>⟨[],by rw[Qw];simp⟩
  | t::ts,left,tb=>by
    rw[Qe];obtain⟨r,hr⟩:=addT_pre t left tb;generalize addT t left tb=x at hr⊢;obtain⟨tb1,i,e,l1⟩:=x;simp only at hr⊢;by_cases he:e=0
    ·rw[if_neg (fun k=>k he)];obtain⟨r2,hr2⟩:=addTs_pre ts l1 tb1;generalize addTs ts l1 tb1=y at hr2⊢;obtain⟨tb2,is,e2,l2⟩:=y;simp only at hr2⊢;exact⟨r++r2,by rw[hr2,hr];simp⟩
    ·rw[if_pos he];exact⟨r,hr⟩
structure Holds (tb:Tb) (X Y:Ty) (i j:Nat) (is:Bool):Prop where
 acy:Acy tb
 x:lookT tb.nodes X=some i
 y:lookT tb.nodes Y=some j
 fits:∃f W,fitsS tb f [] i j=some (is,W)
theorem Holds.lt {tb:Tb}{X Y:Ty}{i j:Nat}{is:Bool}(h:Holds tb X Y i j is):i<tb.nodes.length/\j<tb.nodes.length:=by
 obtain⟨_,h1,_⟩:=Y7 h.x;obtain⟨_,h2,_⟩:=Y7 h.y;exact⟨(List.getElem?_eq_some_iff.1 h1).1,(List.getElem?_eq_some_iff.1 h2).1⟩
theorem Holds.ext {tb tb':Tb}{X Y:Ty}{i j:Nat}{is:Bool}(h:Holds tb X Y i j is)(ha:Acy tb')(hr:∃r,tb'.nodes=tb.nodes++r):Holds tb' X Y i j is:=by
 obtain⟨r,hr⟩:=hr;obtain⟨l1,l2⟩:=h.lt;obtain⟨f,W,hf⟩:=h.fits;refine⟨ha,by rw[hr];exact ko X h.x,by rw[hr];exact ko Y h.y,f,W, ?_⟩;rw[Jjh h.acy ha (fun i n e=>by rw[hr,List.getElem?_append_left (List.getElem?_eq_some_iff.1 e).1];exact e) f [] i j l1 l2];exact hf
theorem Holds.add {tb:Tb}{X Y Z:Ty}{i j:Nat}{is:Bool}(h:Holds tb X Y i j is)(hz:noName Z=true)(left:Int):Holds (addT Z left tb).1 X Y i j is:=by
 obtain⟨r,hr⟩:=JmO Z left tb;exact h.ext (Jjg Z hz h.acy).1 ⟨r,by rw[hr]⟩
theorem Holds.wrap {tb:Tb}{X Y:Ty}{i j:Nat}{is:Bool}(h:Holds tb X Y i j is)(nX:noName X=true)(nY:noName Y=true){k:Int}(hk:k=4\/k=5)(hg:(addT (.mk k [] [] [X]) 400 tb).2.2.1=0)(hh:(addT (.mk k [] [] [Y]) 400 (addT (.mk k [] [] [X]) 400 tb).1).2.2.1=0):
  ∃f W,fitsS (addT (.mk k [] [] [Y]) 400 (addT (.mk k [] [] [X]) 400 tb).1).1 f [] (addT (.mk k [] [] [X]) 400 tb).2.1 (addT (.mk k [] [] [Y]) 400 (addT (.mk k [] [] [X]) 400 tb).1).2.1=some (is,W):=by
 have n1:noName (.mk k [] [] [X])=true:=by rw[noName,noNames,noNames,nX];rcases hk with rfl|rfl<;>rfl
 have n2:noName (.mk k [] [] [Y])=true:=by rw[noName,noNames,noNames,nY];rcases hk with rfl|rfl<;>rfl
 have h2:=(h.add n1 400).add n2 400;obtain⟨r1,a1,a2,_⟩:=Jah _ hg;obtain⟨r2,b1,b2,_⟩:=Jah _ hh;generalize addT (.mk k [] [] [X]) 400 tb=A at*;generalize addT (.mk k [] [] [Y]) 400 A.1=B at*;have e1:=Jgz (by rw[b1];exact ko _ a2) h2.x;have e2:=Jgz b2 h2.y;obtain⟨f,W,hf⟩:=h2.fits;obtain⟨V,hV⟩:=JmM h2.acy hk e1 e2 hf;exact⟨_,V,hV⟩
theorem JmP (tb:Tb)(n:Nd):∃r,(layS tb n).1={tb with nodes:=tb.nodes++r}:=by
 unfold layS
 split
 ·exact⟨[],by simp⟩
 ·split
  ·exact⟨[],by simp⟩
  ·exact⟨[n],rfl⟩
theorem Holds.lay {tb:Tb}{X Y:Ty}{i j:Nat}{is:Bool}(h:Holds tb X Y i j is):Holds (layS tb ⟨6,[],[],[j]⟩).1 X Y i j is:=by
 obtain⟨r,hr⟩:=JmP tb ⟨6,[],[],[j]⟩;exact h.ext (Jl7 h.acy (show(6:Int)≠9 by decide) fun k hk=>by rw[List.mem_singleton.1 hk];exact h.lt.2) ⟨r,by rw[hr]⟩
def TysF (P:Pt->Prop)(S0 st:St)(v:V)(ts:List Ty):Prop:=∃es,SlF S0 st v 4 es/\es.length=ts.length/\∀i (h:i<es.length) (h':i<ts.length),TyC P S0 es[i] ts[i]
section
variable {P : Pt -> Prop} {S0 st st' : St} {v : V} {ts : List Ty}
theorem TysF.nil (P:Pt->Prop)(S0 st:St):TysF P S0 st .snil []:=⟨[],SlF.nil _ _ _,rfl,fun i h=>absurd h (by simp)⟩
theorem TysF.gr (h:TysF P S0 st v ts)(g:Gr st st'):TysF P S0 st' v ts:=by
 obtain⟨es,h1,h2,h3⟩:=h;exact⟨es,h1.gr g,h2,h3⟩
theorem TysF.keep (h:TysF P S0 st v ts)(k:∀r,rowOf v=some r->st'.row r=st.row r):TysF P S0 st' v ts:=by
 obtain⟨es,h1,h2,h3⟩:=h;exact⟨es,h1.keep k,h2,h3⟩
theorem TysF.lst (h:TysF P S0 st v ts)(g:Gr S0 st){Q:Pt->Prop}(hQ:∀r,P r->Q r)(hN:∀r,S0.row r= .none->Q r):LstAt (TyC Q st) Q st v 4 ts:=by
 obtain⟨es,h1,h2,h3⟩:=h;exact⟨es,h1.at.imp fun r p _=>⟨hN r p,rfl⟩,h2,fun i a b=>(h3 i a b).imp fun r p e=>⟨hQ r p,g.same r e⟩⟩
theorem TysF.row (h:TysF P S0 st v ts){r:Pt}(hr:rowOf v=some r):S0.row r= .none:=by
 obtain⟨es,h1,_⟩:=h;exact(h1.row hr).1
theorem TysF.alive (h:TysF P S0 st v ts){r:Pt}(hr:rowOf v=some r):st.row r≠ .none:=by
 obtain⟨es,h1,_⟩:=h;obtain⟨_,t,e⟩:=h1.row hr;rw[e];exact fun e=>by cases e
theorem JdI (hg:Gr S0 st)(h:TysF P S0 st v ts){Px:Pt->Prop}{vx:V}{xs:List (List V)}{ts':List Ty}(hx:SlAt Px st vx 4 xs)(hlen:xs.length=ts'.length)(hty:∀i (h:i<xs.length) (h':i<ts'.length),TyC P S0 xs[i] ts'[i])(hn:ts'.length<2^20)(hn2:ts.length+ts'.length<=2^24){R:V->St->Prop}
  (k:∀S' v',Gr S0 S'->TysF P S0 S' v' (ts++ts')->(rowOf v'=rowOf v\/rowOf v'=some st.nx)->(∀p,st.row p≠ .none->rowOf v≠some p->S'.row p=st.row p)->R v' S'):wW (appV st 4 v vx) st R:=by
 obtain⟨es,h1,h2,h3⟩:=h;have hok:okC xs:=fun e he=>by
  obtain⟨j,hj,rfl⟩:=List.mem_iff_getElem.1 he;exact(hty j hj (by omega)).ok
 refine JdD hg h1 hx hok (by omega) (by omega) fun S' v' g s r kp=>k S' v' g ⟨es++xs,s,by simp;omega,fun i a b=> ?_⟩ r kp;by_cases hi:i<es.length
 ·rw[List.getElem_append_left hi,List.getElem_append_left (by omega)];exact h3 i hi (by omega)
 ·have hl:(es++xs).length=es.length+xs.length:=List.length_append;have hj:i-es.length<xs.length:=by omega
  rw[List.getElem_append_right (by omega),List.getElem_append_right (by omega)];have:=hty (i-es.length) hj (by omega);have e:∀a b (ha:a<ts'.length) (hb:b<ts'.length),a=b->ts'[a]=ts'[b]:=by intro a b _ _ e;subst e;rfl
  rw[e (i-ts.length) (i-es.length) (by omega) (by omega) (by omega)];exact this
theorem Jky {st:St}{p:Pt}(hn:st.nx=p){e:List V}(h4:e.length=4):SlAt (fun r=>r=p) (st.new fun t=> .cells t e) (.slx p 0 1 4 1) 4 [e]:=by
 have:=kP (st:=st) (z:=4) h4
 rwa [hn]at this
end
theorem RwsAt.imp {P Q:Pt->Prop}{st st':St}{v:V}{qs:List Rw}(h:RwsAt P st v qs)(k:∀r,P r->st.row r≠ .none->Q r/\st'.row r=st.row r):RwsAt Q st' v qs:=by
 obtain⟨es,h1,h2,h3,h4⟩:=h;exact⟨es,h1.imp k,h2,h3,fun i a b=>(h4 i a b).imp k⟩
theorem RwsAt.gr {P:Pt->Prop}{st st':St}{v:V}{qs:List Rw}(h:RwsAt P st v qs)(g:Gr st st'):RwsAt P st' v qs:=h.imp fun r p e=>⟨p,g.same r e⟩
theorem RwsAt.len {P:Pt->Prop}{st:St}{v:V}{qs:List Rw}(h:RwsAt P st v qs):lenLV v=some (.int .i64 qs.length, .no)/\v.sc=true/\v.cells=some [v]/\qs.length<2^63:=by
 obtain⟨es,h1,h2,h3,h4⟩:=h;exact⟨by rw[h1.len,h2],h1.sc,h1.cells,h3⟩
theorem RwsAt.elem {P:Pt->Prop}{st:St}{v:V}{qs:List Rw}(h:RwsAt P st v qs){i:Nat}(hi:i<qs.length):
  ∃r o kv nv,iaddrSV 4 v (.int .i64 i)=some (.ptr r o, .no)/\st.row r≠ .none/\ldn (st.row r) o 4=some (.agg [.int .i64 qs[i].kind, .int .i64 qs[i].n,nv,kv], .no)/\RwC P st [.int .i64 qs[i].kind, .int .i64 qs[i].n,nv,kv] qs[i]/\ld1 (st.row r) (o+3)=some (kv, .no)/\∃es,SlAt P st kv 4 es/\es.length=qs[i].kids.length/\qs[i].kids.length<2^63/\∀j (h:j<es.length) (h':j<qs[i].kids.length),RwC P st es[j] qs[i].kids[j]:=by
 obtain⟨es,h1,h2,h3,h4⟩:=h;obtain⟨r,o,a1,a2,a3,a4,a5⟩:=h1.elem (i:=i) (by omega);have h5:=h4 i (by omega) hi;have h6:=h5;obtain⟨nv,kv,xs,he,hk,hn,hz,b1,b2,b3,⟨b4,b5⟩,b6⟩:=h5.inv;rw[he]at a4 h6;have a6:=a5 3 (by rw[he];exact(by decide:3<4));simp only[he]at a6;exact⟨r,o,kv,nv,a1,a3,a4,h6,a6,xs,b2,b3,b5,b6⟩
structure LsF {α:Type} (C:(Pt->Prop)->St->List V->α->Prop) (st S1:St) (B:Pt->Prop) (z:Nat) (S:St) (v:V) (l:List α):Prop where
 g:Gr st S
 keep:∀r,S1.row r≠ .none->¬B r->S.row r=S1.row r
 live:∀r,S1.row r≠ .none->S.row r≠ .none
 own:∀r,rowOf v=some r->S1.row r= .none
 es:∃es,SlF st S v z es/\es.length=l.length/\∀i (h:i<es.length) (h':i<l.length),C (fun r=>¬B r/\rowOf v≠some r) S es[i] l[i]
section
variable {α : Type} {C : (Pt -> Prop) -> St -> List V -> α -> Prop} {st S1 S S' : St} {B : Pt -> Prop} {z : Nat} {v : V} {l : List α}
theorem LsF.nil (h:Gr st S1):LsF C st S1 B z S1 .snil []:=⟨h,fun r _ _=>rfl,fun r e=>e,fun r e=>(by cases e),⟨[],SlF.nil _ _ _,rfl,fun i h=>absurd h (by simp)⟩⟩
theorem LsF.gr (hC:∀{P Q:Pt->Prop} {st st':St} {e:List V} {x:α},C P st e x->(∀r,P r->st.row r≠ .none->Q r/\st'.row r=st.row r)->C Q st' e x)(h:LsF C st S1 B z S v l)(g:Gr S S'):LsF C st S1 B z S' v l:=by
 obtain⟨es,h1,h2,h3⟩:=h.es;exact⟨h.g.trans g,fun r e n=>by rw[g.same r (h.live r e)];exact h.keep r e n,fun r e=>by rw[g.same r (h.live r e)];exact h.live r e,h.own,es,h1.gr g,h2,fun i a b=>hC (h3 i a b) fun r p e=>⟨p,g.same r e⟩⟩
theorem LsF.alive (h:LsF C st S1 B z S v l){r:Pt}(hr:rowOf v=some r):S.row r≠ .none:=by
 obtain⟨es,h1,_⟩:=h.es;exact h1.some hr
theorem LsF.sc (h:LsF C st S1 B z S v l):v.sc=true/\v.cells=some [v]:=by
 obtain⟨es,h1,_⟩:=h.es;exact⟨h1.at.sc,h1.at.cells⟩
theorem LsF.wr (hC:∀{P Q:Pt->Prop} {st st':St} {e:List V} {x:α},C P st e x->(∀r,P r->st.row r≠ .none->Q r/\st'.row r=st.row r)->C Q st' e x)(h:LsF C st S1 B z S v l){p:Pt}{t:Nat}{c:List V}{c':List V}(hp:B p)(h0:st.row p= .none)(h1:S1.row p≠ .none)(e:S.row p= .cells t c):LsF C st S1 B z (S.wr p t fun u=> .cells u c') v l:=by
 have ne:∀r,¬B r->r≠p:=fun r n k=>n (by rw[k];exact hp);obtain⟨es,h2,h3,h4⟩:=h.es;refine⟨h.g.wr h0 (Jd e) (by rw[e];rfl) (Ja _),fun r a n=>by rw[JR _ _ _ (ne r n)];exact h.keep r a n,fun r a=> ?_,h.own,es,h2.keep fun r hr=>JR _ _ _ fun k=> ?_,h3,fun i a b=>hC (h4 i a b) fun r q _=>⟨q,JR _ _ _ (ne r q.1)⟩⟩
 ·by_cases k:r=p
  ·rw[k,J7];exact fun e=>by cases e
  ·rw[JR _ _ _ k];exact h.live r a
 ·exact h1 (by rw[<-k];exact h.own r hr)
theorem JqD (hC:∀{P Q:Pt->Prop} {st st':St} {e:List V} {x:α},C P st e x->(∀r,P r->st.row r≠ .none->Q r/\st'.row r=st.row r)->C Q st' e x)(h:LsF C st S1 B z S v l){P:Pt->Prop}{vx:V}{e:List V}{x:α}(hx:SlAt P S vx z [e])(hok:allSc e=true)(hc:C (fun r=>¬B r/\rowOf v≠some r) S e x)(hB:∀r,B r->S1.row r≠ .none)(hn:l.length<1000){R:V->St->Prop}
  (k:∀S' v',LsF C st S1 B z S' v' (l++[x])->(∀p,S.row p≠ .none->rowOf v≠some p->S'.row p=S.row p)->R v' S'):wW (appV S z v vx) S R:=by
 obtain⟨es,h1,h2,h3⟩:=h.es;refine JdD h.g h1 hx (fun a ha=>by rw[List.mem_singleton.1 ha];exact hok) (by simp) (by simp;omega) fun S' v' g s r kp=>k S' v' ?_ kp;have hw:=h.g.wf;have key:∀r,S.row r≠ .none->rowOf v≠some r->rowOf v'≠some r:=fun q a b c=>by
  rcases r with e|e
  ·exact b (by rw[<-e];exact c)
  ·rw[e]at c;injection c with c;rw[<-c]at a;exact a (Q3 hw)
 have sub:∀{e:List V} {y:α},C (fun r=>¬B r/\rowOf v≠some r) S e y->C (fun r=>¬B r/\rowOf v'≠some r) S' e y:=fun h=>hC h fun r p e=>⟨⟨p.1,key r e p.2⟩,kp r e p.2⟩
 refine⟨g,fun r a n=> ?_,fun r a=> ?_,fun q hq=> ?_,es++[e],s,by simp[h2],fun i a b=> ?_⟩
 ·rw[kp r (h.live r a) fun e=>a (h.own r e)];exact h.keep r a n
 ·rw[kp r (h.live r a) fun e=>a (h.own r e)];exact h.live r a
 ·rcases r with e|e
  ·exact h.own q (by rw[<-e];exact hq)
  ·rw[e]at hq;injection hq with hq;apply Classical.byContradiction;intro n;exact h.live q n (by rw[<-hq];exact Q3 hw)
 ·by_cases hi:i<es.length
  ·rw[List.getElem_append_left hi,List.getElem_append_left (by omega)];exact sub (h3 i hi (by omega))
  ·have hl:(es++[e]).length=es.length+1:=by simp
   have hi2:i=es.length:=by omega
   subst hi2;have e1:(es++[e])[es.length]=e:=by simp
   have e2:(l++[x])[es.length]=x:=by simp[h2]
   rw[e1,e2];exact sub hc
theorem JqE {S0:St}{es:List (List V)}{P:Pt->Prop}(h:SlF S0 st v z es)(k:∀r,rowOf v=some r->P r):SlAt P st v z es:=by
 refine⟨h.1, ?_⟩;rcases h.2 with h2|⟨r,t,h2,h3,h4⟩
 ·exact .inl h2
 ·have hr:rowOf v=some r:=by rcases h4 with h4|h4<;>rw[h4]<;>rfl
  refine .inr ⟨r,0,k r hr, ?_,es.flatten, .inl ⟨t,h3⟩,by rw[JC h.1];omega,by rw[List.drop_zero,<-JC h.1,List.take_length]⟩;rcases h4 with h4|h4
  ·exact .inl h4
  ·exact .inr ⟨_,Nat.le_refl _,h4⟩
theorem LsF.lst (hC:∀{P Q:Pt->Prop} {st st':St} {e:List V} {x:α},C P st e x->(∀r,P r->st.row r≠ .none->Q r/\st'.row r=st.row r)->C Q st' e x)(h:LsF C st S1 B z S v l)(hB:∀r,B r->S1.row r≠ .none):LstAt (C (fun r=>¬B r) S) (fun r=>¬B r) S v z l:=by
 obtain⟨es,h1,h2,h3⟩:=h.es;exact⟨es,JqE h1 fun r hr b=>hB r b (h.own r hr),h2,fun i a b=>hC (h3 i a b) fun r p _=>⟨p.1,rfl⟩⟩
end
def Own (st:St)(tv sv:V)(r:Pt):Prop:=st.row r= .none/\rowOf tv≠some r/\rowOf sv≠some r
def SgT (tv:V)(P:Pt->Prop)(st:St)(e:List V)(x:Sg):Prop:=SgC (fun r=>P r/\rowOf tv≠some r) st e x
theorem SgT.imp {tv:V}{P Q:Pt->Prop}{st st':St}{e:List V}{x:Sg}(h:SgT tv P st e x)(k:∀r,P r->st.row r≠ .none->Q r/\st'.row r=st.row r):SgT tv Q st' e x:=SgC.imp h fun r p e=>⟨⟨(k r p.1 e).1,p.2⟩,(k r p.1 e).2⟩
structure SchF (st S:St) (c:List V) (tv sv:V) (s:Sch):Prop where
 main:TyC (Own st tv sv) S c s.main
 types:∃es,SlF st S tv 5 es/\es.length=s.types.length/\∀i (h:i<es.length) (h':i<s.types.length),NmC (Own st tv sv) S es[i] s.types[i]
 sigs:∃es,SlF st S sv 6 es/\es.length=s.sigs.length/\∀i (h:i<es.length) (h':i<s.sigs.length),SgC (Own st tv sv) S es[i] s.sigs[i]
 apart:∀r,rowOf tv=some r->rowOf sv≠some r
theorem SchF.c {st S:St}{c:List V}{tv sv:V}{s:Sch}(h:SchF st S c tv sv s):SchC (fun r=>st.row r= .none) S (c++[tv,sv]) s:=by
 obtain⟨m,⟨es,t1,t2,t3⟩,⟨gs,g1,g2,g3⟩,_⟩:=h;exact⟨c,tv,sv,rfl,m.imp fun r p _=>⟨p.1,rfl⟩,⟨es,t1.at,t2,fun i a b=>(t3 i a b).imp fun r p _=>⟨p.1,rfl⟩⟩,⟨gs,g1.at,g2,fun i a b=>(g3 i a b).imp fun r p _=>⟨p.1,rfl⟩⟩⟩
section
variable {H : Type} {enc : TypeId × Value -> H} {P : Program} {W : World} {ρ : Nat -> Value}
structure TyTy (P:Program) (t ti tr tn tk:TypeId):Prop where
 ty:∃f0 f1 f2 f3:Field,P.underlying t=some (.struct #[f0,f1,f2,f3])/\(f0.type=ti/\f0.offset=0)/\(f1.type=tr/\f1.offset=1)/\(f2.type=tn/\f2.offset=2)/\(f3.type=tk/\f3.offset=3)
 int:P.underlying ti=some (.int .i64)
 str:P.underlying tr=some .string
 names:P.underlying tn=some (.slice tr)
 kids:P.underlying tk=some (.slice t)
 ct:P.cellsOf t=4
 ci:P.cellsOf ti=1
 cr:P.cellsOf tr=1
 cn:P.cellsOf tn=1
 ck:P.cellsOf tk=1
structure SchTy (P:Program) (ts tts tgs tnm tsg:TypeId) (t ti tr tn tk:TypeId):Prop where
 ty:TyTy P t ti tr tn tk
 sch:∃f0 f1 f2:Field,P.underlying ts=some (.struct #[f0,f1,f2])/\(f0.type=t/\f0.offset=0)/\(f1.type=tts/\f1.offset=4)/\(f2.type=tgs/\f2.offset=5)
 nm:∃f0 f1:Field,P.underlying tnm=some (.struct #[f0,f1])/\(f0.type=tr/\f0.offset=0)/\(f1.type=t/\f1.offset=1)
 sg:∃f0 f1 f2:Field,P.underlying tsg=some (.struct #[f0,f1,f2])/\(f0.type=tr/\f0.offset=0)/\(f1.type=tk/\f1.offset=1)/\(f2.type=t/\f2.offset=2)
 types:P.underlying tts=some (.slice tnm)
 sigs:P.underlying tgs=some (.slice tsg)
 c6:P.cellsOf ts=6
 cts:P.cellsOf tts=1
 cgs:P.cellsOf tgs=1
 c5:P.cellsOf tnm=5
 cs6:P.cellsOf tsg=6
end
theorem Jji {e R vs:List V}{off:Nat}(h:off+vs.length<=e.length):splice (e++R) off vs=splice e off vs++R:=by
 rw[Qx,Qx,List.take_append_of_le_length (by omega),List.drop_append_of_le_length h];simp only[List.append_assoc]
theorem Jhs {e R vs:List V}{m:Nat}:splice (e++R) (e.length+m) vs=e++splice R m vs:=by
 rw[Qx,Qx,List.take_append,List.drop_append,List.take_of_length_le (by omega),List.drop_eq_nil_of_le (by omega)];rw[show e.length+m-e.length=m by omega,show e.length+m+vs.length-e.length=m+vs.length by omega];simp
theorem Jjj {z:Nat}:∀{es:List (List V)},(∀e∈es,e.length=z)->∀{k:Nat} (hk:k<es.length) {off:Nat} {vs:List V},off+vs.length<=z->splice es.flatten (k*z+off) vs=(es.set k (splice es[k] off vs)).flatten
 |[],_,k,hk,_,_,_=>absurd hk (by simp)
 | e::r,hz,k,hk,off,vs,ho=>by
   have he:=hz e (by simp);rw[List.flatten_cons]
   cases k with
   | zero=>
     rw[Nat.zero_mul,Nat.zero_add,Jji (by omega)];rfl
   | succ k=>
     have ih:=Jjj (es:=r) (fun x hx=>hz x (List.mem_cons_of_mem _ hx)) (k:=k) (by simpa using hk) ho;rw[show(k+1)*z+off=e.length+(k*z+off) by rw[Nat.succ_mul,he];omega,Jhs,ih];rfl
theorem JqF {S0 S:St}{v:V}{z:Nat}{es:List (List V)}(h:SlF S0 S v z es){k:Nat}(hk:k<es.length):
  ∃r t,rowOf v=some r/\S0.row r= .none/\S.row r= .cells t es.flatten/\iaddrSV z v (.int .i64 (k:Int))=some (.ptr r (k*z), .no)/\es[k].length=z/\
   ∀(S':St) (t' off:Nat) (vs:List V),off+vs.length<=z->S'.row r= .cells t' (splice es.flatten (k*z+off) vs)->SlF S0 S' v z (es.set k (splice es[k] off vs)):=by
 have hz:=h.1;rcases h.2 with⟨_,rfl⟩|⟨r,t,h1,h2,h3⟩
 ·exact absurd hk (by simp)
 refine⟨r,t, ?_,h1,h2, ?_,hz _ (List.getElem_mem hk),fun S' t' off vs ho hr=>⟨fun e he=> ?_, .inr ⟨r,t',h1, ?_, ?_⟩⟩⟩
 ·rcases h3 with rfl|rfl<;>rfl
 ·rcases h3 with rfl|rfl
  ·rw[Yg,if_pos (by omega)];simp
  ·rw[Yn,if_pos (by omega)];simp
 ·rcases List.mem_or_eq_of_mem_set he with he|rfl
  ·exact hz e he
  ·rw[Qx];have:=hz _ (List.getElem_mem hk);simp;omega
 ·rw[hr,Jjj hz hk ho]
 ·rw[List.length_set];exact h3
section
variable {st S S' : St} {c : List V} {tv sv : V} {s : Sch}
theorem SchF.add (h:SchF st S c tv sv s){v':V}{es':List (List V)}{l':List (Str×Ty)}(hS:∀q,S.row q≠ .none->rowOf tv≠some q->S'.row q=S.row q)(hsl:SlF st S' v' 5 es')(hl:es'.length=l'.length)
  (hel:∀i (h:i<es'.length) (h':i<l'.length),NmC (fun _=>True) S' es'[i] l'[i]):SchC (fun _=>True) S' (c++[v',sv]) ⟨s.main,l',s.sigs⟩:=by
 obtain⟨m,_,⟨gs,g1,g2,g3⟩,ap⟩:=h;have k:∀q,Own st tv sv q->S.row q≠ .none->True/\S'.row q=S.row q:=fun q p e=>⟨trivial,hS q e p.2.1⟩
 exact⟨c,v',sv,rfl,m.imp k,⟨es',hsl.at.imp fun _ _ _=>⟨trivial,rfl⟩,hl,hel⟩,⟨gs,(g1.keep (st':=S') fun q e=>hS q (g1.some e) fun e2=>ap q e2 e).at.imp fun _ _ _=>⟨trivial,rfl⟩,g2,fun i a b=>(g3 i a b).imp k⟩⟩
theorem SchF.gr (h:SchF st S c tv sv s)(g:Gr S S'):SchF st S' c tv sv s:=by
 obtain⟨m,⟨es,t1,t2,t3⟩,⟨gs,g1,g2,g3⟩,ap⟩:=h;have k:∀q,Own st tv sv q->S.row q≠ .none->Own st tv sv q/\S'.row q=S.row q:=fun q p e=>⟨p,g.same q e⟩
 exact⟨m.imp k,⟨es,t1.gr g,t2,fun i a b=>(t3 i a b).imp k⟩,⟨gs,g1.gr g,g2,fun i a b=>(g3 i a b).imp k⟩,ap⟩
end
theorem kT :∀{a b c:List UInt8},Op.bytesLess a b=true->Op.bytesLess b c=true->Op.bytesLess a c=true
 |_,[],_,h,_=>by simp[Op.bytesLess]at h
 |_,_::_,[],_,h=>by simp[Op.bytesLess]at h
 |[],_::_,_::_,_,_=>by simp[Op.bytesLess]
 | a::x,b::y,c::z,h,k=>by
   simp only[Op.bytesLess,Bool.or_eq_true,Bool.and_eq_true,decide_eq_true_eq,beq_iff_eq]at h k⊢;rcases h with h|⟨rfl,h⟩
   ·rcases k with k|⟨rfl,k⟩
    ·exact .inl (UInt8.lt_trans h k)
    ·exact .inl h
   ·rcases k with k|⟨rfl,k⟩
    ·exact .inl k
    ·exact .inr ⟨rfl,kT h k⟩
theorem qG :∀a:List UInt8,Op.bytesLess a a=false
 |[]=>rfl
 | a::x=>by
   simp only[Op.bytesLess,qG x,Bool.and_false,Bool.or_false,decide_eq_false_iff_not];exact UInt8.lt_irrefl a
theorem JaK :∀(p:Option Str) (l:List Str),typesS p l=0->l.Pairwise (fun a b=>Op.bytesLess a b=true)/\∀a∈l,∀q,p=some q->Op.bytesLess q a=true
 |p,[],_=>⟨List.Pairwise.nil,fun a h=>by cases h⟩
 | p,n::r,h=>by
   rw[typesS]at h
   split at h
   ·cases h
   split at h
   ·cases h
   rename_i _ h2
   obtain⟨i1,i2⟩:=JaK (some n) r h;have hp:∀q,p=some q->Op.bytesLess q n=true:=fun q hq=>by
    rw[hq]at h2;simpa[notLess]using h2
   refine⟨List.pairwise_cons.2 ⟨fun a ha=>i2 a ha n rfl,i1⟩,fun a ha q hq=> ?_⟩;rcases List.mem_cons.1 ha with rfl|ha
   ·exact hp q hq
   ·exact kT (hp q hq) (i2 a ha n rfl)
theorem JbR {l:List Str}(h:typesS none l=0):l.Nodup:=
 (JaK none l h).1.imp fun{a b} h e=>by rw[e,qG]at h;cases h
theorem kq (has:Str->Bool)(p:Option Str)(f:Sg)(r:List Sg)(met:Nat):sigsS has p (f::r) met=if(!identB f.name||qZ f.name)=true then(15,met)else if notLess p f.name=true then(6,met)else if 4<f.params.length then(18,met)else
  if(maysS has (f.params++[f.result]) 1 met).1≠0 then maysS has (f.params++[f.result]) 1 met else sigsS has (some f.name) r (maysS has (f.params++[f.result]) 1 met).2:=by rw[sigsS]
theorem Jjk (has:Str->Bool):∀(p:Option Str) (fs:List Sg) (met:Nat),met<=400->(sigsS has p fs met).1=0->(∀f∈fs,f.params.length<=4)/\(∀f∈fs,cntTs (f.params++[f.result])<=400)/\(sigsS has p fs met).2<=400
 |p,[],met,hm,h=>by rw[sigsS];exact⟨fun f h=>(by cases h),fun f h=>(by cases h),hm⟩
 | p,f::r,met,hm,h=>by
   rw[kq]at h⊢
   split at h
   ·cases h
   rename_i c1
   split at h
   ·cases h
   rename_i c2
   split at h
   ·cases h
   rename_i c3
   split at h
   ·rename_i c4;exact absurd h c4
   rename_i c4
   have c4':(maysS has (f.params++[f.result]) 1 met).1=0:=by simpa using c4
   rw[if_neg c1,if_neg c2,if_neg c3,if_neg c4];have m1:=(jC has (f.params++[f.result]) 1 met hm).2 c4';have m2:=Jaa has (f.params++[f.result]) 1 met c4';obtain⟨i1,i2,i3⟩:=Jjk has (some f.name) r _ m1 h;refine⟨fun g hg=> ?_,fun g hg=> ?_,i3⟩
   ·rcases List.mem_cons.1 hg with rfl|hg
    ·omega
    ·exact i1 g hg
   ·rcases List.mem_cons.1 hg with rfl|hg
    ·omega
    ·exact i2 g hg
def sgTys (l:List Sg):List Ty:=(l.map fun f=>f.params++[f.result]).flatten
theorem JmQ (s:Sch):everyS s=s.types.map Prod.snd++[s.main]++sgTys s.sigs:=rfl
theorem Jl9 :∀{ts:List Ty} {t:Ty},t∈ts->cntT t<=cntTs ts:=fun{ts t} h=>by
 obtain⟨i,hi,rfl⟩:=List.mem_iff_getElem.1 h;exact q9 hi
theorem JgA (s:Sch):checkS s=
  if 12<s.types.length\/12<s.sigs.length then 3 else
  if typesS none (s.types.map Prod.fst)≠0 then typesS none (s.types.map Prod.fst)else
  if(maysS (hasN s.types) (s.types.map Prod.snd) 1 0).1≠0 then(maysS (hasN s.types) (s.types.map Prod.snd) 1 0).1 else
  if(mayS (hasN s.types) s.main 1 (maysS (hasN s.types) (s.types.map Prod.snd) 1 0).2).1≠0 then(mayS (hasN s.types) s.main 1 (maysS (hasN s.types) (s.types.map Prod.snd) 1 0).2).1 else
  if(sigsS (hasN s.types) none s.sigs (mayS (hasN s.types) s.main 1 (maysS (hasN s.types) (s.types.map Prod.snd) 1 0).2).2).1≠0 then(sigsS (hasN s.types) none s.sigs (mayS (hasN s.types) s.main 1 (maysS (hasN s.types) (s.types.map Prod.snd) 1 0).2).2).1 else
  if s.types.any (fun p=> !finS s.types p.2)then 14 else
  if optssS s.types (everyS s)then 17 else 0:=rfl
section
variable {S : St} {W : Pt -> Prop} {rt : Pt} {tb : Tb}
theorem Kept.wr {t:Nat}{f:Nat->Row}{p:Pt}(hp:W p):Kept S W (S.wr p t f) W:=fun r e n=>⟨JR _ _ _ fun h=>n (by rw[h];exact hp),n⟩
theorem TabX.setMain (h:TabX S W rt tb)(id:Nat):∃t lv a b c,S.row rt= .cells t [lv, .map a, .map b, .int .i64 tb.main, .map c]/\TabX (S.wr rt t fun u=> .cells u [lv, .map a, .map b, .int .i64 id, .map c]) W rt {tb with main:=id}/\Kept S W (S.wr rt t fun u=> .cells u [lv, .map a, .map b, .int .i64 id, .map c]) W:=by
 obtain⟨hw,F,h⟩:=h;obtain⟨t,l,e,_,hT⟩:=Tab.setMain h id;obtain⟨lv,ra,rn,rs,es,sv,h⟩:=h;obtain⟨t',c⟩:=h.cell;rw[e]at c;injection c with c1 c2;subst c1;subst c2;refine⟨t,lv,ra,rn,rs,e,⟨?_,F,hT⟩,Kept.wr h.w.1⟩;exact((Ch.refl W hw).wr (p:=rt) (t:=t) (f:=fun u=> .cells u [lv, .map ra, .map rn, .int .i64 id, .map rs]) (Jd e) (by rw[e];rfl) (.inl h.w.1) (Ja _)).wf
end
theorem JeH {P:Pt->Prop}{st S:St}{v:V}{l:List (Str×Ty)}(h:LstAt (NmC P st) P st v 5 l)(hS:∀r,st.row r≠ .none->S.row r=st.row r){i:Nat}(hi:i<l.length):
  ∃r q nv kv,iaddrSV 5 v (.int .i64 i)=some (.ptr r q, .no)/\S.row r≠ .none/\ldn (S.row r) q 5=some (.agg [ofL l[i].1, .int .i64 l[i].2.kind,ofL l[i].2.name,nv,kv], .no)/\TyC P st [.int .i64 l[i].2.kind,ofL l[i].2.name,nv,kv] l[i].2/\(nv.cells=some [nv]/\nv.sc=true/\kv.cells=some [kv]/\kv.sc=true):=by
 obtain⟨r,q,e,a1,a2,a3,a4,⟨c,he,hc⟩,a6,a7⟩:=h.elem hi;have hc0:=hc;obtain⟨nv1,kv1,es1,rfl,y1,y2,y3,y4⟩:=hc.inv;subst he;rw[<-hS r a3]at a4;exact⟨r,q,nv1,kv1,a1,by rw[hS r a3];exact a3,a4,hc0,y1.cells,y1.sc,y2.cells,y2.sc⟩
theorem Jma {P:Pt->Prop}{st S:St}{v:V}{l:List Sg}(h:LstAt (SgC P st) P st v 6 l)(hS:∀r,st.row r≠ .none->S.row r=st.row r){i:Nat}(hi:i<l.length):
  ∃r q pv nv kv,iaddrSV 6 v (.int .i64 i)=some (.ptr r q, .no)/\S.row r≠ .none/\ldn (S.row r) q 6=some (.agg [ofL l[i].name,pv, .int .i64 l[i].result.kind,ofL l[i].result.name,nv,kv], .no)/\TysAt P st pv l[i].params/\TyC P st [.int .i64 l[i].result.kind,ofL l[i].result.name,nv,kv] l[i].result/\(pv.cells=some [pv]/\pv.sc=true)/\(nv.cells=some [nv]/\nv.sc=true/\kv.cells=some [kv]/\kv.sc=true):=by
 obtain⟨r,q,e,a1,a2,a3,a4,⟨pv,c,he,hp,hc⟩,a6,a7⟩:=h.elem hi;have hc0:=hc;have hp0:=hp;obtain⟨ep,p1,p2,p3⟩:=hp;obtain⟨nv1,kv1,es1,rfl,y1,y2,y3,y4⟩:=hc.inv;subst he;rw[<-hS r a3]at a4;exact⟨r,q,pv,nv1,kv1,a1,by rw[hS r a3];exact a3,a4,hp0,hc0,⟨p1.cells,p1.sc⟩,y1.cells,y1.sc,y2.cells,y2.sc⟩
def TabZ (S:St)(W Z:Pt->Prop)(rt:Pt)(tb:Tb):Prop:=WF S/\∃F,Tab W F S rt tb/\∀r,F r->¬Z r
theorem TabZ.x {S:St}{W Z:Pt->Prop}{rt:Pt}{tb:Tb}(h:TabZ S W Z rt tb):TabX S W rt tb:=by
 obtain⟨hw,F,h,_⟩:=h;exact⟨hw,F,h⟩
theorem TabX.z {S S':St}{W:Pt->Prop}{rt:Pt}{tb:Tb}(h:TabX S W rt tb)(g:Gr S S'){p:Pt}(hp:S.row p= .none):TabZ S' W (fun r=>r=p) rt tb:=by
 obtain⟨hw,F,h⟩:=h;exact⟨g.wf,_,h.live.gr g,fun r f e=>f.2 (by rw[e];exact hp)⟩
theorem TabZ.gr {S S':St}{W Z:Pt->Prop}{rt:Pt}{tb:Tb}(h:TabZ S W Z rt tb)(g:Gr S S'):TabZ S' W Z rt tb:=by
 obtain⟨hw,F,h,k⟩:=h;exact⟨g.wf,F,h.gr g,k⟩
theorem TabZ.wr {S:St}{W Z:Pt->Prop}{rt:Pt}{tb:Tb}(h:TabZ S W Z rt tb){p:Pt}{t:Nat}{f:Nat->Row}(hp:Z p)(hn:¬W p)(he:S.row p≠ .none)(ht:(S.row p).time=t)(hf:∀u,(f u).time=u/\f u≠ .none):TabZ (S.wr p t f) W Z rt tb:=by
 obtain⟨hw,F,h,k⟩:=h;refine⟨((Ch.refl (fun r=>r=p) hw).wr he ht (.inl rfl) hf).wf,F,h.keep fun r w _=>JR _ _ _ fun e=> ?_,k⟩;rcases w with w|w
 ·exact hn (by rw[<-e];exact w)
 ·exact k r w (by rw[e];exact hp)
mutual
def namesIn (has:Str->Bool):Ty->Bool
 | .mk k n _ ks=>(decide (k≠9)||has n)&&Yq has ks
def Yq (has:Str->Bool):List Ty->Bool
 |[]=>true
 |t::r=>namesIn has t&&Yq has r
end
mutual
theorem Jcx (has:Str->Bool):∀(t:Ty) (deep met:Nat),(mayS has t deep met).1=0->namesIn has t=true
 | .mk k n ns ks,deep,met,h=>by
   rw[JbL]at h
   split at h
   ·cases h
   split at h
   ·cases h
   split at h
   ·cases h
   split at h
   ·cases h
   split at h
   ·cases h
   rename_i c
   split at h
   ·rename_i c;exact absurd h c
   rw[namesIn,Bool.and_eq_true,kU has ks _ _ h];refine⟨?_,rfl⟩;by_cases k9:k=9
   ·cases hn:has n with
    |true=>simp
    |false=>exact absurd ⟨k9,hn⟩ c
   ·simp[k9]
theorem kU (has:Str->Bool):∀(ts:List Ty) (deep met:Nat),(maysS has ts deep met).1=0->Yq has ts=true
 |[],_,_,_=>by rw[Yq]
 | t::r,deep,met,h=>by
   rw[Kv]at h
   split at h
   ·rename_i c;exact absurd h c
   rename_i c
   rw[Yq,Jcx has t deep met (by simpa using c),kU has r _ _ h];rfl
end
theorem j4 {has:Str->Bool}:∀{ts:List Ty},Yq has ts=true->∀t∈ts,namesIn has t=true
 |[],_,t,h=>by cases h
 | a::r,hs,t,h=>by
   rw[Yq,Bool.and_eq_true]at hs;rcases List.mem_cons.1 h with rfl|h
   ·exact hs.1
   ·exact j4 hs.2 t h
theorem JeI (has:Str->Bool):∀(p:Option Str) (fs:List Sg) (met:Nat),(sigsS has p fs met).1=0->(∀f∈fs,Yq has (f.params++[f.result])=true)/\(fs.map Sg.name).Pairwise (fun a b=>Op.bytesLess a b=true)/\∀f∈fs,∀q,p=some q->Op.bytesLess q f.name=true
 |p,[],met,_=>⟨fun f h=>(by cases h),List.Pairwise.nil,fun f h=>(by cases h)⟩
 | p,f::r,met,h=>by
   rw[kq]at h
   split at h
   ·cases h
   split at h
   ·cases h
   rename_i h2
   split at h
   ·cases h
   split at h
   ·rename_i c;exact absurd h c
   rename_i c
   obtain⟨i1,i2,i3⟩:=JeI has _ r _ h;have hp:∀q,p=some q->Op.bytesLess q f.name=true:=fun q hq=>by
    rw[hq]at h2;simpa[notLess]using h2
   refine⟨fun g hg=> ?_, ?_,fun g hg q hq=> ?_⟩
   ·rcases List.mem_cons.1 hg with rfl|hg
    ·exact kU has _ 1 met (by simpa using c)
    ·exact i1 g hg
   ·rw[List.map_cons,List.pairwise_cons];refine⟨fun a ha=> ?_,i2⟩;obtain⟨g,hg,rfl⟩:=List.mem_map.1 ha;exact i3 g hg _ rfl
   ·rcases List.mem_cons.1 hg with rfl|hg
    ·exact hp q hq
    ·exact kT (hp q hq) (i3 g hg _ rfl)
theorem Jht {l:List Str}(h:l.Pairwise (fun a b=>Op.bytesLess a b=true)):l.Nodup:=h.imp fun{a b} h e=>by rw[e,qG]at h;cases h
def Able (X:Ty):Prop:=sizeT X<=400/\∃l0 tb0,(addT X l0 tb0).2.2.1=0
structure TInv (has:Str->Bool) (nodes:List Nd):Prop where
 tree:∀i,i<nodes.length->∃X,lookT nodes X=some i/\Able X
 name:∀(i:Nat) (n:Nd),nodes[i]? =some n->n.kind=9->has n.name=true
theorem TInv.app {has:Str->Bool}{nodes:List Nd}{nd:Nd}(h:TInv has nodes)(hn:nd.kind=9->has nd.name=true){X:Ty}(hX:lookT (nodes++[nd]) X=some nodes.length)(ha:Able X):TInv has (nodes++[nd]):=by
 refine⟨fun i hi=> ?_,fun i n hi k=> ?_⟩
 ·by_cases c:i<nodes.length
  ·obtain⟨X,h1,h2⟩:=h.tree i c;exact⟨X,ko X h1,h2⟩
  ·have:i=nodes.length:=by simp at hi;omega
   subst this;exact⟨X,hX,ha⟩
 ·by_cases c:i<nodes.length
  ·rw[List.getElem?_append_left c]at hi;exact h.name i n hi k
  ·rw[List.getElem?_append_right (by omega)]at hi;have e:i-nodes.length=0:=by
    have:=(List.getElem?_eq_some_iff.1 hi).1;simpa using this
   rw[e]at hi;injection hi with hi;rw[<-hi]at k⊢;exact hn k
mutual
theorem Jjl {has:Str->Bool}:∀(t:Ty) {left:Int} {tb:Tb},0<=left->left<=400->namesIn has t=true->(addT t left tb).2.2.1=0->TInv has tb.nodes->TInv has (addT t left tb).1.nodes
 | .mk k n ns ks,left,tb,h0,hl,hn,h,hi=>by
   have able:Able (.mk k n ns ks):=⟨by
    have h1:=(qX (.mk k n ns ks) left tb h0).2.2 h;obtain⟨_,_,_,h2⟩:=Jah _ h;rw[h2]at h1;omega,left,tb,h⟩
   obtain⟨r0,b0,b1,_⟩:=Jah _ h;rw[namesIn,Bool.and_eq_true]at hn;rw[Q7]at h b1⊢;by_cases c:left-1<0\/8<ks.length\/8<ns.length
   ·rw[if_pos c]at h;cases h
   rw[if_neg c]at h b1⊢;have ih:=JgB ks (left:=left-1) (tb:=tb) (by omega) (by omega) hn.2;have ok:=qF ks (left:=left-1) (tb:=tb);generalize addTs ks (left-1) tb=x at h b1 ih ok⊢;obtain⟨tb1,ids,e,l1⟩:=x;simp only at h b1 ih ok⊢;by_cases he:e=0
   ·subst he;simp only[ne_eq,not_true_eq_false,if_false]at h b1⊢;have ih:=ih rfl hi;unfold layS at h b1⊢
    cases cc:idx ⟨k,n,ns,ids⟩ tb1.nodes 0 with
    |some i=>exact ih
    | none=>
      rw[cc]at h b1;by_cases c2:120<=tb1.nodes.length
      ·rw[if_pos c2]at h;cases h
      ·simp only[if_neg c2]at b1⊢;refine ih.app (nd:=⟨k,n,ns,ids⟩) (fun k9=> ?_) b1 able;have:=hn.1;rw[show k=9 from k9]at this;simpa using this
   ·rw[if_pos he]at h;exact absurd h he
theorem JgB {has:Str->Bool}:∀(ts:List Ty) {left:Int} {tb:Tb},0<=left->left<=400->Yq has ts=true->(addTs ts left tb).2.2.1=0->TInv has tb.nodes->TInv has (addTs ts left tb).1.nodes
 |[],left,tb,_,_,_,_,hi=>by rw[Qw];exact hi
 | t::ts,left,tb,h0,hl,hn,h,hi=>by
   rw[Yq,Bool.and_eq_true]at hn;rw[Qe]at h⊢;have i1:=Jjl t (left:=left) (tb:=tb) h0 hl hn.1;have l1:=qX t left tb h0;generalize addT t left tb=x at h i1 l1⊢;obtain⟨tb1,i,e,lf⟩:=x;simp only at h i1 l1⊢;by_cases he:e=0
   ·subst he;simp only[ne_eq,not_true_eq_false,if_false]at h⊢;exact JgB ts (l1.2.2 rfl) (by omega) hn.2 h (i1 rfl hi)
   ·rw[if_pos he]at h;exact absurd h he
end
def sigI (tb:Tb)(n:Str):Option (List Nat):=(tb.sigs.find? fun p=>n=p.1).map (·.2)
structure Grown (tb tb':Tb):Prop where
 nodes:∃r,tb'.nodes=tb.nodes++r
theorem Grown.look {tb tb':Tb}(h:Grown tb tb'){X:Ty}{i:Nat}(k:lookT tb.nodes X=some i):lookT tb'.nodes X=some i:=by
 obtain⟨r,e⟩:=h.nodes;rw[e];exact ko X k
theorem Grown.looks {tb tb':Tb}(h:Grown tb tb'){X:List Ty}{i:List Nat}(k:looksT tb.nodes X=some i):looksT tb'.nodes X=some i:=by
 obtain⟨r,e⟩:=h.nodes;rw[e];exact jH X k
theorem Grown.refl (tb:Tb):Grown tb tb:=⟨[],by simp⟩
theorem Grown.trans {a b c:Tb}(h:Grown a b)(k:Grown b c):Grown a c:=by
 obtain⟨r,e⟩:=h.nodes;obtain⟨q,f⟩:=k.nodes;exact⟨r++q,by rw[f,e];simp⟩
structure OfSch (s:Sch) (tb:Tb):Prop where
 chk:checkS s=0
 inv:TInv (hasN s.types) tb.nodes
 named:∀p∈s.types,∃j,defI tb p.1=some j/\lookT tb.nodes p.2=some j
 able:∀p∈s.types,Able p.2
 sigs:∀f∈s.sigs,∃ids,sigI tb f.name=some ids/\looksT tb.nodes (f.params++[f.result])=some ids
 nosig:∀n,n∉s.sigs.map Sg.name->sigI tb n=none
 main:lookT tb.nodes s.main=some tb.main
theorem Jjm {s:Sch}(h:checkS s=0):(∀p∈s.types,namesIn (hasN s.types) p.2=true)/\(s.types.map Prod.fst).Nodup/\namesIn (hasN s.types) s.main=true/\(∀f∈s.sigs,Yq (hasN s.types) (f.params++[f.result])=true)/\(s.sigs.map Sg.name).Nodup/\(∀p∈s.types,finS s.types p.2=true):=by
 rw[JgA]at h
 split at h
 ·cases h
 split at h
 ·rename_i c;exact absurd h c
 rename_i c2
 split at h
 ·rename_i c;exact absurd h c
 rename_i c3
 split at h
 ·rename_i c;exact absurd h c
 rename_i c4
 split at h
 ·rename_i c;exact absurd h c
 rename_i c5
 split at h
 ·cases h
 rename_i c6
 have a3:=kU _ _ _ _ (show(maysS (hasN s.types) (s.types.map Prod.snd) 1 0).1=0 by simpa using c3);obtain⟨b1,b2,_⟩:=JeI _ _ _ _ (by simpa using c5);refine⟨fun p hp=>j4 a3 p.2 (List.mem_map.2 ⟨p,hp,rfl⟩),JbR (by simpa using c2),Jcx _ _ _ _ (by simpa using c4),b1,Jht b2,fun p hp=> ?_⟩
 cases e:finS s.types p.2 with
 |true=>rfl
 |false=>exact absurd (List.any_eq_true.2 ⟨p,hp,by rw[e];rfl⟩) c6
theorem JaL (n m:Str)(b:Bool):∀l:List (Str×Bool),gB m (sB n b l)=if m=n then b else gB m l
 | []=>by
   rw[sB,gB];rfl
 | (a,c)::r=>by
   rw[sB];by_cases e:n=a
   ·rw[if_pos e,gB,gB];by_cases e2:m=n
    ·rw[if_pos e2,if_pos e2]
    ·rw[if_neg e2,if_neg e2,if_neg (fun k=>e2 (k.trans e.symm))]
   ·rw[if_neg e,gB,gB,JaL n m b r];by_cases e2:m=n
    ·rw[if_pos e2,if_pos e2,if_neg (fun k=>e (e2.symm.trans k))]
    ·rw[if_neg e2,if_neg e2]
theorem JeJ {has:Str->Bool}{t:Ty}(h:endsS has t 1=true)(k:t.kind=9):has t.name=true:=by
 obtain⟨k',n,ns,ks⟩:=t;have k:k'=9:=k;rw[endsS,if_neg (by decide),if_pos k]at h;exact h
def Rk (l:List (Str×Ty))(has:List (Str×Bool))(rk:Str->Nat):Prop:=∀p∈l,p.2.kind=9->gB p.1 has=true->gB p.2.name has=true/\rk p.2.name<rk p.1
theorem JeK {l:List (Str×Ty)}(hd:(l.map Prod.fst).Nodup){p q:Str×Ty}(hp:p∈l)(hq:q∈l)(h:p.1=q.1):p=q:=by
 induction l with
 |nil=>cases hp
 | cons a r ih=>
   rw[List.map_cons,List.nodup_cons]at hd;rcases List.mem_cons.1 hp with e|hp'
   ·rcases List.mem_cons.1 hq with e2|hq'
    ·rw[e,e2]
    ·exact absurd (List.mem_map.2 ⟨q,hq',by rw[<-h,e]⟩) hd.1
   ·rcases List.mem_cons.1 hq with e2|hq'
    ·exact absurd (List.mem_map.2 ⟨p,hp',by rw[h,e2]⟩) hd.1
    ·exact ih hd.2 hp' hq'
theorem Jjn {l:List (Str×Ty)}(hd:(l.map Prod.fst).Nodup):∀(r:List (Str×Ty)),(∀p∈r,p∈l)->∀(has:List (Str×Bool)) (rk:Str->Nat),Rk l has rk->∃rk',Rk l (roundS r has) rk'
 |[],_,has,rk,h=>⟨rk,by rw[roundS];exact h⟩
 | (n,t)::r,hr,has,rk,h=>by
   rw[roundS];have hm:(n,t)∈l:=hr _ (by simp)
   suffices ∃rk',Rk l (sB n (gB n has||endsS (fun x=>gB x has) t 1) has) rk' by
    obtain⟨rk',h'⟩:=this;exact Jjn hd r (fun p hp=>hr p (List.mem_cons_of_mem _ hp)) _ rk' h'
   by_cases c:gB n has=true
   ·refine⟨rk,fun p hp k9 ht=> ?_⟩;have key:∀x,gB x (sB n (gB n has||endsS (fun x=>gB x has) t 1) has)=gB x has:=fun x=>by
     rw[JaL,c,Bool.true_or];by_cases e:x=n
     ·rw[if_pos e,e,c]
     ·rw[if_neg e]
    rw[key]at ht⊢;exact h p hp k9 ht
   have c':gB n has=false:=by simpa using c
   rw[c',Bool.false_or];by_cases d:endsS (fun x=>gB x has) t 1=true
   ·rw[d];refine⟨fun x=>if x=n then rk t.name+1 else rk x,fun p hp k9 ht=> ?_⟩;by_cases e:p.1=n
    ·have e2:=JeK hd hp hm e;subst e2;have d2:=JeJ d k9;have e3:¬t.name=n:=fun k=>by rw[k,c']at d2;cases d2
     rw[JaL,if_neg e3];refine⟨d2, ?_⟩;simp only[e3,if_false,if_true];exact Nat.lt_succ_self _
    ·rw[JaL,if_neg e]at ht;obtain⟨a,b⟩:=h p hp k9 ht;have e3:¬p.2.name=n:=fun k=>by rw[k,c']at a;cases a
     rw[JaL,if_neg e3];simp only[e,e3,if_false];exact⟨a,b⟩
   ·have d':endsS (fun x=>gB x has) t 1=false:=by simpa using d
    rw[d'];refine⟨rk,fun p hp k9 ht=> ?_⟩;have key:∀x,gB x (sB n false has)=gB x has:=fun x=>by
     rw[JaL];by_cases e:x=n
     ·rw[if_pos e,e,c']
     ·rw[if_neg e]
    rw[key]at ht⊢;exact h p hp k9 ht
theorem JgC {l:List (Str×Ty)}(hd:(l.map Prod.fst).Nodup):∀(k:Nat) (has:List (Str×Bool)) (rk:Str->Nat),Rk l has rk->∃rk',Rk l (roundsS l k has) rk'
 |0,has,rk,h=>⟨rk,by rw[roundsS];exact h⟩
 | k+1,has,rk,h=>by
   rw[roundsS];obtain⟨rk',h'⟩:=Jjn hd l (fun p hp=>hp) has rk h;exact JgC hd k _ rk' h'
theorem Jmb {l:List (Str×Ty)}(hd:(l.map Prod.fst).Nodup){p:Str×Ty}(hp:p∈l):defN l p.1=some p.2:=by
 unfold defN
 cases hf:l.find? fun q=>q.1=p.1 with
 | none=>
   have:=List.find?_eq_none.1 hf p hp;simp at this
 | some q=>
   have h1:=List.mem_of_find?_eq_some hf;have h2:=List.find?_some hf;rw[JeK hd h1 hp (by simpa using h2)];rfl
theorem JoZ {l:List (Str×Ty)}{t:Ty}(h:finS l t=true):endsS (fun x=>gB x (roundsS l l.length [])) t 1=true:=by
 unfold finS at h
 split at h
 ·cases h
 split at h
 ·cases h
 exact h
theorem Jjo {l:List (Str×Ty)}(hd:(l.map Prod.fst).Nodup)(h:∀p∈l,finS l p.2=true):∃rk:Str->Nat,∀p∈l,p.2.kind=9->rk p.2.name<rk p.1:=by
 obtain⟨rk,hr⟩:=JgC hd l.length [] (fun _=>0) (fun p _ _ ht=>by cases ht);refine⟨fun x=>if gB x (roundsS l l.length [])then rk x else rk ((defN l x).getD zeroTy).name+1,fun p hp k9=> ?_⟩;have h2:=JeJ (JoZ (h p hp)) k9;simp only[h2,if_true];by_cases c:gB p.1 (roundsS l l.length [])=true
 ·rw[if_pos c];exact(hr p hp k9 c).2
 ·rw[if_neg c,Jmb hd hp];exact Nat.lt_succ_self _
theorem Jcy {α:Type}{p q:α->Bool}(h:∀x,p x=true->q x=true){x:α}(hq:q x=true)(hp:p x=false):∀{l:List α},x∈l->(l.filter p).length<(l.filter q).length
 |[],hx=>by cases hx
 | a::r,hx=>by
   have le:∀l:List α,(l.filter p).length<=(l.filter q).length:=fun l=>by
    induction l with
    |nil=>exact Nat.le_refl _
    | cons b l ih=>
      by_cases c:p b=true
      ·simp[List.filter,c,h b c];exact ih
      ·have c:p b=false:=by simpa using c
       by_cases d:q b=true
       ·simp[List.filter,c,d];omega
       ·have d:q b=false:=by simpa using d
        simp[List.filter,c,d];exact ih
   rcases List.mem_cons.1 hx with rfl|hx
   ·simp[List.filter,hp,hq];have:=le r;omega
   ·have ih:=Jcy h hq hp hx;by_cases c:p a=true
    ·simp[List.filter,c,h a c];omega
    ·have c:p a=false:=by simpa using c
     by_cases d:q a=true
     ·simp[List.filter,c,d];omega
     ·have d:q a=false:=by simpa using d
      simp[List.filter,c,d];omega
theorem Jmc {tb:Tb}{l:List (Str×Ty)}{rk:Str->Nat}(hrk:∀p∈l,p.2.kind=9->rk p.2.name<rk p.1)
  (hn:∀(i:Nat) (n:Nd),tb.nodes[i]? =some n->n.kind=9->∃T j,(n.name,T)∈l/\defI tb n.name=some j/\lookT tb.nodes T=some j):
  ∀(f r i:Nat) (hi:i<tb.nodes.length),(tb.nodes[i].kind=9->rk tb.nodes[i].name<r)->(tb.nodes.filter fun n=>decide (n.kind=9/\rk n.name<r)).length<f->
   ∃j nd,openS tb f i=(j,true)/\tb.nodes[j]? =some nd/\nd.kind≠9
 |0,r,i,hi,h,hf=>absurd hf (Nat.not_lt_zero _)
 | f+1,r,i,hi,h,hf=>by
   by_cases k:tb.nodes[i].kind=9
   ·obtain⟨T,j,h1,h2,h3⟩:=hn i _ (List.getElem?_eq_getElem hi) k;rw[jA hi k h2];obtain⟨ids,hnd,hks⟩:=Y7 h3;have hj:=(List.getElem?_eq_some_iff.1 hnd).1;have hne:=(List.getElem?_eq_some_iff.1 hnd).2;refine Jmc hrk hn f (rk tb.nodes[i].name) j hj (fun k2=> ?_) ?_
    ·rw[hne]at k2⊢;exact hrk _ h1 k2
    ·have:(tb.nodes.filter fun n=>decide (n.kind=9/\rk n.name<rk tb.nodes[i].name)).length<(tb.nodes.filter fun n=>decide (n.kind=9/\rk n.name<r)).length:=
      Jcy (x:=tb.nodes[i]) (fun x hx=>by
       have hx:=of_decide_eq_true hx;exact decide_eq_true ⟨hx.1,Nat.lt_trans hx.2 (h k)⟩) (decide_eq_true ⟨k,h k⟩) (decide_eq_false fun hx=>Nat.lt_irrefl _ hx.2) (List.getElem_mem hi)
     omega
   ·rw[QX hi k];exact⟨i,_,rfl,List.getElem?_eq_getElem hi,k⟩
theorem JeL {tb:Tb}:∀{f i j:Nat},openS tb f i=(j,true)->openS tb (f+1) i=(j,true)
 |0,i,j,h=>by cases h
 | f+1,i,j,h=>by
   by_cases hi:i<tb.nodes.length
   ·by_cases k:tb.nodes[i].kind=9
    ·cases d:defI tb tb.nodes[i].name with
     |none=>rw[qB hi k d]at h;cases h
     | some a=>
       rw[jA hi k d]at h⊢;exact JeL h
    ·rw[QX hi k]at h⊢;exact h
   ·rw[jX (by omega)]at h;cases h
theorem OfSch.add {s:Sch}{tb:Tb}(h:OfSch s tb){X:Ty}(hX:namesIn (hasN s.types) X=true)(he:(addT X 400 tb).2.2.1=0):OfSch s (addT X 400 tb).1/\lookT (addT X 400 tb).1.nodes X=some (addT X 400 tb).2.1:=by
 have i1:=Jjl X (left:=400) (tb:=tb) (by decide) (by decide) hX he h.inv;obtain⟨r0,e1,e2,e3⟩:=Jah X he;have g:Grown tb (addT X 400 tb).1:=⟨r0,by rw[e1]⟩
 have a1:(addT X 400 tb).1.named=tb.named:=by rw[e1]
 have a2:(addT X 400 tb).1.sigs=tb.sigs:=by rw[e1]
 have a3:(addT X 400 tb).1.main=tb.main:=by rw[e1]
 refine⟨⟨h.chk,i1,fun p hp=> ?_,h.able,fun f hf=> ?_,fun n hn=> ?_, ?_⟩,e2⟩
 ·obtain⟨j,k1,k2⟩:=h.named p hp;exact⟨j,by unfold defI;rw[a1];exact k1,g.look k2⟩
 ·obtain⟨ids,k1,k2⟩:=h.sigs f hf;exact⟨ids,by unfold sigI;rw[a2];exact k1,g.looks k2⟩
 ·unfold sigI;rw[a2];exact h.nosig n hn
 ·rw[a3];exact g.look h.main
theorem JeM {l:List (Str×Ty)}{n:Str}(h:hasN l n=true):∃T,(n,T)∈l:=by
 obtain⟨p,hp,e⟩:=List.any_eq_true.1 h;exact⟨p.2,by rw[<-show p.1=n by simpa using e];exact hp⟩
theorem OfSch.opens {s:Sch}{tb:Tb}(h:OfSch s tb){i:Nat}(hi:i<tb.nodes.length):∃j nd,openS tb (tb.nodes.length+1) i=(j,true)/\tb.nodes[j]? =some nd/\nd.kind≠9:=by
 obtain⟨n1,n2,n3,n4,n5,n6⟩:=Jjm h.chk;obtain⟨rk,hrk⟩:=Jjo n2 n6;refine Jmc hrk (fun i n hi k=> ?_) _ (rk tb.nodes[i].name+1) i hi (fun _=>Nat.lt_succ_self _) (Nat.lt_succ_of_le (List.length_filter_le _ _));obtain⟨T,hT⟩:=JeM (h.inv.name i n hi k);obtain⟨j,k1,k2⟩:=h.named _ hT;exact⟨T,j,hT,k1,k2⟩
theorem OfSch.same {s:Sch}{tb:Tb}(h:OfSch s tb){p:Str×Ty}(hp:p∈s.types){a j:Nat}(ha:lookT tb.nodes (.mk 9 p.1 [] [])=some a)(hj:lookT tb.nodes p.2=some j):
  openS tb (tb.nodes.length+1) a=openS tb (tb.nodes.length+1) j:=by
 obtain⟨ids,hnd,_⟩:=Y7 ha;have hnd:tb.nodes[a]? =some ⟨9,p.1,[],ids⟩:=hnd;have hi:=(List.getElem?_eq_some_iff.1 hnd).1;have hne:=(List.getElem?_eq_some_iff.1 hnd).2;obtain⟨j',k1,k2⟩:=h.named p hp;rw[hj]at k2;injection k2 with k2;obtain⟨o,nd,h1,_⟩:=h.opens hi;have h2:openS tb (tb.nodes.length+1) a=openS tb tb.nodes.length j:=jA hi (by rw[hne]) (by rw[hne,k2];exact k1);rw[h1,JeL (h2.symm.trans h1)]
theorem JgD (r:List UInt8):∀l:List UInt8,(∀c∈l,c≠32)->(l++32::r).takeWhile (· !=32)=l
 |[],_=>by simp
 | c::l,h=>by
   have hc:(c !=32)=true:=by simpa using h c (by simp)
   rw[List.cons_append,List.takeWhile_cons,hc];simp only[if_true];rw[JgD r l fun x hx=>h x (List.mem_cons_of_mem _ hx)]
def wordAt (W:Str)(i:Nat):Str:=(W.drop (i+1)).takeWhile (· !=32)
theorem Jjp {W:Str}{ns:List Str}{N:Nat}(hN:W.length<N)(h1:∀i:Fin N,(W.drop i.1).head? =some 32->wordAt W i.1=[]\/ns.contains (wordAt W i.1)=true)(h2:∀w∈ns,(identB w&&Lib.contains W (32::(w++[32])))=true)(l:Str):(identB l&&Lib.contains W (32::(l++[32])))=ns.contains l:=by
 cases hc:ns.contains l with
 |true=>exact h2 l (List.contains_iff_mem.1 hc)
 | false=>
   cases hb:(identB l&&Lib.contains W (32::(l++[32])))with
   |false=>rfl
   | true=>
     exfalso;simp only[Bool.and_eq_true]at hb;obtain⟨hi,hb⟩:=hb;have hne:l≠[]:=by intro e;subst e;cases hi
     have hno:∀c∈l,c≠32:=by
      intro c hcl e;subst e;have ha:okAll l=true:=by
       cases l with
       |nil=>cases hi
       |cons a r=>simp only[identB,Bool.and_eq_true]at hi;exact hi.2.2
      have:=List.all_eq_true.1 ha 32 hcl;exact absurd this (by decide)
     have hex:∃i,Lib.occAt W (32::(l++[32])) i=true:=by
      apply Classical.byContradiction;intro hn;have:Lib.index W (32::(l++[32]))= -1:=Lib.index_none fun j _=>by
       cases ho:Lib.occAt W (32::(l++[32])) j with
       |false=>rfl
       |true=>exact absurd ⟨j,ho⟩ hn
      unfold Lib.contains at hb;rw[this]at hb;exact absurd hb (by decide)
     obtain⟨i,ho⟩:=hex;have hroom:=Lib.occAt_room ho;have hi97:i<N:=by
      rcases hroom with h|h
      ·simp only[List.length_cons,List.length_append,List.length_nil]at h;omega
      ·cases h
     have hp:(32::(l++[32]))<+:W.drop i:=List.isPrefixOf_iff_prefix.1 ho;obtain⟨r,hr⟩:=hp;have hd:W.drop (i+1)=l++32::r:=by
      rw[<-List.tail_drop,<-hr];simp
     have hw:wordAt W i=l:=by unfold wordAt;rw[hd];exact JgD r l hno
     rcases h1 ⟨i,hi97⟩ (by show(W.drop i).head? =some 32;rw[<-hr];rfl)with h|h
     ·exact hne (hw▸h)
     ·have h:ns.contains (wordAt W i)=true:=h;rw[hw,hc]at h
      cases h
def wordL :List Str:=[[66,111,111,108],[73,110,116],[84,101,120,116],[76,105,115,116],[77,97,112],[79,112,116],[85,110,105,111,110]]
def builtL :List Str:=[[108,101,110],[110,111,116],[97,110,100],[111,114],[101,113],[108,116],[97,100,100],[115,117,98],[109,117,108],[115,104,108],[115,104,114],[105,56],[105,49,54],[105,51,50],[117,56],[117,49,54],[117,51,50],[99,97,116],[116,101,120,116],[97,116],[103,101,116],[104,97,115],[111,114,101,108,115,101]]
theorem Jo0 (l:Str):(identB l&&Lib.contains words (32::(l++[32])))=wordL.contains l:=
 Jjp (N:=100) (by decide) (by decide+kernel) (by decide+kernel) l
theorem JmR (l:Str):qZ l=builtL.contains l:=
 Jjp (W:=jB) (N:=100) (by decide) (by decide+kernel) (by decide+kernel) l
theorem JqG (n:Str):badName n=(!identB n||wordL.contains n):=by
 have:=Jo0 n;unfold badName
 cases h:identB n with
 |false=>rfl
 |true=>rw[h]at this;rw[<-this];rfl
theorem Ja0 :∀a b:List UInt8,(Op.bytesLess a b||decide (a=b))= !Op.bytesLess b a
 |[],[]=>rfl
 |[],_::_=>rfl
 |_::_,[]=>rfl
 | a::x,b::y=>by
   have ih:=Ja0 x y;simp only[Op.bytesLess];by_cases h:a=b
   ·subst h;have e:¬a<a:=UInt8.lt_irrefl a;simp only[e,decide_false,Bool.false_or,BEq.rfl,Bool.true_and,List.cons.injEq,true_and];exact ih
   ·have h1:(a==b)=false:=by simpa using h
    have h2:(b==a)=false:=by simpa using fun e=>h e.symm
    simp only[h1,h2,Bool.false_and,Bool.or_false,List.cons.injEq,h,false_and,decide_false];rcases UInt8.lt_or_lt_of_ne h with c|c
    ·rw[decide_eq_true c,decide_eq_false (UInt8.lt_asymm c)];rfl
    ·rw[decide_eq_true c,decide_eq_false (UInt8.lt_asymm c)];rfl
theorem kI (a b:List UInt8):binV .leq (ofL a) (ofL b)=some (.bool (!Op.bytesLess b a), .no):=by
 simp only[binV,arith,ofL,qr,Option.map_some,JbD,Ja0]
def ownS (has:Str->Bool)(t:Ty):Int:=
 if t.kind<1\/9<t.kind then 1 else
 if t.kids.length≠kidsS t\/(t.name≠[]/\t.kind≠9)\/(0<t.names.length/\¬(t.kind=7\/t.kind=8))then 12 else
 if t.kind=9/\has t.name=false then 15 else fieldsS t
theorem jI (has:Str->Bool)(k:Int)(n:Str)(ns:List Str)(ks:List Ty)(deep met:Nat):mayS has (.mk k n ns ks) deep met=
  if 400<met+1 then(3,met+1)else if 12<deep then(13,met+1)else
  if ownS has (.mk k n ns ks)≠0 then(ownS has (.mk k n ns ks),met+1)else maysS has ks (deep+1) (met+1):=by
 rw[JbL];have e:ownS has (.mk k n ns ks)=if k<1\/9<k then 1 else if ks.length≠kidsS (.mk k n ns ks)\/(n≠[]/\k≠9)\/(0<ns.length/\¬(k=7\/k=8))then 12 else if k=9/\has n=false then 15 else fieldsS (.mk k n ns ks):=rfl;rw[e];by_cases a:400<met+1
 ·rw[if_pos a,if_pos a]
 rw[if_neg a,if_neg a];by_cases b:12<deep
 ·rw[if_pos b,if_pos b]
 rw[if_neg b,if_neg b];by_cases c1:k<1\/9<k
 ·rw[if_pos c1,if_pos c1];rfl
 rw[if_neg c1,if_neg c1];by_cases c2:ks.length≠kidsS (.mk k n ns ks)\/(n≠[]/\k≠9)\/(0<ns.length/\¬(k=7\/k=8))
 ·rw[if_pos c2,if_pos c2];rfl
 rw[if_neg c2,if_neg c2];by_cases c3:k=9/\has n=false
 ·rw[if_pos c3,if_pos c3];rfl
 rw[if_neg c3,if_neg c3]
theorem JqH :∀x:Fin 256,okB x.1=true->(letB x.1= !digB x.1):=by decide+kernel
def letR (x:Nat):Bool:=(decide (97<=x)&&decide (x<=122))||((decide (65<=x)&&decide (x<=90))||decide (x=95))
theorem JqI {x:Nat}(hx:x<256):letR x=letB x:=by
 have:∀x:Fin 256,letR x.1=letB x.1:=by decide+kernel
 exact this ⟨x,hx⟩
theorem JqJ (c:UInt8)(r:List UInt8):identB (c::r)=(decide ((c::r).length<=16)&&(letB c.toNat&&okAll (c::r))):=by
 have e:identB (c::r)=(decide ((c::r).length<=16)&&(!digB c.toNat&&okAll (c::r))):=rfl;rw[e]
 cases ho:okAll (c::r)with
 |false=>simp
 | true=>
   have h1:okB c.toNat=true:=List.all_eq_true.1 ho c (by simp);rw[JqH ⟨c.toNat,UInt8.toNat_lt _⟩ h1]
mutual
def endsR (has:Str->Bool):Ty->Bool
 | .mk k n ns ks=>if k=7 then Q9 has ks else if k=8 then Q8 has ks else if k=9 then has n else true
def Q8 (has:Str->Bool):List Ty->Bool
 |[]=>false
 |t::r=>endsR has t||Q8 has r
def Q9 (has:Str->Bool):List Ty->Bool
 |[]=>true
 |t::r=>endsR has t&&Q9 has r
end
def finR (l:List (Str×Ty)):Nat->List Str->List Str
 |0,has=>has
 |k+1,has=>finR l k ((l.filter fun p=>endsR has.contains p.2).map Prod.fst)
theorem Jai (l:List (Str×Ty))(k:Nat)(has:List Str):finR l (k+1) has=finR l k ((l.filter fun p=>endsR has.contains p.2).map Prod.fst):=by rw[finR]
theorem JeN (has:Str->Bool)(k:Int)(n:Str)(ns:List Str)(ks:List Ty):endsR has (.mk k n ns ks)=if k=7 then Q9 has ks else if k=8 then Q8 has ks else if k=9 then has n else true:=by rw[endsR]
theorem JbS (has:Str->Bool):∀ks:List Ty,Q8 has ks=ks.any fun t=>endsR has t
 |[]=>by rw[Q8];rfl
 |t::r=>by rw[Q8,JbS has r];rfl
theorem JbT (has:Str->Bool):∀ks:List Ty,Q9 has ks=ks.all fun t=>endsR has t
 |[]=>by rw[Q9];rfl
 |t::r=>by rw[Q9,JbT has r];rfl
mutual
def optsR (l:List (Str×Ty)):Ty->Bool
 | .mk k n ns ks=>(if k=6 then decide ((openT l (l.length+1) (ks.headD zeroTy)).kind=6)else false)||optsRs l ks
def optsRs (l:List (Str×Ty)):List Ty->Bool
 |[]=>false
 |t::r=>optsR l t||optsRs l r
end
theorem Jjq (l:List (Str×Ty))(k:Int)(n:Str)(ns:List Str)(ks:List Ty):optsR l (.mk k n ns ks)=((if k=6 then decide ((openT l (l.length+1) (ks.headD zeroTy)).kind=6)else false)||optsRs l ks):=by rw[optsR]
theorem JeO (l:List (Str×Ty)):∀ts:List Ty,optsRs l ts=ts.any (optsR l)
 |[]=>by rw[optsRs];rfl
 |t::r=>by rw[optsRs,JeO l r];rfl
mutual
def okO :Ty->Bool
 | .mk k n ns ks=>(decide (k≠6)||decide (0<ks.length))&&okOs ks
def okOs :List Ty->Bool
 |[]=>true
 |t::r=>okO t&&okOs r
end
theorem Jo1 (k:Int)(n:Str)(ns:List Str)(ks:List Ty):okO (.mk k n ns ks)=((decide (k≠6)||decide (0<ks.length))&&okOs ks):=by rw[okO]
theorem JbU :∀{ts:List Ty},okOs ts=true->∀t∈ts,okO t=true
 |[],_,t,h=>by cases h
 | a::r,h,t,ht=>by
   rw[okOs,Bool.and_eq_true]at h;rcases List.mem_cons.1 ht with rfl|ht
   ·exact h.1
   ·exact JbU h.2 t ht
mutual
theorem JeP (has:Str->Bool):∀(t:Ty) (deep met:Nat),(mayS has t deep met).1=0->okO t=true
 | .mk k n ns ks,deep,met,h=>by
   rw[jI]at h
   split at h
   ·cases h
   split at h
   ·cases h
   split at h
   ·rename_i c;exact absurd h c
   rename_i c
   have c:ownS has (.mk k n ns ks)=0:=by simpa using c
   rw[Jo1,Jaj has ks _ _ h,Bool.and_true];by_cases k6:k=6
   ·have e:ownS has (.mk k n ns ks)=if k<1\/9<k then 1 else if ks.length≠kidsS (.mk k n ns ks)\/(n≠[]/\k≠9)\/(0<ns.length/\¬(k=7\/k=8))then 12 else if k=9/\has n=false then 15 else fieldsS (.mk k n ns ks):=rfl;rw[e,if_neg (by omega)]at c;by_cases c2:ks.length≠kidsS (.mk k n ns ks)\/(n≠[]/\k≠9)\/(0<ns.length/\¬(k=7\/k=8))
    ·rw[if_pos c2]at c;cases c
    have:ks.length=kidsS (.mk k n ns ks):=Classical.byContradiction fun h=>c2 (.inl h);have e:kidsS (.mk k n ns ks)=1:=by unfold kidsS;exact if_pos (.inr (.inr k6))
    rw[Bool.or_eq_true];exact .inr (decide_eq_true (by omega))
   ·rw[Bool.or_eq_true];exact .inl (decide_eq_true k6)
theorem Jaj (has:Str->Bool):∀(l:List Ty) (deep met:Nat),(maysS has l deep met).1=0->okOs l=true
 |[],_,_,_=>by rw[okOs]
 | t::r,deep,met,h=>by
   rw[Kv]at h
   split at h
   ·rename_i c;exact absurd h c
   rename_i c
   rw[okOs,JeP has t deep met (by simpa using c),Jaj has r _ _ h];rfl
end
def refS (s:Sch):Int:=
  if 12<s.types.length\/12<s.sigs.length then 3 else
  if typesS none (s.types.map Prod.fst)≠0 then typesS none (s.types.map Prod.fst)else
  if(maysS (hasN s.types) (s.types.map Prod.snd) 1 0).1≠0 then(maysS (hasN s.types) (s.types.map Prod.snd) 1 0).1 else
  if(mayS (hasN s.types) s.main 1 (maysS (hasN s.types) (s.types.map Prod.snd) 1 0).2).1≠0 then(mayS (hasN s.types) s.main 1 (maysS (hasN s.types) (s.types.map Prod.snd) 1 0).2).1 else
  if(sigsS (hasN s.types) none s.sigs (mayS (hasN s.types) s.main 1 (maysS (hasN s.types) (s.types.map Prod.snd) 1 0).2).2).1≠0 then(sigsS (hasN s.types) none s.sigs (mayS (hasN s.types) s.main 1 (maysS (hasN s.types) (s.types.map Prod.snd) 1 0).2).2).1 else
  if(finR s.types (s.types.length+1) []).length≠s.types.length then 14 else
  if(everyS s).any (optsR s.types)then 17 else 0
theorem qH {x:Row}{q a b:Nat}{E:List V}(h:ldn x q (a+b)=some (.agg E, .no)):ldn x (q+a) b=some (.agg (E.drop a), .no):=by
 have key:∀l:List V,(if q+(a+b)<=l.length then some (V.agg ((l.drop q).take (a+b)),Eff.no)else none)=some (.agg E, .no)->(if q+a+b<=l.length then some (V.agg ((l.drop (q+a)).take b),Eff.no)else none)=some (.agg (E.drop a), .no):=fun l h=>by
  split at h
  ·rename_i c
   injection h with h;injection h with h _;injection h with h;rw[if_pos (by omega),<-h,List.drop_take,List.drop_drop];congr 4;omega
  ·cases h
 cases x with
 |cells t l=>rw[jy]at h⊢;exact key l h
 |ro l=>rw[Jg8]at h⊢;exact key l h
 |_=>cases h
theorem Jak {x:Row}{q n j:Nat}{E:List V}(h:ldn x q n=some (.agg E, .no))(hj:j<n){v:V}(he:E[j]? =some v):ld1 x (q+j)=some (v, .no):=by
 have key:∀l:List V,(if q+n<=l.length then some (V.agg ((l.drop q).take n),Eff.no)else none)=some (.agg E, .no)->(l[q+j]?).map (fun v=>(v,Eff.no))=some (v, .no):=fun l h=>by
  split at h
  ·injection h with h;injection h with h _;injection h with h;rw[<-h,List.getElem?_take_of_lt hj,List.getElem?_drop]at he;rw[he];rfl
  ·cases h
 cases x with
 |cells t l=>rw[jy]at h;rw[jx];exact key l h
 |ro l=>rw[Jg8]at h;rw[Jg7];exact key l h
 |_=>cases h
theorem Jo2 (has:Str->Bool)(k:Int)(n:Str)(ns:List Str)(ks:List Ty)(deep:Nat):endsS has (.mk k n ns ks) deep=if 12<deep then false else if k=9 then has n else if k=8 then endsAny has ks (deep+1)else if k=7 then endsAll has ks (deep+1)else true:=by rw[endsS]
mutual
theorem JeQ (has h:Str->Bool):∀(t:Ty) (d m:Nat),(mayS h t d m).1=0->endsS has t d=endsR has t
 | .mk k n ns ks,d,m,e=>by
   rw[jI]at e;by_cases c1:400<m+1
   ·rw[if_pos c1]at e;cases e
   rw[if_neg c1]at e;by_cases c2:12<d
   ·rw[if_pos c2]at e;cases e
   rw[if_neg c2]at e;by_cases c3:ownS h (.mk k n ns ks)≠0
   ·rw[if_pos c3]at e;exact absurd e c3
   rw[if_neg c3]at e;obtain⟨i1,i2⟩:=JgE has h ks (d+1) (m+1) e;rw[Jo2,JeN,if_neg c2,i1,i2];by_cases k9:k=9
   ·subst k9;rfl
   by_cases k8:k=8
   ·subst k8;rfl
   by_cases k7:k=7
   ·subst k7;rfl
   rw[if_neg k9,if_neg k8,if_neg k7,if_neg k7,if_neg k8,if_neg k9]
theorem JgE (has h:Str->Bool):∀(ts:List Ty) (d m:Nat),(maysS h ts d m).1=0->endsAny has ts d=Q8 has ts/\endsAll has ts d=Q9 has ts
 |[],d,m,e=>⟨by rw[endsAny,Q8],by rw[endsAll,Q9]⟩
 | t::r,d,m,e=>by
   rw[Kv]at e
   split at e
   ·rename_i c;exact absurd e c
   rename_i c
   have c:(mayS h t d m).1=0:=by simpa using c
   obtain⟨i1,i2⟩:=JgE has h r _ _ e;rw[endsAny,Q8,endsAll,Q9,JeQ has h t d m c,i1,i2];exact⟨rfl,rfl⟩
end
theorem jJ (h:Str->Bool):∀(ts:List Ty) (d m:Nat),(maysS h ts d m).1=0->∀t∈ts,∃m',(mayS h t d m').1=0
 |[],d,m,e,t,ht=>by cases ht
 | a::r,d,m,e,t,ht=>by
   rw[Kv]at e
   split at e
   ·rename_i c;exact absurd e c
   rename_i c
   have c:(mayS h a d m).1=0:=by simpa using c
   rcases List.mem_cons.1 ht with rfl|ht
   ·exact⟨m,c⟩
   ·exact jJ h r _ _ e t ht
mutual
theorem Y8 {p q:Str->Bool}(h:∀x,p x=true->q x=true):∀(t:Ty),endsR p t=true->endsR q t=true
 | .mk k n ns ks,e=>by
   rw[JeN]at e⊢;obtain⟨i1,i2⟩:=Jdd h ks
   split
   ·rename_i c;rw[if_pos c]at e;exact i2 e
   rename_i c;rw[if_neg c]at e
   split
   ·rename_i c;rw[if_pos c]at e;exact i1 e
   rename_i c;rw[if_neg c]at e
   split
   ·rename_i c;rw[if_pos c]at e;exact h _ e
   ·rfl
theorem Jdd {p q:Str->Bool}(h:∀x,p x=true->q x=true):∀(ts:List Ty),(Q8 p ts=true->Q8 q ts=true)/\(Q9 p ts=true->Q9 q ts=true)
 |[]=>⟨fun e=>(by rw[Q8]at e;cases e),fun _=>(by rw[Q9])⟩
 | t::r=>by
   obtain⟨i1,i2⟩:=Jdd h r;have i3:=Y8 h t;rw[Q8,Q8,Q9,Q9,Bool.or_eq_true,Bool.or_eq_true,Bool.and_eq_true,Bool.and_eq_true];exact⟨fun e=>e.elim (fun a=> .inl (i3 a)) fun b=> .inr (i1 b),fun e=>⟨i3 e.1,i2 e.2⟩⟩
end
def stepL (l:List (Str×Ty))(has:List Str):List Str:=(l.filter fun p=>endsR has.contains p.2).map Prod.fst
theorem Yi (l:List (Str×Ty)):∀(k:Nat) (has:List Str),finR l (k+1) has=stepL l (finR l k has)
 |0,has=>by rw[Jai,finR,finR];rfl
 |k+1,has=>by rw[Jai,Yi l k,Jai]
theorem JbV {l:List (Str×Ty)}{has:List Str}{x:Str}:(stepL l has).contains x=true<->∃p∈l,p.1=x/\endsR has.contains p.2=true:=by
 unfold stepL;rw[List.contains_iff_mem,List.mem_map];constructor
 ·rintro⟨p,h1,h2⟩;rw[List.mem_filter]at h1;exact⟨p,h1.1,h2,h1.2⟩
 ·rintro⟨p,h1,h2,h3⟩;exact⟨p,List.mem_filter.2 ⟨h1,h3⟩,h2⟩
theorem JmS {l:List (Str×Ty)}{a b:List Str}(h:∀x,a.contains x=true->b.contains x=true):∀x,(stepL l a).contains x=true->(stepL l b).contains x=true:=fun x e=>by
 obtain⟨p,h1,h2,h3⟩:=JbV.1 e;exact JbV.2 ⟨p,h1,h2,Y8 h _ h3⟩
theorem Jmd (l:List (Str×Ty)):∀(k:Nat) (x:Str),(finR l k []).contains x=true->(finR l (k+1) []).contains x=true
 |0,x,h=>by rw[finR]at h;cases h
 | k+1,x,h=>by
   rw[Yi]at h;rw[Yi];exact JmS (Jmd l k) x h
theorem JgF {α:Type}{p q:α->Bool}:∀{l:List α},(∀x∈l,q x=true->p x=true)->(l.filter q).length<=(l.filter p).length
 |[],_=>Nat.le_refl _
 | a::r,h=>by
   have ih:=JgF (l:=r) fun x hx=>h x (List.mem_cons_of_mem _ hx);by_cases c:q a=true
   ·simp[List.filter,c,h a (by simp) c];exact ih
   ·have c:q a=false:=by simpa using c
    by_cases d:p a=true
    ·simp[List.filter,c,d];omega
    ·have d:p a=false:=by simpa using d
     simp[List.filter,c,d];exact ih
theorem qI {α:Type}{p q:α->Bool}:∀{l:List α},(∀x∈l,q x=true->p x=true)->(l.filter p).length<=(l.filter q).length->l.filter p=l.filter q
 |[],_,_=>rfl
 | a::r,h,hl=>by
   have h':∀x∈r,q x=true->p x=true:=fun x hx=>h x (List.mem_cons_of_mem _ hx);by_cases c:q a=true
   ·have d:=h a (by simp) c;simp only[List.filter,c,d,List.length_cons]at hl⊢;rw[qI h' (by omega)]
   ·have c:q a=false:=by simpa using c
    by_cases d:p a=true
    ·simp only[List.filter,c,d,List.length_cons]at hl;have:=JgF h';omega
    ·have d:p a=false:=by simpa using d
     simp only[List.filter,c,d]at hl⊢;exact qI h' hl
theorem JgG (l:List (Str×Ty)):∀k:Nat,k<=(finR l k []).length\/∃j,j<k/\finR l (j+1) []=finR l j []
 |0=> .inl (Nat.zero_le _)
 | k+1=>by
   rcases JgG l k with h|⟨j,h1,h2⟩
   ·by_cases e:finR l (k+1) []=finR l k []
    ·exact .inr ⟨k,Nat.lt_succ_self _,e⟩
    ·left
     cases k with
     | zero=>
       cases c:finR l 1 []with
       |nil=>rw[c,finR]at e;exact absurd rfl e
       |cons a r=>simp
     | succ k=>
       have up:=Jmd l k;have hB':=Yi l k [];have hC:=Yi l (k+1) [];obtain⟨A,hA⟩:∃A,A=finR l k []:=⟨_,rfl⟩
       obtain⟨B,hB⟩:∃B,B=finR l (k+1) []:=⟨_,rfl⟩
       rw[<-hA]at up hB';rw[<-hB]at up hB' hC h e;rw[hC]at e⊢;refine Nat.lt_of_not_le fun hle=>e ?_;have hle2:(stepL l B).length<=B.length:=by omega
       rw[hB']at hle2
       conv=>rhs;rw[hB']
       rw[<-hB']at hle2;unfold stepL at hle2⊢;congr 1;refine qI (fun x _ hx=>Y8 up _ hx) ?_;rw[List.length_map]at hle2;have hBl:B.length=(l.filter fun p=>endsR A.contains p.2).length:=by rw[hB'];unfold stepL;rw[List.length_map]
       have hle:(l.filter fun p=>endsR B.contains p.2).length<=k+1:=by unfold stepL at hle;rw[List.length_map]at hle;exact hle
       omega
   ·exact .inr ⟨j,by omega,h2⟩
theorem Jo3 (l:List (Str×Ty)):∀k:Nat,(finR l k []).length<=l.length
 |0=>by rw[finR];exact Nat.zero_le _
 | k+1=>by
   rw[Yi];unfold stepL;rw[List.length_map];exact List.length_filter_le _ _
theorem Jcz {l:List (Str×Ty)}{j:Nat}(h:finR l (j+1) []=finR l j []):∀i,finR l (j+i) []=finR l j []
 |0=>rfl
 | i+1=>by
   rw[<-Nat.add_assoc,Yi,Jcz h i,<-Yi,h]
theorem Jjr (l:List (Str×Ty)):finR l (l.length+1) []=finR l l.length []:=by
 rcases JgG l (l.length+1)with h|⟨j,h1,h2⟩
 ·have:=Jo3 l (l.length+1);omega
 ·have a:=Jcz h2 (l.length-j);have b:=Jcz h2 (l.length+1-j);rw[show j+(l.length-j)=l.length by omega]at a;rw[show j+(l.length+1-j)=l.length+1 by omega]at b;rw[a,b]
theorem Jjs :∀(r:List (Str×Ty)) (has:List (Str×Bool)) (x:Str),gB x has=true->gB x (roundS r has)=true
 |[],has,x,h=>by rw[roundS];exact h
 | (n,t)::r,has,x,h=>by
   rw[roundS];refine Jjs r _ x ?_;rw[JaL]
   split
   ·rename_i e;rw[<-e,h];rfl
   ·exact h
theorem Jjt :∀(r:List (Str×Ty)) (has has0:List (Str×Bool)),(∀x,gB x has0=true->gB x has=true)->(∀p∈r,∀f,endsS f p.2 1=endsR f p.2)->∀p∈r,endsR (fun x=>gB x has0) p.2=true->gB p.1 (roundS r has)=true
 |[],has,has0,h,he,p,hp,e=>by cases hp
 | (n,t)::r,has,has0,h,he,p,hp,e=>by
   rw[roundS];rcases List.mem_cons.1 hp with rfl|hp
   ·refine Jjs r _ _ ?_;rw[JaL,if_pos rfl,he (n,t) (by simp),Y8 h _ e,Bool.or_true]
   ·refine Jjt r _ has0 (fun x hx=> ?_) (fun p hp=>he p (List.mem_cons_of_mem _ hp)) p hp e;rw[JaL]
    split
    ·rename_i e2;rw[<-e2,h x hx];rfl
    ·exact h x hx
theorem Jju {l:List (Str×Ty)}{L:Str->Bool}(hL:∀p∈l,endsR L p.2=true->L p.1=true):∀(r:List (Str×Ty)) (has:List (Str×Bool)),(∀p∈r,p∈l)->(∀p∈r,∀f,endsS f p.2 1=endsR f p.2)->(∀x,gB x has=true->L x=true)->∀x,gB x (roundS r has)=true->L x=true
 |[],has,hr,he,h,x,hx=>by rw[roundS]at hx;exact h x hx
 | (n,t)::r,has,hr,he,h,x,hx=>by
   rw[roundS]at hx;refine Jju hL r _ (fun p hp=>hr p (List.mem_cons_of_mem _ hp)) (fun p hp=>he p (List.mem_cons_of_mem _ hp)) (fun y hy=> ?_) x hx;rw[JaL]at hy
   split at hy
   ·rename_i e
    rw[Bool.or_eq_true]at hy;rcases hy with hy|hy
    ·rw[e];exact h n hy
    ·rw[he (n,t) (by simp)]at hy;rw[e];exact hL (n,t) (hr _ (by simp)) (Y8 h _ hy)
   ·exact h y hy
theorem JgH {l:List (Str×Ty)}{L:Str->Bool}(hL:∀p∈l,endsR L p.2=true->L p.1=true)(he:∀p∈l,∀f,endsS f p.2 1=endsR f p.2):∀(k:Nat) (has:List (Str×Bool)),(∀x,gB x has=true->L x=true)->∀x,gB x (roundsS l k has)=true->L x=true
 |0,has,h,x,hx=>by rw[roundsS]at hx;exact h x hx
 | k+1,has,h,x,hx=>by
   rw[roundsS]at hx;exact JgH hL he k _ (Jju hL l has (fun p hp=>hp) he h) x hx
theorem JgI {l:List (Str×Ty)}(he:∀p∈l,∀f,endsS f p.2 1=endsR f p.2):∀(k j:Nat) (has:List (Str×Bool)),(∀x,(finR l j []).contains x=true->gB x has=true)->∀x,(finR l (j+k) []).contains x=true->gB x (roundsS l k has)=true
 |0,j,has,h,x,hx=>by rw[roundsS];exact h x hx
 | k+1,j,has,h,x,hx=>by
   rw[roundsS];refine JgI he k (j+1) _ (fun y hy=> ?_) x (by rw[show j+1+k=j+(k+1) by omega];exact hx);rw[Yi]at hy;obtain⟨p,h1,h2,h3⟩:=JbV.1 hy;rw[<-h2];exact Jjt l has has (fun _ h=>h) he p h1 (Y8 h _ h3)
theorem Jkz {l:List (Str×Ty)}(he:∀p∈l,∀f,endsS f p.2 1=endsR f p.2):(fun x=>gB x (roundsS l l.length []))=fun x=>(finR l (l.length+1) []).contains x:=by
 funext x;have hfix:=Jjr l;have h1:gB x (roundsS l l.length [])=true->(finR l (l.length+1) []).contains x=true:=fun h=>by
  refine JgH (L:=fun x=>(finR l (l.length+1) []).contains x) (fun p hp e=> ?_) he l.length [] (fun y hy=>by cases hy) x h;rw[hfix]at e;show(finR l (l.length+1) []).contains p.1=true;rw[Yi];exact JbV.2 ⟨p,hp,rfl,e⟩
 have h2:(finR l (l.length+1) []).contains x=true->gB x (roundsS l l.length [])=true:=fun h=>by
  rw[hfix]at h;refine JgI he l.length 0 [] (fun y hy=>by rw[finR]at hy;cases hy) x ?_;rw[Nat.zero_add];exact h
 cases a:gB x (roundsS l l.length [])<;>cases b:(finR l (l.length+1) []).contains x
 ·rfl
 ·rw[h2 b]at a;cases a
 ·rw[h1 a]at b;cases b
 ·rfl
theorem Js6 {l:List (Str×Ty)}{t:Ty}(hl:(maysS (hasN l) (l.map Prod.snd) 1 0).1=0)(ht:(mayS (hasN l) t 1 0).1=0):finS l t=endsR (fun x=>(finR l (l.length+1) []).contains x) t:=by
 unfold finS;rw[if_neg (fun k=>k hl),if_neg (fun k=>k ht),JeQ _ _ t 1 0 ht];rw[Jkz fun p hp f=>by
  obtain⟨m',e⟩:=jJ _ _ _ _ hl p.2 (List.mem_map.2 ⟨p,hp,rfl⟩);exact JeQ f _ p.2 1 m' e]
mutual
theorem Jme (has:Str->Bool)(k:Nat):∀(t:Ty) (d m:Nat),(mayS has t d (m+k)).1=0->(mayS has t d m).1=0/\(mayS has t d (m+k)).2=(mayS has t d m).2+k
 | .mk kd n ns ks,d,m,e=>by
   rw[jI]at e⊢;rw[jI];by_cases c1:400<m+k+1
   ·rw[if_pos c1]at e;cases e
   rw[if_neg c1]at e⊢;rw[if_neg (show¬400<m+1 by omega)];by_cases c2:12<d
   ·rw[if_pos c2]at e;cases e
   rw[if_neg c2]at e⊢;rw[if_neg c2];by_cases c3:ownS has (.mk kd n ns ks)≠0
   ·rw[if_pos c3]at e;exact absurd e c3
   rw[if_neg c3]at e⊢;rw[if_neg c3];rw[show m+k+1=m+1+k by omega]at e⊢;exact Jjv has k ks (d+1) (m+1) e
theorem Jjv (has:Str->Bool)(k:Nat):∀(ts:List Ty) (d m:Nat),(maysS has ts d (m+k)).1=0->(maysS has ts d m).1=0/\(maysS has ts d (m+k)).2=(maysS has ts d m).2+k
 |[],d,m,e=>by rw[Yh,Yh];exact⟨rfl,rfl⟩
 | t::r,d,m,e=>by
   rw[Kv]at e;rw[Kv has t r d m,Kv has t r d (m+k)];by_cases c:(mayS has t d (m+k)).1=0
   ·obtain⟨i1,i2⟩:=Jme has k t d m c;rw[if_neg (fun h=>h c)]at e;rw[if_neg (fun h=>h i1),if_neg (fun h=>h c)];rw[i2]at e⊢;exact Jjv has k r d _ e
   ·rw[if_pos c]at e;exact absurd e c
end
theorem Jo4 {has:Str->Bool}{t:Ty}{d m:Nat}(h:(mayS has t d m).1=0):(mayS has t d 0).1=0:=by
 have:=Jme has m t d 0 (by rw[Nat.zero_add];exact h);exact this.1
theorem Ja1 (l:List (Str×Ty))(t:Ty)(h:t.kind≠9):∀k,openT l k t=t
 |0=>rfl
 |k+1=>by rw[kM,if_neg h,Ja1 l t h k]
theorem Jjw {l:List (Str×Ty)}{rk:Str->Nat}(hd:(l.map Prod.fst).Nodup)(hrk:∀p∈l,p.2.kind=9->rk p.2.name<rk p.1)(hn:∀p∈l,p.2.kind=9->∃q∈l,q.1=p.2.name):
  ∀(f r:Nat) (t:Ty),(t.kind=9->∃p∈l,p.1=t.name/\rk p.1<r)->(l.filter fun p=>decide (rk p.1<r)).length<=f->(openT l f t).kind≠9
 | 0,r,t,ht,hf=>by
   rw[openT];intro k9;obtain⟨p,h1,h2,h3⟩:=ht k9;have:p∈l.filter fun p=>decide (rk p.1<r):=List.mem_filter.2 ⟨h1,decide_eq_true h3⟩;rw[List.eq_nil_of_length_eq_zero (Nat.le_zero.1 hf)]at this
   cases this
 | f+1,r,t,ht,hf=>by
   by_cases k9:t.kind=9
   ·obtain⟨p,h1,h2,h3⟩:=ht k9;rw[kM,if_pos k9,<-h2,Jmb hd h1];show(openT l f p.2).kind≠9;refine Jjw hd hrk hn f (rk p.1) p.2 (fun k=> ?_) ?_
    ·obtain⟨q,q1,q2⟩:=hn p h1 k;exact⟨q,q1,q2,by rw[q2];exact hrk p h1 k⟩
    ·have:(l.filter fun q=>decide (rk q.1<rk p.1)).length<(l.filter fun p=>decide (rk p.1<r)).length:=
      Jcy (p:=fun q=>decide (rk q.1<rk p.1)) (q:=fun p=>decide (rk p.1<r)) (x:=p) (fun x hx=>decide_eq_true (Nat.lt_trans (of_decide_eq_true hx) h3)) (decide_eq_true h3) (decide_eq_false (Nat.lt_irrefl _)) h1
     omega
   ·rw[Ja1 l t k9];exact k9
theorem JkA (l:List (Str×Ty))(t:Ty){i:Nat}(h:(openT l i t).kind≠9):openT l (i+1) t=openT l i t:=by
 rw[kN,if_neg h]
structure Ends (l:List (Str×Ty)):Prop where
 nd:(l.map Prod.fst).Nodup
 may:(maysS (hasN l) (l.map Prod.snd) 1 0).1=0
 fin:∀p∈l,finS l p.2=true
theorem Ends.opens {l:List (Str×Ty)}(h:Ends l){t:Ty}(ht:t.kind=9->hasN l t.name=true):(openT l l.length t).kind≠9:=by
 obtain⟨rk,hrk⟩:=Jjo h.nd h.fin;have closed:∀p∈l,p.2.kind=9->∃q∈l,q.1=p.2.name:=fun p hp k=>by
  have:=j4 (kU _ _ _ _ h.may) p.2 (List.mem_map.2 ⟨p,hp,rfl⟩);generalize p.2=T at this k⊢;obtain⟨k',n,ns,ks⟩:=T;have k:k'=9:=k;rw[namesIn,Bool.and_eq_true,Bool.or_eq_true]at this;rcases this.1 with h|h
  ·exact absurd k (of_decide_eq_true h)
  ·obtain⟨T,hT⟩:=JeM h;exact⟨_,hT,rfl⟩
 by_cases k9:t.kind=9
 ·obtain⟨T,hT⟩:=JeM (ht k9);exact Jjw h.nd hrk closed l.length (rk t.name+1) t (fun _=>⟨_,hT,rfl,Nat.lt_succ_self _⟩) (List.length_filter_le _ _)
 ·rw[Ja1 l t k9];exact k9
mutual
theorem Jmf {l:List (Str×Ty)}(h:Ends l):∀(t:Ty) (d m:Nat),(mayS (hasN l) t d m).1=0->optsS l t=optsR l t
 | .mk k n ns ks,d,m,e=>by
   have hni:=Jcx _ _ _ _ e;have hok:=JeP _ _ _ _ e;rw[jI]at e;by_cases c1:400<m+1
   ·rw[if_pos c1]at e;cases e
   rw[if_neg c1]at e;by_cases c2:12<d
   ·rw[if_pos c2]at e;cases e
   rw[if_neg c2]at e;by_cases c3:ownS (hasN l) (.mk k n ns ks)≠0
   ·rw[if_pos c3]at e;exact absurd e c3
   rw[if_neg c3]at e;have c3:ownS (hasN l) (.mk k n ns ks)=0:=by simpa using c3
   rw[Ji1,Jjq,Jjx h ks (d+1) (m+1) e];by_cases k6:k=6
   ·have hk1:ks.length=1:=by
     unfold ownS at c3
     split at c3
     ·cases c3
     split at c3
     ·cases c3
     rename_i c
     have:ks.length=kidsS (.mk k n ns ks):=Classical.byContradiction fun h=>c (.inl h);rw[this];unfold kidsS;exact if_pos (.inr (.inr k6))
    rw[if_pos ⟨k6,hk1⟩,if_pos k6];obtain⟨c,rfl⟩:∃c,ks=[c]:=by
     match ks,hk1 with
     |[c],_=>exact⟨c,rfl⟩
    rw[namesIn,Bool.and_eq_true]at hni;have hc:=j4 hni.2 c (by simp);have:(openT l l.length c).kind≠9:=h.opens fun k9=>by
     obtain⟨k',n',ns',ks'⟩:=c;have k9:k'=9:=k9;rw[namesIn,Bool.and_eq_true,Bool.or_eq_true]at hc;rcases hc.1 with h|h
     ·exact absurd k9 (of_decide_eq_true h)
     ·exact h
    rw[List.headD_cons,JkA l c this]
   ·rw[if_neg (fun h=>k6 h.1),if_neg k6]
theorem Jjx {l:List (Str×Ty)}(h:Ends l):∀(ts:List Ty) (d m:Nat),(maysS (hasN l) ts d m).1=0->optssS l ts=optsRs l ts
 |[],d,m,e=>by rw[optssS,optsRs]
 | t::r,d,m,e=>by
   rw[Kv]at e;by_cases c:(mayS (hasN l) t d m).1=0
   ·rw[if_neg (fun h=>h c)]at e;rw[optssS,optsRs,Jmf h t d m c,Jjx h r d _ e]
   ·rw[if_pos c]at e;exact absurd e c
end
theorem Jjy (has:Str->Bool):∀(p:Option Str) (fs:List Sg) (met:Nat),(sigsS has p fs met).1=0->∀f∈fs,∃m,(maysS has (f.params++[f.result]) 1 m).1=0
 |_,[],_,_,f,hf=>by cases hf
 | p,g::r,met,h,f,hf=>by
   rw[kq]at h
   split at h
   ·cases h
   split at h
   ·cases h
   split at h
   ·cases h
   split at h
   ·rename_i c;exact absurd h c
   rename_i c
   rcases List.mem_cons.1 hf with rfl|hf
   ·exact⟨met,by simpa using c⟩
   ·exact Jjy has _ r _ h f hf
theorem JqK {l:List (Str×Ty)}{q:(Str×Ty)->Bool}:(l.filter q).length=l.length<->l.any (fun p=> !q p)=false:=by
 induction l with
 |nil=>exact⟨fun _=>rfl,fun _=>rfl⟩
 | cons a r ih=>
   have:=List.length_filter_le q r
   cases c:q a with
   |true=>simp only[List.filter,c,List.length_cons,List.any_cons,Bool.not_true,Bool.false_or];rw[<-ih];omega
   |false=>simp only[List.filter,c,List.length_cons,List.any_cons,Bool.not_false,Bool.true_or];constructor<;>intro h<;>first|omega|cases h
theorem JqL {l:List (Str×Ty)}(hl:(maysS (hasN l) (l.map Prod.snd) 1 0).1=0):(finR l (l.length+1) []).length=l.length<->l.any (fun p=> !finS l p.2)=false:=by
 rw[<-JqK];have e:(finR l (l.length+1) []).length=(l.filter fun p=>finS l p.2).length:=by
  rw[Yi];unfold stepL;rw[List.length_map];congr 1;refine List.filter_congr fun p hp=> ?_;obtain⟨m',e⟩:=jJ _ _ _ _ hl p.2 (List.mem_map.2 ⟨p,hp,rfl⟩);rw[Js6 hl (Jo4 e),Jjr]
 rw[e]
theorem Js7 (s:Sch):refS s=checkS s:=by
 rw[JgA];unfold refS;by_cases h1:12<s.types.length\/12<s.sigs.length
 ·rw[if_pos h1,if_pos h1]
 rw[if_neg h1,if_neg h1];by_cases h2:typesS none (s.types.map Prod.fst)≠0
 ·rw[if_pos h2,if_pos h2]
 rw[if_neg h2,if_neg h2];by_cases h3:(maysS (hasN s.types) (s.types.map Prod.snd) 1 0).1≠0
 ·rw[if_pos h3,if_pos h3]
 rw[if_neg h3,if_neg h3];by_cases h4:(mayS (hasN s.types) s.main 1 (maysS (hasN s.types) (s.types.map Prod.snd) 1 0).2).1≠0
 ·rw[if_pos h4,if_pos h4]
 rw[if_neg h4,if_neg h4];by_cases h5:(sigsS (hasN s.types) none s.sigs (mayS (hasN s.types) s.main 1 (maysS (hasN s.types) (s.types.map Prod.snd) 1 0).2).2).1≠0
 ·rw[if_pos h5,if_pos h5]
 rw[if_neg h5,if_neg h5];have h3:(maysS (hasN s.types) (s.types.map Prod.snd) 1 0).1=0:=by simpa using h3
 have hnd:(s.types.map Prod.fst).Nodup:=JbR (by simpa using h2);have hf:=JqL h3
 cases c:s.types.any (fun p=> !finS s.types p.2)with
 | true=>
   rw[if_pos (fun h=>by rw[hf.1 h]at c;cases c),if_pos rfl]
 | false=>
   rw[if_neg (fun h=>h (hf.2 c)),if_neg (show¬(false=true) by decide)];have hE:Ends s.types:=⟨hnd,h3,fun p hp=>by
    cases e:finS s.types p.2 with
    |true=>rfl
    | false=>
      have:s.types.any (fun p=> !finS s.types p.2)=true:=List.any_eq_true.2 ⟨p,hp,by rw[e];rfl⟩;rw[this]at c;cases c⟩
   have hall:∀t∈everyS s,∃m,(mayS (hasN s.types) t 1 m).1=0:=fun t ht=>by
    unfold everyS at ht;rcases List.mem_append.1 ht with ht|ht
    ·rcases List.mem_append.1 ht with ht|ht
     ·exact jJ _ _ _ _ h3 t ht
     ·rw[List.mem_singleton.1 ht];exact⟨_,by simpa using h4⟩
    ·obtain⟨ts,h1,h2⟩:=List.mem_flatten.1 ht;obtain⟨f,hf,rfl⟩:=List.mem_map.1 h1;obtain⟨m,hm⟩:=Jjy _ _ _ _ (by simpa using h5) f hf;exact jJ _ _ _ _ hm t h2
   rw[kO];have e:(everyS s).any (optsS s.types)=(everyS s).any (optsR s.types):=by
    have key:∀l:List Ty,(∀t∈l,∃m,(mayS (hasN s.types) t 1 m).1=0)->l.any (optsS s.types)=l.any (optsR s.types):=fun l=>by
     induction l with
     |nil=>intro _;rfl
     | cons a r ih=>
       intro h;obtain⟨m,hm⟩:=h a (by simp);rw[List.any_cons,List.any_cons,Jmf hE a 1 m hm,ih fun t ht=>h t (List.mem_cons_of_mem _ ht)]
    exact key _ hall
   rw[e]
theorem JgJ (n:Str):∀(l:List Str) (h:placeS n l<l.length),Op.bytesLess l[placeS n l] n=false
 |[],h=>absurd h (by simp)
 | a::r,h=>by
   by_cases c:Op.bytesLess a n=true
   ·have e:placeS n (a::r)=placeS n r+1:=by rw[placeS,if_pos c]
    have h2:placeS n r<r.length:=by rw[e]at h;simpa using h
    simp only[e,List.getElem_cons_succ];exact JgJ n r h2
   ·have e:placeS n (a::r)=0:=by rw[placeS,if_neg c]
    simp only[e,List.getElem_cons_zero];simpa using c
def Sorted (l:List Str):Prop:=l.Pairwise fun a b=>Op.bytesLess a b=true
theorem Jhu {n:Str}{l:List Str}(hs:Sorted l)(hn:l[placeS n l]?≠some n):Sorted (l.take (placeS n l)++n::l.drop (placeS n l)):=by
 unfold Sorted;rw[List.pairwise_append,List.pairwise_cons];have h1:∀a∈l.take (placeS n l),Op.bytesLess a n=true:=fun a ha=>by
  obtain⟨i,hi,e⟩:=List.getElem_of_mem ha;rw[List.getElem_take]at e;rw[List.length_take]at hi;rw[<-e];exact Jgt n l i (by omega) (by omega)
 have h2:∀b∈l.drop (placeS n l),Op.bytesLess n b=true:=fun b hb=>by
  by_cases hp:placeS n l<l.length
  ·have hd:=List.drop_eq_getElem_cons hp;have hfirst:Op.bytesLess n l[placeS n l]=true:=by
    have:=Ja0 l[placeS n l] n;rw[JgJ n l hp]at this;rw[List.getElem?_eq_getElem hp]at hn;have hne:¬l[placeS n l]=n:=fun e=>hn (by rw[e]);rw[decide_eq_false hne]at this;simpa using this.symm
   have hs2:=hs.sublist (List.drop_sublist (placeS n l) l);rw[hd,List.pairwise_cons]at hs2;rw[hd]at hb;rcases List.mem_cons.1 hb with rfl|hb
   ·exact hfirst
   ·exact kT hfirst (hs2.1 b hb)
  ·rw[List.drop_eq_nil_of_le (by omega)]at hb;cases hb
 refine⟨hs.sublist (List.take_sublist _ _),⟨h2,hs.sublist (List.drop_sublist _ _)⟩,fun a ha b hb=> ?_⟩;rcases List.mem_cons.1 hb with rfl|hb
 ·exact h1 a ha
 ·exact kT (h1 a ha) (h2 b hb)
structure PutI (k:Int) (G:Ty->Prop) (i:Nat) (t:Ty):Prop where
 kind:t.kind=k
 name:t.name=[]
 len:t.names.length=t.kids.length
 few:t.names.length<=i
 pos:0<i->0<t.names.length
 sorted:Sorted t.names
 ident:∀n∈t.names,identB n=true
 kids:∀x∈t.kids,G x
theorem PutI.put {k:Int}{G:Ty->Prop}{i:Nat}{t:Ty}(h:PutI k G i t){n:Str}{x:Ty}(hn:identB n=true)(hx:G x):PutI k G (i+1) (putS t n x):=by
 have hf:=h.few;have hl:=h.len;unfold putS;have hple:=Jgs n t.names;by_cases c:t.names[placeS n t.names]? =some n
 ·rw[if_pos c];refine⟨h.kind,h.name,h.len,by omega,fun _=> ?_,h.sorted,h.ident,h.kids⟩;have:=(List.getElem?_eq_some_iff.1 c).1;omega
 ·rw[if_neg c];refine⟨h.kind,h.name, ?_, ?_,fun _=> ?_, ?_,fun m hm=> ?_,fun y hy=> ?_⟩
  ·show(t.names.take _++n::t.names.drop _).length=(t.kids.take _++x::t.kids.drop _).length;simp only[List.length_append,List.length_cons,List.length_take,List.length_drop];omega
  ·show(t.names.take _++n::t.names.drop _).length<=i+1;simp only[List.length_append,List.length_cons,List.length_take,List.length_drop];omega
  ·show 0<(t.names.take _++n::t.names.drop _).length;simp only[List.length_append,List.length_cons];omega
  ·exact Jhu h.sorted c
  ·have hm:m∈t.names.take (placeS n t.names)++n::t.names.drop (placeS n t.names):=hm;rcases List.mem_append.1 hm with hm|hm
   ·exact h.ident m (List.mem_of_mem_take hm)
   ·rcases List.mem_cons.1 hm with rfl|hm
    ·exact hn
    ·exact h.ident m (List.mem_of_mem_drop hm)
  ·have hy:y∈t.kids.take (placeS n t.names)++x::t.kids.drop (placeS n t.names):=hy;rcases List.mem_append.1 hy with hy|hy
   ·exact h.kids y (List.mem_of_mem_take hy)
   ·rcases List.mem_cons.1 hy with rfl|hy
    ·exact hx
    ·exact h.kids y (List.mem_of_mem_drop hy)
mutual
def fitT :Ty->Bool
 | .mk _ _ ns ks=>decide (ns.length<=8)&&decide (ks.length<=8)&&fitTs ks
def fitTs :List Ty->Bool
 |[]=>true
 |t::r=>fitT t&&fitTs r
end
theorem Jhv {k:Int}{n:Str}{ns:List Str}{ks:List Ty}(h:fitT (.mk k n ns ks)=true):ns.length<=8/\ks.length<=8/\fitTs ks=true:=by
 rw[fitT,Bool.and_eq_true,Bool.and_eq_true]at h;exact⟨of_decide_eq_true h.1.1,of_decide_eq_true h.1.2,h.2⟩
theorem JcA :∀{ks:List Ty},fitTs ks=true->∀i (h:i<ks.length),fitT ks[i]=true
 |[],_,i,h=>absurd h (by simp)
 | t::r,hf,i,h=>by
   rw[fitTs,Bool.and_eq_true]at hf
   cases i with
   |zero=>exact hf.1
   |succ i=>exact JcA hf.2 i (by simpa using h)
mutual
theorem JeR :∀(t:Ty) {left:Int} {tb:Tb},(addT t left tb).2.2.1=0->fitT t=true
 | .mk k n ns ks,left,tb,h=>by
   rw[Q7]at h;by_cases c:left-1<0\/8<ks.length\/8<ns.length
   ·rw[if_pos c]at h;cases h
   rw[if_neg c]at h
   cases he:addTs ks (left-1) tb with
   |mk t1 x=>
   obtain⟨ids,e,l1⟩:=x;rw[he]at h;by_cases e0:e=0
   ·have e1:(addTs ks (left-1) tb).2.2.1=0:=by rw[he];exact e0
    rw[fitT,JgK ks e1,decide_eq_true (by omega),decide_eq_true (by omega)];rfl
   ·have h:(if e≠0 then(t1,0,e,l1)else((layS t1 ⟨k,n,ns,ids⟩).1,(layS t1 ⟨k,n,ns,ids⟩).2.1,(layS t1 ⟨k,n,ns,ids⟩).2.2,l1):Tb×Nat×Int×Int).2.2.1=0:=h;rw[if_pos e0]at h;exact absurd h e0
theorem JgK :∀(ts:List Ty) {left:Int} {tb:Tb},(addTs ts left tb).2.2.1=0->fitTs ts=true
 |[],_,_,_=>by rw[fitTs]
 | t::r,left,tb,h=>by
   rw[Qe]at h
   cases he:addT t left tb with
   |mk t1 x=>
   obtain⟨i,e,l1⟩:=x;rw[he]at h;by_cases e0:e=0
   ·have e1:(addT t left tb).2.2.1=0:=by rw[he];exact e0
    subst e0;have h:(addTs r l1 t1).2.2.1=0:=h;rw[fitTs,JeR t e1,JgK r h];rfl
   ·have h:(if e≠0 then(t1,[],e,l1)else((addTs r l1 t1).1,i::(addTs r l1 t1).2.1,(addTs r l1 t1).2.2.1,(addTs r l1 t1).2.2.2):Tb×List Nat×Int×Int).2.2.1=0:=h;rw[if_pos e0]at h;exact absurd h e0
end
theorem Able.fit {X:Ty}(h:Able X):fitT X=true:=by
 obtain⟨_,_,_,h⟩:=h;exact JeR X h
theorem j5 {nodes:List Nd}{t:Ty}{r:List Ty}{l:List Nat}(h:looksT nodes (t::r)=some l):∃a b,l=a::b/\lookT nodes t=some a/\looksT nodes r=some b:=by
 rw[looksT]at h
 cases c1:lookT nodes t with
 |none=>rw[c1]at h;cases h
 | some a=>
   cases c2:looksT nodes r with
   |none=>rw[c1,c2]at h;cases h
   | some b=>
     rw[c1,c2]at h;injection h with h;exact⟨a,b,h.symm,rfl,rfl⟩
mutual
theorem Jjz {nodes:List Nd}:∀{X Y:Ty} {i:Nat},lookT nodes X=some i->lookT nodes Y=some i->X=Y
 | .mk k n ns ks, .mk k' n' ns' ks',i,h,h'=>by
   obtain⟨ids,a1,a2⟩:=Y7 h;obtain⟨ids',b1,b2⟩:=Y7 h';rw[a1]at b1;injection b1 with b1;injection b1 with e1 e2 e3 e4;have a2:looksT nodes ks=some ids:=a2;have b2:looksT nodes ks'=some ids':=b2;rw[<-e4]at b2;have:=JgL a2 b2;rw[this];have e1:k=k':=e1;have e2:n=n':=e2;have e3:ns=ns':=e3;rw[e1,e2,e3]
theorem JgL {nodes:List Nd}:∀{X Y:List Ty} {i:List Nat},looksT nodes X=some i->looksT nodes Y=some i->X=Y
 |[],[],i,h,h'=>rfl
 | [],y::r,i,h,h'=>by
   obtain⟨a,b,rfl,_,_⟩:=j5 h'
   cases h
 | x::l,[],i,h,h'=>by
   obtain⟨a,b,rfl,_,_⟩:=j5 h
   cases h'
 | x::l,y::r,i,h,h'=>by
   obtain⟨a,b,rfl,c1,c2⟩:=j5 h;obtain⟨a',b',e,d1,d2⟩:=j5 h';injection e with e1 e2;rw[e1]at c1;rw[e2]at c2;rw[Jjz c1 d1,JgL c2 d2]
end
theorem OfSch.lay {s:Sch}{tb:Tb}(h:OfSch s tb){k:Int}(hk:k≠9)(he:(layS tb ⟨k,[],[],[]⟩).2.2=0):OfSch s (layS tb ⟨k,[],[],[]⟩).1:=by
 have hT:addT (.mk k [] [] []) 400 tb=((layS tb ⟨k,[],[],[]⟩).1,(layS tb ⟨k,[],[],[]⟩).2.1,(layS tb ⟨k,[],[],[]⟩).2.2,399):=by
  rw[Q7,if_neg (by simp),Qw];rfl
 have h1:namesIn (hasN s.types) (.mk k [] [] [])=true:=by
  rw[namesIn,Yq,decide_eq_true hk];rfl
 have h2:(addT (.mk k [] [] []) 400 tb).2.2.1=0:=by rw[hT];exact he
 have:=(h.add h1 h2).1;rw[hT]at this;exact this
structure RT (Sb S:St) (ru:Pt) (lv tv:V) (rest:List V) (O:Pt->Prop) (nodes:List Nd) (trees:List Ty):Prop where
 g:Gr Sb S
 ru0:Sb.row ru= .none
 cell:∃t,S.row ru= .cells t (lv::tv::rest)
 l:∃es,SlF Sb S lv 4 es/\es.length=nodes.length/\∀i (h:i<es.length) (h':i<nodes.length),NdC O S es[i] nodes[i]
 t:∃es,SlF Sb S tv 4 es/\es.length=trees.length/\∀i (h:i<es.length) (h':i<trees.length),TyC (fun r=>Sb.row r≠ .none) S es[i] trees[i]
 apl:∀r,rowOf lv=some r->rowOf tv≠some r/\r≠ru
 apt:∀r,rowOf tv=some r->r≠ru
 o:∀r,O r->S.row r≠ .none/\Sb.row r= .none/\r≠ru/\rowOf lv≠some r/\rowOf tv≠some r
def Bt (ru:Pt)(lv tv:V)(O:Pt->Prop)(r:Pt):Prop:=r=ru\/rowOf lv=some r\/rowOf tv=some r\/O r
structure Kp (B B':Pt->Prop) (st S:St):Prop where
 same:∀r,st.row r≠ .none->¬B r->S.row r=st.row r
 sub:∀r,B' r->B r\/st.row r= .none
theorem Kp.refl (B:Pt->Prop)(st:St):Kp B B st st:=⟨fun _ _ _=>rfl,fun _ h=> .inl h⟩
theorem Kp.gr {B:Pt->Prop}{st S:St}(g:Gr st S):Kp B B st S:=⟨fun r e _=>g.same r e,fun _ h=> .inl h⟩
theorem Kp.dead {B B':Pt->Prop}{st S:St}(h:Kp B B' st S){r:Pt}(e:S.row r= .none):B r\/st.row r= .none:=by
 by_cases b:B r
 ·exact .inl b
 ·exact .inr (Classical.byContradiction fun n=>n ((h.same r n b)▸e))
theorem Kp.trans {B B' B'':Pt->Prop}{st S S':St}(h:Kp B B' st S)(k:Kp B' B'' S S'):Kp B B'' st S':=by
 refine⟨fun r e b=> ?_,fun r e=> ?_⟩
 ·have a:=h.same r e b;rw[k.same r (by rw[a];exact e) fun x=>(h.sub r x).elim b e,a]
 ·rcases k.sub r e with x|x
  ·exact h.sub r x
  ·exact h.dead x
section
variable {Sb st S S' : St} {ru : Pt} {lv tv lv' tv' lv'' tv'' : V} {rest : List V} {O O' O'' : Pt -> Prop} {nodes : List Nd} {trees : List Ty}
theorem RT.keep (h:RT Sb S ru lv tv rest O nodes trees)(g:Gr Sb S')(k:∀r,r=ru\/rowOf lv=some r\/rowOf tv=some r\/O r->S'.row r=S.row r):RT Sb S' ru lv tv rest O nodes trees:=by
 obtain⟨es,l1,l2,l3⟩:=h.l;obtain⟨ts,t1,t2,t3⟩:=h.t;obtain⟨t,c⟩:=h.cell;refine⟨g,h.ru0,⟨t,by rw[k ru (.inl rfl),c]⟩,⟨es,l1.keep fun r e=>k r (.inr (.inl e)),l2,fun i a b=>(l3 i a b).imp fun r p _=>⟨p,k r (.inr (.inr (.inr p)))⟩⟩,⟨ts,t1.keep fun r e=>k r (.inr (.inr (.inl e))),t2,fun i a b=>(t3 i a b).imp fun r p _=>⟨p,by rw[g.same r p,h.g.same r p]⟩⟩,h.apl,h.apt,fun r p=> ?_⟩;obtain⟨a,b⟩:=h.o r p;exact⟨by rw[k r (.inr (.inr (.inr p)))];exact a,b⟩
theorem RT.alive (h:RT Sb S ru lv tv rest O nodes trees):∀r,r=ru\/rowOf lv=some r\/rowOf tv=some r\/O r->S.row r≠ .none:=fun r e=>by
 obtain⟨es,l1,_⟩:=h.l;obtain⟨ts,t1,_⟩:=h.t;obtain⟨t,c⟩:=h.cell;rcases e with rfl|e|e|e
 ·exact Jd c
 ·exact l1.some e
 ·exact t1.some e
 ·exact(h.o r e).1
theorem RT.gr (h:RT Sb S ru lv tv rest O nodes trees)(g:Gr S S'):RT Sb S' ru lv tv rest O nodes trees:=h.keep (h.g.trans g) fun r e=>g.same r (h.alive r e)
end
structure TreesOf (nodes:List Nd) (trees:List Ty):Prop where
 len:trees.length=nodes.length
 look:∀i (h:i<trees.length),lookT nodes trees[i]=some i
 fit:∀t∈trees,fitT t=true
 few:nodes.length<=120
theorem TreesOf.nil :TreesOf [] []:=⟨rfl,fun i h=>absurd h (by simp),fun t h=>(nomatch h),Nat.zero_le _⟩
theorem TreesOf.at {nodes:List Nd}{trees:List Ty}(h:TreesOf nodes trees){X:Ty}{i:Nat}(hi:i<trees.length):trees[i]=X<->lookT nodes X=some i:=by
 constructor
 ·intro e;rw[<-e];exact h.look i hi
 ·intro e;exact Jjz (h.look i hi) e
theorem TreesOf.snoc {nodes:List Nd}{trees:List Ty}(h:TreesOf nodes trees){k:Int}{n:Str}{ns:List Str}{ks:List Ty}{ids:List Nat}(hk:looksT nodes ks=some ids)(hn:idx ⟨k,n,ns,ids⟩ nodes 0=none)(hf:fitT (.mk k n ns ks)=true)(hl:nodes.length<120):TreesOf (nodes++[⟨k,n,ns,ids⟩]) (trees++[.mk k n ns ks]):=by
 refine⟨by simp[h.len],fun i hi=> ?_,fun t ht=> ?_,by simp;omega⟩
 ·by_cases e:i<trees.length
  ·rw[List.getElem_append_left e];exact ko _ (h.look i e)
  ·have e2:i=trees.length:=by simp at hi;omega
   subst e2;rw[List.getElem_append_right (Nat.le_refl _)];simp only[Nat.sub_self,List.getElem_cons_zero];rw[lookT,jH _ hk];simp only;rw[Jhq hn,Nat.zero_add,h.len]
 ·rcases List.mem_append.1 ht with ht|ht
  ·exact h.fit t ht
  ·rw[List.mem_singleton.1 ht];exact hf
theorem Jo5 {t:Ty}{r:List Ty}{left:Int}{tb:Tb}(h:(addTs (t::r) left tb).2.2.1=0):
  (addT t left tb).2.2.1=0/\(addTs r (addT t left tb).2.2.2 (addT t left tb).1).2.2.1=0/\(addTs (t::r) left tb).1=(addTs r (addT t left tb).2.2.2 (addT t left tb).1).1/\(addTs (t::r) left tb).2.1=(addT t left tb).2.1::(addTs r (addT t left tb).2.2.2 (addT t left tb).1).2.1:=by
 rw[Qe]at h⊢;generalize addT t left tb=x at h⊢;obtain⟨tb1,i,e,l1⟩:=x;by_cases he:e=0
 ·subst he;exact⟨rfl,h,rfl,rfl⟩
 ·have h:(if e≠0 then(tb1,[],e,l1)else((addTs r l1 tb1).1,i::(addTs r l1 tb1).2.1,(addTs r l1 tb1).2.2.1,(addTs r l1 tb1).2.2.2):Tb×List Nat×Int×Int).2.2.1=0:=h;rw[if_pos he]at h;exact absurd h he
theorem JqM {k:Int}{n:Str}{ns:List Str}{ks:List Ty}{left:Int}{tb:Tb}(h:(addT (.mk k n ns ks) left tb).2.2.1=0):
  ks.length<=8/\ns.length<=8/\(addTs ks (left-1) tb).2.2.1=0/\(layS (addTs ks (left-1) tb).1 ⟨k,n,ns,(addTs ks (left-1) tb).2.1⟩).2.2=0/\(addT (.mk k n ns ks) left tb).1=(layS (addTs ks (left-1) tb).1 ⟨k,n,ns,(addTs ks (left-1) tb).2.1⟩).1/\(addT (.mk k n ns ks) left tb).2.1=(layS (addTs ks (left-1) tb).1 ⟨k,n,ns,(addTs ks (left-1) tb).2.1⟩).2.1:=by
 rw[Q7]at h⊢;by_cases c:left-1<0\/8<ks.length\/8<ns.length
 ·rw[if_pos c]at h;cases h
 rw[if_neg c]at h⊢;generalize addTs ks (left-1) tb=x at h⊢;obtain⟨t1,ids,e,l1⟩:=x;by_cases e0:e=0
 ·subst e0;exact⟨by omega,by omega,rfl,h,rfl,rfl⟩
 ·have h:(if e≠0 then(t1,0,e,l1)else((layS t1 ⟨k,n,ns,ids⟩).1,(layS t1 ⟨k,n,ns,ids⟩).2.1,(layS t1 ⟨k,n,ns,ids⟩).2.2,l1):Tb×Nat×Int×Int).2.2.1=0:=h;rw[if_pos e0]at h;exact absurd h e0
def Own5 (S:St)(B W:Pt->Prop):Prop:=∀r,W r->S.row r≠ .none/\¬B r
section
variable {Sb st S S' : St} {ru : Pt} {lv tv lv' tv' lv'' tv'' : V} {rest : List V} {O O' O'' W W' B B' B'' : Pt -> Prop} {nodes : List Nd} {trees : List Ty}
theorem Own5.kp (h:Own5 S B W)(k:Kp B B' S S'):Own5 S' B' W/\∀r,W r->S'.row r=S.row r:=by
 have e:∀r,W r->S'.row r=S.row r:=fun r w=>k.same r (h r w).1 (h r w).2;exact⟨fun r w=>⟨by rw[e r w];exact(h r w).1,fun x=>(k.sub r x).elim (h r w).2 (h r w).1⟩,e⟩
theorem RT.own (h:RT Sb S ru lv tv rest O nodes trees)(o:Own5 S (Bt ru lv tv O) W)(g:Gr Sb S')(k:∀r,S.row r≠ .none->¬W r->S'.row r=S.row r):RT Sb S' ru lv tv rest O nodes trees:=
 h.keep g fun r e=>k r (h.alive r e) fun w=>(o r w).2 e
theorem Kp.own (h:Kp B B' st S)(hW:∀r,W r->B r\/st.row r= .none)(k:∀r,S.row r≠ .none->¬W r->S'.row r=S.row r):Kp B B' st S':=
 ⟨fun r e b=>by rw[k r (by rw[h.same r e b];exact e) fun w=>(hW r w).elim b e,h.same r e b],h.sub⟩
theorem SlF.mine {v:V}{z:Nat}{es:List (List V)}(h:SlF st S v z es):SlAt (fun r=>rowOf v=Option.some r) S v z es:=by
 have a:=h.at;refine⟨a.1, ?_⟩;rcases h.2 with h2|⟨r,t,h2,h3,h4⟩
 ·exact .inl h2
 ·have hr:rowOf v=Option.some r:=by rcases h4 with rfl|rfl<;>rfl
  rcases a.2 with b|⟨q,o,b1,b2,b3⟩
  ·exact .inl b
  ·refine .inr ⟨q,o, ?_,b2,b3⟩;rcases b2 with rfl|⟨c,_,rfl⟩<;>rfl
structure Mid5 (Sb st S:St) (ru p3 p6:Pt) (lv tv lv' tv':V) (rest:List V) (O O':Pt->Prop) (nodes:List Nd) (trees:List Ty) (c3 c6:List V) (v1 kv:V) (ns:List Str) (ids:List Nat):Prop where
 rt:RT Sb S ru lv' tv' rest O' nodes trees
 kp:Kp (Bt ru lv tv O) (Bt ru lv' tv' O') st S
 own:Own5 S (Bt ru lv' tv' O') fun r=>r=p3\/r=p6\/rowOf v1=Option.some r\/rowOf kv=Option.some r
 r3:∃t,S.row p3= .cells t c3
 r6:∃t,S.row p6= .cells t (c6++[v1,kv])
 nm:SlF Sb S v1 1 (strs ns)
 kd:SlF Sb S kv 1 (ints ids)
 fs:∀r,rowOf v1=Option.some r\/rowOf kv=Option.some r->Bt ru lv tv O r\/st.row r= .none
 apk:∀r,rowOf kv=Option.some r->r≠p3/\r≠p6/\rowOf v1≠Option.some r
 ap1:∀r,rowOf v1=Option.some r->r≠p3/\r≠p6
 ap6:p3≠p6
 f3:st.row p3= .none
 f6:st.row p6= .none
section
variable {p3 p6 : Pt} {c3 c6 : List V} {v1 kv kv' : V} {ns : List Str} {ids : List Nat} {nodes' : List Nd} {trees' : List Ty}
theorem Mid5.call (h:Mid5 Sb st S ru p3 p6 lv tv lv' tv' rest O O' nodes trees c3 c6 v1 kv ns ids)(r:RT Sb S' ru lv'' tv'' rest O'' nodes' trees')(k:Kp (Bt ru lv' tv' O') (Bt ru lv'' tv'' O'') S S'):
  Mid5 Sb st S' ru p3 p6 lv tv lv'' tv'' rest O O'' nodes' trees' c3 c6 v1 kv ns ids:=by
 obtain⟨o,e⟩:=h.own.kp k;obtain⟨t3,r3⟩:=h.r3;obtain⟨t6,r6⟩:=h.r6;exact{h with rt:=r,kp:=h.kp.trans k,own:=o,r3:=⟨t3,by rw[e _ (.inl rfl),r3]⟩,r6:=⟨t6,by rw[e _ (.inr (.inl rfl)),r6]⟩,nm:=h.nm.keep fun r a=>e r (.inr (.inr (.inl a))),kd:=h.kd.keep fun r a=>e r (.inr (.inr (.inr a)))}
theorem Mid5.gr (h:Mid5 Sb st S ru p3 p6 lv tv lv' tv' rest O O' nodes trees c3 c6 v1 kv ns ids)(g:Gr S S'):Mid5 Sb st S' ru p3 p6 lv tv lv' tv' rest O O' nodes trees c3 c6 v1 kv ns ids:=
 h.call (h.rt.gr g) (Kp.gr g)
theorem Mid5.push {S1 S2:St}(h:Mid5 Sb st S ru p3 p6 lv tv lv' tv' rest O O' nodes trees c3 c6 v1 kv ns ids){id:Nat}
  (hk:SlF Sb S1 kv' 1 (ints (ids++[id]))) (hr:rowOf kv'=Option.some S.nx) (k1:∀r,S.row r≠ .none->rowOf kv≠Option.some r->S1.row r=S.row r) (k2:∀r,r≠p6->S2.row r=S1.row r)
  (h6:∃t,S2.row p6= .cells t (c6++[v1,kv'])) (g:Gr Sb S2):Mid5 Sb st S2 ru p3 p6 lv tv lv' tv' rest O O' nodes trees c3 c6 v1 kv' ns (ids++[id]):=by
 have n6:S.nx≠p6:=fun e=>by
  obtain⟨t,r⟩:=h.r6;have:=Q3 h.rt.g.wf;rw[e,r]at this;cases this
 have n3:S.nx≠p3:=fun e=>by
  obtain⟨t,r⟩:=h.r3;have:=Q3 h.rt.g.wf;rw[e,r]at this;cases this
 have dead:S.row S.nx= .none:=Q3 h.rt.g.wf;have k:∀r,S.row r≠ .none->¬(r=p3\/r=p6\/rowOf v1=Option.some r\/rowOf kv=Option.some r)->S2.row r=S.row r:=fun r e n=>by
  rw[k2 r fun x=>n (.inr (.inl x)),k1 r e fun x=>n (.inr (.inr (.inr x)))]
 have w:∀r,(r=p3\/r=p6\/rowOf v1=Option.some r\/rowOf kv=Option.some r)->Bt ru lv tv O r\/st.row r= .none:=fun r e=>by
  rcases e with rfl|rfl|e|e
  ·exact .inr h.f3
  ·exact .inr h.f6
  ·exact h.fs r (.inl e)
  ·exact h.fs r (.inr e)
 obtain⟨t3,r3⟩:=h.r3;have e3:S2.row p3=S.row p3:=by
  rw[k2 _ h.ap6,k1 _ (Jd r3) fun x=>(h.apk _ x).1 rfl]
 have e1:∀r,rowOf v1=Option.some r->S2.row r=S.row r:=fun r x=>by
  rw[k2 _ (h.ap1 r x).2,k1 _ (h.nm.some x) fun y=>(h.apk _ y).2.2 x]
 refine{h with rt:=h.rt.own h.own g k,kp:=h.kp.own w k,own:=fun r e=> ?_,r3:=⟨t3,by rw[e3,r3]⟩,r6:=h6,nm:=h.nm.keep e1,kd:=hk.keep fun r e=>k2 r fun x=>by rw[hr]at e;injection e with e;exact n6 (e.trans x),apk:=fun r e=> ?_,fs:=fun r e=> ?_}
 ·rcases e with e|e|e|e
  ·have a:=h.own r (.inl e);exact⟨by rw[e,e3];exact Jd r3,a.2⟩
  ·have a:=h.own r (.inr (.inl e));obtain⟨t,q⟩:=h6;exact⟨by rw[e];exact Jd q,a.2⟩
  ·have a:=h.own r (.inr (.inr (.inl e)));exact⟨by rw[e1 r e];exact a.1,a.2⟩
  ·rw[hr]at e;injection e with e;subst e;have q:=h.rt.alive;exact⟨by rw[k2 _ n6];exact hk.some hr,fun x=>q _ x dead⟩
 ·rcases e with e|e
  ·exact h.fs r (.inl e)
  ·rw[hr]at e;injection e with e;subst e;exact h.kp.dead dead
 ·rw[hr]at e;injection e with e;subst e;exact⟨n3,n6,fun x=>h.nm.some x dead⟩
theorem Mid5.done {k:Int}{n:Str}{v5 v9:V}{es ts:List (List V)}{E:List V}{X:Ty}(h:Mid5 Sb st S ru p3 p6 lv tv lv' tv' rest O O' nodes trees c3 c6 v1 kv ns ids)
  (g:Gr Sb S') (hc:∃t,S'.row ru= .cells t (v5::v9::rest))
  (l1:es.length=nodes.length) (l2:∀i (a:i<es.length) (b:i<nodes.length),NdC O' S es[i] nodes[i]) (l5:SlF Sb S' v5 4 (es++[[.int .i64 k,ofL n,v1,kv]]))
  (t1:ts.length=trees.length) (t2:∀i (a:i<ts.length) (b:i<trees.length),TyC (fun r=>Sb.row r≠ .none) S ts[i] trees[i]) (t9:SlF Sb S' v9 4 (ts++[E])) (hE:TyC (fun r=>Sb.row r≠ .none) S E X)
  (r5:∀r,rowOf v5=Option.some r->S.row r= .none) (r9:∀r,rowOf v9=Option.some r->S.row r= .none) (a59:∀r,rowOf v5=Option.some r->rowOf v9≠Option.some r)
  (keep:∀p,S.row p≠ .none->p≠ru->rowOf lv'≠Option.some p->rowOf tv'≠Option.some p->S'.row p=S.row p):
  RT Sb S' ru v5 v9 rest (fun r=>O' r\/rowOf v1=Option.some r\/rowOf kv=Option.some r) (nodes++[⟨k,n,ns,ids⟩]) (trees++[X])/\Kp (Bt ru lv tv O) (Bt ru v5 v9 fun r=>O' r\/rowOf v1=Option.some r\/rowOf kv=Option.some r) st S':=by
 have hal:=h.rt.alive;have mine:∀r,(O' r\/rowOf v1=Option.some r\/rowOf kv=Option.some r)->S.row r≠ .none/\Sb.row r= .none/\r≠ru/\rowOf lv'≠Option.some r/\rowOf tv'≠Option.some r:=fun r e=>by
  rcases e with e|e|e
  ·exact h.rt.o r e
  ·have a:=h.own r (.inr (.inr (.inl e)));exact⟨a.1,(h.nm.row e).1,fun x=>a.2 (.inl x),fun x=>a.2 (.inr (.inl x)),fun x=>a.2 (.inr (.inr (.inl x)))⟩
  ·have a:=h.own r (.inr (.inr (.inr e)));exact⟨a.1,(h.kd.row e).1,fun x=>a.2 (.inl x),fun x=>a.2 (.inr (.inl x)),fun x=>a.2 (.inr (.inr (.inl x)))⟩
 have same:∀r,(O' r\/rowOf v1=Option.some r\/rowOf kv=Option.some r)->S'.row r=S.row r:=fun r e=>by
  obtain⟨a,b,c,d,f⟩:=mine r e;exact keep r a c d f
 have sb:∀r,Sb.row r≠ .none->S'.row r=S.row r:=fun r e=>by rw[g.same r e,h.rt.g.same r e]
 refine⟨⟨g,h.rt.ru0,hc,⟨_,l5,by simp[l1],fun i a b=> ?_⟩,⟨_,t9,by simp[t1],fun i a b=> ?_⟩,fun r e=>⟨a59 r e,fun x=>hal r (.inl x) (r5 r e)⟩,fun r e x=>hal r (.inl x) (r9 r e),fun r e=> ?_⟩,⟨fun r e b=> ?_,fun r e=> ?_⟩⟩
 ·by_cases hi:i<es.length
  ·rw[List.getElem_append_left hi,List.getElem_append_left (by omega)];exact(l2 i hi (by omega)).imp fun r p _=>⟨.inl p,same r (.inl p)⟩
  ·have e:i=es.length:=by simp at a;omega
   subst e;rw[List.getElem_append_right (Nat.le_refl _),List.getElem_append_right (by omega)];simp only[Nat.sub_self,l1,List.getElem_cons_zero];exact⟨v1,kv,rfl,h.nm.mine.imp fun r p _=>⟨.inr (.inl p),same r (.inr (.inl p))⟩,h.kd.mine.imp fun r p _=>⟨.inr (.inr p),same r (.inr (.inr p))⟩⟩
 ·by_cases hi:i<ts.length
  ·rw[List.getElem_append_left hi,List.getElem_append_left (by omega)];exact(t2 i hi (by omega)).imp fun r p _=>⟨p,sb r p⟩
  ·have e:i=ts.length:=by simp at a;omega
   subst e;rw[List.getElem_append_right (Nat.le_refl _),List.getElem_append_right (by omega)];simp only[Nat.sub_self,t1,List.getElem_cons_zero];exact hE.imp fun r p _=>⟨p,sb r p⟩
 ·obtain⟨a,b,c,d,f⟩:=mine r e;exact⟨by rw[same r e];exact a,b,c,fun x=>a (r5 r x),fun x=>a (r9 r x)⟩
 ·have al:=h.kp.same r e b;have nb:¬Bt ru lv' tv' O' r:=fun x=>(h.kp.sub r x).elim b e;rw[keep r (by rw[al];exact e) (fun x=>nb (.inl x)) (fun x=>nb (.inr (.inl x))) (fun x=>nb (.inr (.inr (.inl x)))),al]
 ·rcases e with e|e|e|e|e|e
  ·exact h.kp.sub r (.inl e)
  ·exact h.kp.dead (r5 r e)
  ·exact h.kp.dead (r9 r e)
  ·exact h.kp.sub r (.inr (.inr (.inr e)))
  ·exact h.fs r (.inl e)
  ·exact h.fs r (.inr e)
end
end
theorem JqN {st:St}{z:Nat}{v vx:V}{R:V->St->Prop}(w:WF st)(h:wW (appV st z v vx) st R):wW (appV st z v vx) st fun v' S'=>R v' S'/\∀p,st.row p≠ .none->S'.row p≠ .none:=by
 have new:∀(f:Nat->List V) p,st.row p≠ .none->(st.new fun t=> .cells t (f t)).row p≠ .none:=fun f p hp=>by rw[Q6 w _ hp];exact hp
 have wr:∀(f:Nat->Row) (hf:∀u,f u≠ .none) r t p,st.row p≠ .none->(st.wr r t f).row p≠ .none:=fun f hf r t p hp=>by
  by_cases e:p=r
  ·rw[Jo,if_pos e];exact hf _
  ·rw[JR _ _ _ e];exact hp
 have dn:∀(f:Nat->List V) r t,st.row r≠ .none->(st.row r).time=t->∀p,st.row p≠ .none->((st.wr r t .dead).new fun t=> .cells t (f t)).row p≠ .none:=fun f r t hr ht p hp=>by
  have w2:WF (st.wr r t .dead):=(YR w hr ht fun u=>⟨rfl,fun e=>by cases e⟩).wf;have a:=wr .dead (fun u e=>by cases e) r t p hp;rw[Q6 w2 _ a];exact a
 have app:∀k new' s v' e,JV st z k new' s=some (v',e)->∀p,st.row p≠ .none->(st.ap e).row p≠ .none:=by
  intro k new' s v' e he p hp;unfold JV at he
  split at he
  ·split at he
   ·injection he with he;injection he with _ he;subst he;exact hp
   ·cases he
  split at he
  ·injection he with he;injection he with _ he;subst he;exact new _ p hp
  ·split at he
   ·cases he
   split at he
   ·rename_i hr
    split at he
    ·injection he with he;injection he with _ he;subst he;exact dn _ _ _ (Jd hr) (by rw[hr];rfl) p hp
    ·cases he
   ·cases he
  ·split at he
   ·cases he
   split at he
   ·rename_i hr
    split at he
    ·split at he
     ·split at he
      ·injection he with he;injection he with _ he;subst he;exact wr _ (fun u e=>by cases e) _ _ p hp
      ·cases he
     ·injection he with he;injection he with _ he;subst he;exact new _ p hp
    ·cases he
   ·cases he
  ·cases he
 unfold wW at h⊢
 split at h
 ·rename_i v' e he
  refine⟨h, ?_⟩;unfold appV at he
  split at he
  ·split at he
   ·split at he
    ·exact app _ _ _ _ _ he
    ·cases he
   ·cases he
  ·cases he
 ·exact absurd h id
theorem Js8 {x:Option (V×Eff)}{st:St}{R Q:V->St->Prop}(h:wW x st R)(k:∀v S,R v S->Q v S):wW x st Q:=by
 unfold wW at h⊢
 split at h
 ·exact k _ _ h
 ·exact h
def NdW (n:Nd):Prop:=n.kind≠9/\(n.kind=4\/n.kind=5\/n.kind=6->n.kids.length=1)/\(n.kind=7\/n.kind=8->n.kids.length=n.names.length)/\(1<=n.kind/\n.kind<=3->n.kids=[])/\(1<=n.kind/\n.kind<=9)/\n.names.length<=8/\n.kids.length<=8
def prs (l:Was):List (List V):=l.map fun p=>[.int .i64 (p.1:Nat), .int .i64 (p.2:Nat)]
structure Tb6 (S:St) (ru:Pt) (lv:V) (nodes:List Nd):Prop where
 cell:∃t a b c d e f g h i j,S.row ru= .cells t [lv,a,b,c,d,e,f,g,h,i,j]
 l:LstAt (NdC (fun r=>S.row r≠ .none) S) (fun r=>S.row r≠ .none) S lv 4 nodes
 w:∀n∈nodes,NdW n
 k:∀n∈nodes,∀x∈n.kids,x<nodes.length
 few:nodes.length<=120
structure Fz (a b:St):Prop where
 wf:WF b
 t:a.t<=b.t
 nx:a.nx.num<=b.nx.num
 row:∀r,b.row r≠a.row r->a.t<=(b.row r).time/\b.row r≠ .none
 born:∀r,a.row r= .none->b.row r≠ .none->a.nx.num<=r.num
 same:∀r,a.row r≠ .none->b.row r=a.row r
theorem Fz.of {W:Pt->Prop}{a b:St}(h:Ch W a b)(hW:∀r,W r->a.row r= .none):Fz a b:=⟨h.wf,h.mono.t,h.mono.nx,h.mono.row,h.mono.born,fun r e=>h.same r e fun w=>e (hW r w)⟩
theorem Fz.gr {a b:St}(h:Fz a b):Gr {a with low:=b.low} b:=
 ⟨⟨h.wf,h.t,h.nx,h.row,Nat.le_refl _,fun r e n=>absurd (h.same r e) n,h.born⟩,h.same,fun _=>rfl⟩
theorem Fz.ch {W:Pt->Prop}{a b c:St}(h:Fz a b)(k:Ch W b c)(hW:∀r,W r->a.row r= .none):Fz a c:=
 ⟨k.wf,Nat.le_trans h.t k.mono.t,Nat.le_trans h.nx k.mono.nx,fun r e=>by
   by_cases x:c.row r=b.row r
   ·rw[x]at e⊢;exact h.row r e
   ·have:=k.mono.row r x;exact⟨Nat.le_trans h.t this.1,this.2⟩,fun r e n=>by
   by_cases x:b.row r= .none
   ·exact Nat.le_trans h.nx (k.mono.born r x n)
   ·exact h.born r e x,fun r e=>by
   have:=h.same r e;rw[k.same r (by rw[this];exact e) fun w=>e (hW r w),this]⟩
theorem Fz.low {a b:St}(h:Fz a b)(k:Nat):Fz a {b with low:=k}:=⟨KN h.wf _,h.t,h.nx,h.row,h.born,h.same⟩
structure Wk6 (Sl S:St) (ru kr:Pt) (was:Was) (lw:V):Prop where
 g:Fz Sl S
 cell:∃t,S.row kr= .cells t [.ptr ru 0,lw]
 l:SlF Sl S lw 2 (prs was)
 k0:Sl.row kr= .none
 ap:rowOf lw≠some kr
section
variable {Sl S S' : St} {ru kr : Pt} {lv lw : V} {nodes : List Nd} {was : Was}
theorem Tb6.keep (h:Tb6 S ru lv nodes)(g:∀r,S.row r≠ .none->S'.row r=S.row r):Tb6 S' ru lv nodes:=by
 obtain⟨t,a,b,c,d,e,f,i,j,k,l,r⟩:=h.cell;obtain⟨es,l1,l2,l3⟩:=h.l;have kk:∀r,S.row r≠ .none->S.row r≠ .none->S'.row r≠ .none/\S'.row r=S.row r:=fun r p _=>⟨by rw[g r p];exact p,g r p⟩
 exact⟨⟨t,a,b,c,d,e,f,i,j,k,l,by rw[g _ (Jd r),r]⟩,⟨es,l1.imp kk,l2,fun i a b=>(l3 i a b).imp kk⟩,h.w,h.k,h.few⟩
theorem Tb6.gr (h:Tb6 S ru lv nodes)(g:Gr S S'):Tb6 S' ru lv nodes:=h.keep g.same
theorem Tb6.node (h:Tb6 S ru lv nodes){i:Nat}(hi:i<nodes.length):∃r q e,iaddrSV 4 lv (.int .i64 i)=some (.ptr r q, .no)/\ldn (S.row r) q 4=some (.agg e, .no)/\NdC (fun r=>S.row r≠ .none) S e nodes[i]/\ld1 (S.row r) q=some (.int .i64 nodes[i].kind, .no):=by
 obtain⟨r,q,e,a1,a2,a3,a4,hE,e4,a5⟩:=h.l.elem hi;obtain⟨nv,kv,rfl,_,_⟩:=hE;exact⟨r,q,_,a1,a4,⟨nv,kv,rfl,‹_›,‹_›⟩,a5 0 (by simp)⟩
theorem Wk6.gr (h:Wk6 Sl S ru kr was lw)(g:Gr S S'):Wk6 Sl S' ru kr was lw:=by
 obtain⟨t,c⟩:=h.cell;exact⟨h.g.ch (Ch.of (fun _=>False) g) (fun _ w=>w.elim),⟨t,g.cells c⟩,h.l.gr g,h.k0,h.ap⟩
theorem Wk6.low (h:Wk6 Sl S ru kr was lw)(k:Nat):Wk6 Sl {S with low:=k} ru kr was lw:=⟨h.g.low k,h.cell,h.l.keep fun _ _=>rfl,h.k0,h.ap⟩
end
def WasG (n:Nat)(W:Was):Prop:=W.Nodup/\∀p∈W,p.1<n/\p.2<n
theorem JeS :∀(m:Nat) (l:List Nat),l.Nodup->(∀x∈l,x<m)->l.length<=m
 | 0,l,_,h=>by
   cases l with
   |nil=>exact Nat.le_refl _
   |cons a r=>exact absurd (h a List.mem_cons_self) (Nat.not_lt_zero _)
 | m+1,l,hd,h=>by
   by_cases e:m∈l
   ·have:=JeS m (l.erase m) (hd.erase _) fun x hx=>by
     have h1:=(hd.mem_erase_iff.1 hx)
     have:=h x h1.2;have:=h1.1;omega
    rw[List.length_erase_of_mem e]at this;omega
   ·have:=JeS m l hd fun x hx=>by
     have:=h x hx;have:x≠m:=fun k=>e (k▸hx);omega
    omega
theorem WasG.len {n:Nat}{W:Was}(h:WasG n W):W.length<=n*n:=by
 have hm:(W.map fun p=>p.1*n+p.2).Nodup:=by
  rw[List.nodup_iff_pairwise_ne,List.pairwise_map];refine(List.Pairwise.and_mem.1 (List.nodup_iff_pairwise_ne.1 h.1)).imp fun{p q} hpq e=> ?_;obtain⟨hp,hq,hne⟩:=hpq;obtain⟨a1,a2⟩:=h.2 p hp;obtain⟨b1,b2⟩:=h.2 q hq;have e1:p.1=q.1:=by
   have c1:(p.1*n+p.2)/n=p.1:=by rw[Nat.mul_comm,Nat.mul_add_div (by omega),Nat.div_eq_of_lt a2];rfl
   have c2:(q.1*n+q.2)/n=q.1:=by rw[Nat.mul_comm,Nat.mul_add_div (by omega),Nat.div_eq_of_lt b2];rfl
   rw[<-c1,<-c2,e]
  have e2:p.2=q.2:=by rw[e1]at e;omega
  exact hne (Prod.ext e1 e2)
 have:=JeS (n*n) _ hm fun x hx=>by
  obtain⟨p,hp,rfl⟩:=List.mem_map.1 hx;obtain⟨a1,a2⟩:=h.2 p hp;have:p.1*n+n<=n*n:=by
   have:=Nat.mul_le_mul_right n (show p.1+1<=n from a1);rw[Nat.add_mul,Nat.one_mul]at this;exact this
  omega
 simpa using this
theorem WasG.snoc {n:Nat}{W:Was}(h:WasG n W){a b:Nat}(ha:a<n)(hb:b<n)(hn:(a,b)∉W):WasG n (W++[(a,b)]):=by
 refine⟨?_,fun p hp=> ?_⟩
 ·rw[List.nodup_append];exact⟨h.1,by simp,fun x hx y hy e=>hn (by rw[List.mem_singleton.1 hy]at e;exact e▸hx)⟩
 ·rcases List.mem_append.1 hp with hp|hp
  ·exact h.2 p hp
  ·rw[List.mem_singleton.1 hp];exact⟨ha,hb⟩
structure Lo6 (Sl S0 S:St) (ru kr p8 p9:Pt) (lw0:V) (n:Nat) (xs ys:List V) (was:Was) (lw:V):Prop where
 w:Wk6 Sl S ru kr was lw
 r8:∃t,S.row p8= .cells t xs
 r9:∃t,S.row p9= .cells t ys
 n8:p8≠kr/\rowOf lw≠some p8
 n9:p9≠kr/\rowOf lw≠some p9
 keep:∀r,S0.row r≠ .none->¬(r=kr\/rowOf lw0=some r)->S.row r=S0.row r
 sub:∀q,rowOf lw=some q->rowOf lw0=some q\/S0.row q= .none
 g:WasG n was
theorem Lo6.next {Sl S0 S S2:St}{ru kr p8 p9:Pt}{lw0 lw lw2:V}{n:Nat}{xs ys:List V}{was w2:Was}(h:Lo6 Sl S0 S ru kr p8 p9 lw0 n xs ys was lw)(c:Ch (fun q=>q=kr\/rowOf lw=some q) S S2)(k:Wk6 Sl S2 ru kr w2 lw2)
  (s:∀q,rowOf lw2=some q->rowOf lw=some q\/S.row q= .none) (g:WasG n w2):Lo6 Sl S0 S2 ru kr p8 p9 lw0 n xs ys w2 lw2:=by
 obtain⟨t8,r8⟩:=h.r8;obtain⟨t9,r9⟩:=h.r9;refine⟨k,⟨t8, ?_⟩,⟨t9, ?_⟩,⟨h.n8.1,fun e=>(s _ e).elim h.n8.2 (Jd r8)⟩,⟨h.n9.1,fun e=>(s _ e).elim h.n9.2 (Jd r9)⟩,fun r e m=> ?_,fun q e=> ?_,g⟩
 ·rw[c.same p8 (Jd r8) fun x=>x.elim h.n8.1 h.n8.2,r8]
 ·rw[c.same p9 (Jd r9) fun x=>x.elim h.n9.1 h.n9.2,r9]
 ·have a:=h.keep r e m;rw[c.same r (by rw[a];exact e) fun x=>x.elim (fun y=>m (.inl y)) fun y=>(h.sub r y).elim (fun z=>m (.inr z)) e,a]
 ·rcases s q e with x|x
  ·exact h.sub q x
  ·refine Classical.byContradiction fun y=> ?_;have n1:¬rowOf lw0=some q:=fun z=>y (.inl z);have n2:¬S0.row q= .none:=fun z=>y (.inr z);have n3:q≠kr:=fun z=>by
    obtain⟨t,c⟩:=h.w.cell;exact Jd c (z▸x)
   have:=h.keep q n2 fun z=>z.elim n3 n1;exact n2 (this▸x)
theorem Lo6.low {Sl S0 S:St}{ru kr p8 p9:Pt}{lw0 lw:V}{n:Nat}{xs ys:List V}{was:Was}(h:Lo6 Sl S0 S ru kr p8 p9 lw0 n xs ys was lw)(k:Nat):Lo6 Sl S0 {S with low:=k} ru kr p8 p9 lw0 n xs ys was lw:=
 ⟨h.w.low k,h.r8,h.r9,h.n8,h.n9,h.keep,h.sub,h.g⟩
theorem Lo6.gr {Sl S0 S S2:St}{ru kr p8 p9:Pt}{lw0 lw:V}{n:Nat}{xs ys:List V}{was:Was}(h:Lo6 Sl S0 S ru kr p8 p9 lw0 n xs ys was lw)(g:Gr S S2):Lo6 Sl S0 S2 ru kr p8 p9 lw0 n xs ys was lw:=
 h.next (Ch.of _ g) (h.w.gr g) (fun _ e=> .inl e) h.g
theorem Fz.more {Sb S S':St}(h:Fz Sb S)(g:Gr S S'):Fz Sb S':=h.ch (Ch.of (fun _=>False) g) fun _ f=>f.elim
theorem Hold.fz {φ:Rn}{a Sb S:St}(H:Hold φ a Sb)(h:Fz Sb S):Hold φ a S:=by
 refine⟨H.num,H.inj,fun p e=>Nat.lt_of_lt_of_le (H.lt p e) h.nx,fun p e=> ?_,H.scope,fun h0=>Nat.lt_of_lt_of_le (H.pos h0) h.t,H.wfa,h.wf⟩;by_cases c:a.row p= .none
 ·have h1:=H.row p e;rw[c]at h1⊢;have h1:Sb.row (φ p)= .none:=h1;show S.row (φ p)= .none;apply Classical.byContradiction;intro x;have:=h.born _ h1 x;have:=H.lt p e;omega
 ·rw[h.same _ (JdF (H.row p e) c)];exact H.row p e
def encS (x:Str×Nat):V:= .agg [ofL x.1, .int .i64 (x.2:Nat)]
def CntAt (S:St)(r:Pt)(ps:List (Str×Nat))(m:Nat):Prop:=∃es:List ((Str×Nat)×V),es.map (·.1)=ps/\(∀p∈es,∃c:Nat,p.2= .int .i64 c/\1<=c/\c<=m)/\MobAt S r encS es
theorem CntAt.of {S S':St}{r:Pt}{ps:List (Str×Nat)}{m:Nat}(h:CntAt S r ps m)(k:S'.row r=S.row r):CntAt S' r ps m:=by
 obtain⟨es,a,b,c⟩:=h;exact⟨es,a,b,c.of k⟩
theorem JkB {l pre s rest:List UInt8}{r:List Prt}(hl:l=pre++([123,123]++(s++([125,125]++rest))))(he:endS (s++([125,125]++rest)) false 0=some s.length)(hr:splitS l (pre++([123,123]++(s++[125,125]))).length=some r):splitS l pre.length=some ((true,s,pre.length)::r):=by
 have hlt:pre.length<l.length:=by rw[hl];simp
 have d0:l.drop pre.length=[123,123]++(s++([125,125]++rest)):=by rw[hl,List.drop_left]
 have d2:l.drop (pre.length+2)=s++([125,125]++rest):=by rw[<-List.drop_drop,d0];rfl
 have ho:openAt (l.drop pre.length)=some 0:=by rw[d0];rfl
 rw[Jaf hlt,ho];simp only;rw[d2,he];simp only;have e:pre.length+2+s.length+2=(pre++([123,123]++(s++[125,125]))).length:=by simp;omega
 rw[e,hr,List.take_left];rfl
def tagS (k:Nat):List UInt8:=[UInt8.ofNat (97+k)]
def mtS :List UInt8:=[109,97,116,99,104,32,46]
def mEnd :List UInt8:=[101,110,100]
mutual
theorem Js9 {n m:Nat}(h:n<=m):∀v:V,inV n v=true->inV m v=true
 | .ptr r _,e=>by simp only[inV]at e⊢;exact decide_eq_true (Nat.lt_of_lt_of_le (of_decide_eq_true e) h)
 | .sl r _ _ _,e=>by simp only[inV]at e⊢;exact decide_eq_true (Nat.lt_of_lt_of_le (of_decide_eq_true e) h)
 | .slx r _ _ _ _,e=>by simp only[inV]at e⊢;exact decide_eq_true (Nat.lt_of_lt_of_le (of_decide_eq_true e) h)
 | .map r,e=>by simp only[inV]at e⊢;exact decide_eq_true (Nat.lt_of_lt_of_le (of_decide_eq_true e) h)
 | .fn _ a b,e=>by rw[inV,Bool.and_eq_true]at e;rw[inV,JbW h a e.1,JbW h b e.2];rfl
 | .agg l,e=>by rw[inV]at e;rw[inV,JbW h l e]
 | .tup l,e=>by rw[inV]at e;rw[inV,JbW h l e]
 | .bool _,_=>by simp[inV]
 | .int _ _,_=>by simp[inV]
 | .im _ _,_=>by simp[inV]
 | .str _ _,_=>by simp[inV]
 | .pnil,_=>by simp[inV]
 | .snil,_=>by simp[inV]
 | .mnil,_=>by simp[inV]
 | .fnil,_=>by simp[inV]
 | .any,_=>by simp[inV]
 | .opq _,_=>by simp[inV]
theorem JbW {n m:Nat}(h:n<=m):∀l:List V,inVs n l=true->inVs m l=true
 |[],_=>by rw[inVs]
 |x::r,e=>by rw[inVs,Bool.and_eq_true]at e;rw[inVs,Js9 h x e.1,JbW h r e.2];rfl
end
def chK :Nat->Int
 |0=>4
 |1=>5
 |2=>6
 |_=>8
def chN :Nat->List Str
 |0=>[]
 |1=>[]
 |2=>[]
 |_=>[[107]]
def chT :List Nat->Ty
 |[]=> .mk 2 [] [] []
 |w::r=> .mk (chK w) [] (chN w) [chT r]
def chOk :List Nat->Prop
 |[]=>True
 |w::r=>w<4/\(w=2->r.head?≠some 2)/\chOk r
def chI :Nd:=⟨2,[],[],[]⟩
def chD (w k:Nat):Nd:=⟨chK w,[],chN w,[k]⟩
def chL :List Nat->List Nd
 |[]=>[chI]
 |w::r=>chL r++[chD w r.length]
theorem ji :∀ws:List Nat,(chL ws).length=ws.length+1
 |[]=>rfl
 |w::r=>by rw[chL,List.length_append,ji r];rfl
theorem JjA :∀(ws:List Nat),∀a∈chL ws,∀k∈a.kids,k<ws.length
 |[],a,h,k,hk=>by rw[chL,List.mem_singleton]at h;subst h;cases hk
 | w::r,a,h,k,hk=>by
   rw[chL,List.mem_append,List.mem_singleton]at h;rcases h with h|rfl
   ·have:=JjA r a h k hk;rw[List.length_cons];omega
   ·have:k=r.length:=by simpa[chD]using hk
    rw[List.length_cons];omega
theorem JjB {n:Nd}:∀{l:List Nd} {i:Nat},(∀a∈l,n≠a)->idx n l i=none
 |[],_,_=>rfl
 |a::l,i,h=>by rw[idx,if_neg (h a (List.mem_cons_self ..)),JjB fun b hb=>h b (List.mem_cons_of_mem _ hb)]
theorem Jta (w:Nat)(r:List Nat):idx (chD w r.length) (chL r) 0=none:=JjB fun a ha e=>by
 have:=JjA r a ha r.length (by rw[<-e];simp[chD]);omega
theorem JqO (w:Nat):(chN w).length<=1:=by unfold chN;split<;>simp
theorem JkC :∀(ws:List Nat) (left:Int),(ws.length:Int)<left->ws.length<=8->addT (chT ws) left emptyTb=(⟨chL ws,[],0,[]⟩,ws.length,0,left-1-ws.length)
 | [],left,h,_=>by
   have h:(0:Int)<left:=h;rw[chT,Q7,if_neg (by simp only[List.length_nil];omega),Qw];simp[layS,emptyTb,idx,chL,chI]
 | w::r,left,h,h8=>by
   have h:((r.length+1:Nat):Int)<left:=h;rw[List.length_cons]at h8;have hn:=JqO w;have hx:idx ⟨chK w,[],chN w,[r.length]⟩ (chL r) 0=none:=Jta w r;rw[chT,Q7,if_neg (by simp only[List.length_cons,List.length_nil];omega),Qe,JkC r (left-1) (by omega) (by omega)];simp only[Qw,ne_eq,not_true_eq_false,if_false,layS,hx,ji];rw[if_neg (by omega)];simp only[chL,chD,List.length_cons,ji,Prod.mk.injEq,true_and];omega
theorem JcB :∀ws:List Nat,(chL ws)[0]? =some chI
 |[]=>rfl
 |w::r=>by rw[chL,List.getElem?_append_left (by rw[ji];omega),JcB r]
theorem Jmg (ws:List Nat):idx chI (chL ws) 0=some 0:=by
 have:=JcB ws
 cases h:chL ws with
 |nil=>rw[h]at this;cases this
 | cons a l=>
   rw[h]at this;injection this with this;rw[idx,if_pos this.symm]
theorem JkD (w:Nat)(r:List Nat):∀p:List Nat,(chL (p++w::r))[r.length+1]? =some (chD w r.length)
 |[]=>by rw[List.nil_append,chL,List.getElem?_append_right (by rw[ji];omega),ji,Nat.sub_self];rfl
 |a::p=>by rw[List.cons_append,chL,List.getElem?_append_left (by rw[ji,List.length_append,List.length_cons];omega),JkD w r p]
theorem JmT {w:Nat}(h:w<4)(t:Ty):fieldsS (.mk (chK w) [] (chN w) [t])=0:=by
 rcases(by omega:w=0\/w=1\/w=2\/w=3)with rfl|rfl|rfl|rfl<;>rfl
theorem JqP {w:Nat}(h:w<4)(t:Ty):kidsS (.mk (chK w) [] (chN w) [t])=1:=by
 rcases(by omega:w=0\/w=1\/w=2\/w=3)with rfl|rfl|rfl|rfl<;>rfl
theorem JcC {w:Nat}(h:w<4):4<=chK w/\chK w<=8/\chK w≠7/\(0<(chN w).length->chK w=8)/\(chK w=6<->w=2):=by
 rcases(by omega:w=0\/w=1\/w=2\/w=3)with rfl|rfl|rfl|rfl<;>decide
theorem Jo6 :∀(ws:List Nat) (deep met:Nat),chOk ws->deep+ws.length<=12->met+ws.length<400->mayS (hasN []) (chT ws) deep met=(0,met+ws.length+1)
 | [],deep,met,_,hd,hm=>by
   have hd:deep<=12:=hd;have hm:met<400:=hm;have f0:fieldsS (.mk 2 [] [] [])=0:=rfl;have k0:kidsS (.mk 2 [] [] [])=0:=rfl;rw[chT,mayS,if_neg (by omega),if_neg (by omega),if_neg (by omega),if_neg (by rw[k0];simp),if_neg (by simp),if_neg (by rw[f0];simp),maysS];rfl
 | w::r,deep,met,ho,hd,hm=>by
   rw[List.length_cons]at hd hm;obtain⟨hw,_,ho⟩:=ho;obtain⟨c1,c2,c3,c4,_⟩:=JcC hw;have f0:=JmT hw (chT r);have k0:=JqP hw (chT r);have ih:=Jo6 r (deep+1) (met+1) ho (by omega) (by omega);have hn:¬(0<(chN w).length/\¬(chK w=7\/chK w=8)):=fun h=>h.2 (.inr (c4 h.1));rw[chT,mayS,if_neg (by omega),if_neg (by omega),if_neg (by omega),if_neg (by rw[k0];rintro(h|h|h);exact h rfl;exact h.1 rfl;exact hn h),if_neg (by omega),if_neg (by rw[f0];simp),maysS,ih,if_neg (by simp),maysS,List.length_cons];congr 1;omega
theorem Jmh :∀ws:List Nat,chOk ws->optsS [] (chT ws)=false
 |[],_=>by rw[chT,optsS,optssS];rfl
 | w::r,ho=>by
   obtain⟨hw,h2,ho⟩:=ho;obtain⟨_,_,_,_,c5⟩:=JcC hw;have ih:=Jmh r ho;rw[chT,optsS,optssS,ih,optssS,Bool.or_false,Bool.or_false];by_cases e:w=2
   ·rw[if_pos ⟨c5.2 e,rfl⟩];have hk:(chT r).kind≠6:=by
     cases r with
     |nil=>exact(by decide:(2:Int)≠6)
     | cons a r=>
       have ha:a≠2:=fun c=>h2 e (by rw[c];rfl);obtain⟨ha4,_⟩:=ho;exact fun c=>ha ((JcC ha4).2.2.2.2.1 c)
    simpa[openT]using hk
   ·rw[if_neg fun h=>e (c5.1 h.1)]
abbrev schT (ws:List Nat):Sch:=⟨chT ws,[],[]⟩
abbrev tbT (ws:List Nat):Tb:=⟨chL ws,[],ws.length,[]⟩
theorem JjC {ws:List Nat}(ho:chOk ws)(h8:ws.length<=8):checkS ⟨chT ws,[],[]⟩=0:=by
 have h1:=Jo6 ws 1 0 ho (by omega) (by omega);have h2:=Jmh ws ho;unfold checkS everyS;simp only[List.length_nil,List.map_nil,typesS,maysS,sigsS,h1,List.any_nil,List.nil_append,List.flatten_nil,List.append_nil,optssS,h2];rfl
theorem Jtb {ws:List Nat}(ho:chOk ws)(h8:ws.length<=8):newS ⟨chT ws,[],[]⟩=(some ⟨chL ws,[],ws.length,[]⟩,0):=by
 rw[newS0 rfl rfl,JjC ho h8,JkC ws 400 (by omega) h8];rfl
def rgS :List UInt8:=[114,97,110,103,101,32,46]
def wtS :List UInt8:=[119,105,116,104,32,46]
def ckS :List UInt8:=[99,97,115,101,32,107]
def adS :List UInt8:=[97,100,100,32,46,32,49]
def br (s:List UInt8):List UInt8:=[123,123]++(s++[125,125])
def opS :Nat->List UInt8
 |0=>br rgS
 |1=>br rgS
 |2=>br wtS
 |_=>br mtS++br ckS
def opsS :List Nat->List UInt8
 |[]=>[]
 |w::r=>opS w++opsS r
def Yj :List Nat->List UInt8
 |[]=>[]
 |_::r=>br mEnd++Yj r
def twoS (two:Bool):List UInt8:=if two then br adS else[]
def chS (ws:List Nat)(two:Bool):List UInt8:=opsS ws++(br adS++(Yj ws++twoS two))
def opP (c:Nat):Nat->List Prt
 |0=>[(true,rgS,c)]
 |1=>[(true,rgS,c)]
 |2=>[(true,wtS,c)]
 |_=>[(true,mtS,c),(true,ckS,c+11)]
def opsP :List Nat->Nat->List Prt
 |[],_=>[]
 |w::r,c=>opP c w++opsP r (c+(opS w).length)
def endsP :List Nat->Nat->List Prt
 |[],_=>[]
 |_::r,c=>(true,mEnd,c)::endsP r (c+7)
theorem Jo7 (rest:List UInt8):endS (rgS++([125,125]++rest)) false 0=some rgS.length:=rfl
theorem Jtc (rest:List UInt8):endS (wtS++([125,125]++rest)) false 0=some wtS.length:=rfl
theorem Jtd (rest:List UInt8):endS (mtS++([125,125]++rest)) false 0=some mtS.length:=rfl
theorem Jte (rest:List UInt8):endS (ckS++([125,125]++rest)) false 0=some ckS.length:=rfl
theorem Jo8 (rest:List UInt8):endS (adS++([125,125]++rest)) false 0=some adS.length:=rfl
theorem Jtf (rest:List UInt8):endS (mEnd++([125,125]++rest)) false 0=some mEnd.length:=rfl
theorem ku {l pre s rest:List UInt8}{R:List Prt}(h:l=pre++(br s++rest))(he:endS (s++([125,125]++rest)) false 0=some s.length)(hr:∀pre',pre'.length=pre.length+(br s).length->l=pre'++rest->splitS l pre'.length=some R):splitS l pre.length=some ((true,s,pre.length)::R):=by
 have h1:l=pre++([123,123]++(s++([125,125]++rest))):=by rw[h];simp[br]
 refine JkB h1 he ?_;have:=hr (pre++br s) (by simp) (by rw[h];simp);simpa[br]using this
def twoP (two:Bool)(c:Nat):List Prt:=if two then[(true,adS,c)]else[]
theorem JmU (two:Bool)(l pre:List UInt8)(h:l=pre++twoS two):splitS l pre.length=some (twoP two pre.length):=by
 cases two with
 | false=>
   have h:l=pre++[]:=h;exact JaZ (by rw[h];simp)
 | true=>
   have h:l=pre++(br adS++[]):=by rw[h];rfl
   exact ku h (Jo8 _) fun pre' _ e=>JaZ (by rw[e];simp)
theorem JeT (two:Bool):∀(ws:List Nat) (l pre:List UInt8),l=pre++(Yj ws++twoS two)->splitS l pre.length=some (endsP ws pre.length++twoP two (pre.length+7*ws.length))
 |[],l,pre,h=>JmU two l pre h
 | w::r,l,pre,h=>by
   have h:l=pre++(br mEnd++(Yj r++twoS two)):=by rw[h];simp[Yj]
   refine ku h (Jtf _) fun pre' hp e=> ?_;have hp:pre'.length=pre.length+7:=hp;rw[JeT two r l pre' e,hp,List.length_cons];rw[show pre.length+7+7*r.length=pre.length+7*(r.length+1) by omega];rfl
theorem JgM {tl:List UInt8}{R:Nat->List Prt}(ht:∀l pre,l=pre++tl->splitS l pre.length=some (R pre.length)):∀(ws:List Nat) (l pre:List UInt8),(∀w∈ws,w<4)->l=pre++(opsS ws++tl)->splitS l pre.length=some (opsP ws pre.length++R (pre.length+(opsS ws).length))
 |[],l,pre,_,h=>ht l pre h
 | w::r,l,pre,h4,h=>by
   have ih:∀pre',pre'.length=pre.length+(opS w).length->l=pre'++(opsS r++tl)->splitS l pre'.length=some (opsP r (pre.length+(opS w).length)++R (pre.length+(opsS (w::r)).length)):=fun pre' hp e=>by
    rw[JgM ht r l pre' (fun x hx=>h4 x (List.mem_cons_of_mem _ hx)) e,hp,opsS,List.length_append];rw[Nat.add_assoc]
   rcases(by have:=h4 w (List.mem_cons_self ..);omega:w=0\/w=1\/w=2\/w=3)with rfl|rfl|rfl|rfl
   ·exact ku (rest:=opsS r++tl) (by rw[h];simp[opsS,opS]) (Jo7 _) ih
   ·exact ku (rest:=opsS r++tl) (by rw[h];simp[opsS,opS]) (Jo7 _) ih
   ·exact ku (rest:=opsS r++tl) (by rw[h];simp[opsS,opS]) (Jtc _) ih
   ·refine ku (rest:=br ckS++(opsS r++tl)) (by rw[h];simp[opsS,opS]) (Jtd _) fun pre' hp e=> ?_;have hp:pre'.length=pre.length+11:=hp;have:=ku e (Jte _) fun pre2 h2 e2=>ih pre2 (by rw[h2,hp];rfl) e2;rw[this,hp];rfl
def chP (ws:List Nat)(two:Bool):List Prt:=
 opsP ws 0++((true,adS,(opsS ws).length)::(endsP ws ((opsS ws).length+11)++twoP two ((opsS ws).length+11+7*ws.length)))
theorem JeU :∀(ws:List Nat) (c:Nat),(opsP ws c).length<=2*ws.length
 |[],_=>Nat.le_refl _
 | w::r,c=>by
   have:=JeU r (c+(opS w).length);have h:(opP c w).length<=2:=by unfold opP;split<;>simp
   rw[opsP,List.length_append,List.length_cons];omega
theorem JcD :∀(ws:List Nat) (c:Nat),(endsP ws c).length=ws.length
 |[],_=>rfl
 |w::r,c=>by rw[endsP,List.length_cons,JcD r,List.length_cons]
theorem JbX :∀ws:List Nat,(opsS ws).length<=21*ws.length
 |[]=>Nat.le_refl _
 | w::r=>by
   have:=JbX r;have h:(opS w).length<=21:=by unfold opS;split<;>decide
   rw[opsS,List.length_append,List.length_cons];omega
theorem Jal :∀ws:List Nat,(Yj ws).length=7*ws.length
 |[]=>rfl
 | w::r=>by
   have:(br mEnd).length=7:=rfl;rw[Yj,List.length_append,Jal r,List.length_cons,this];omega
theorem Jo9 {ws:List Nat}{two:Bool}(h4:∀w∈ws,w<4)(h8:ws.length<=8):splitR (chS ws two)=(chP ws two,0):=by
 have e1:=JbX ws;have e2:=Jal ws;have e3:(twoS two).length<=11:=by cases two<;>decide
 have e4:(br adS).length=11:=rfl;have e5:=JeU ws 0;have e6:(twoP two ((opsS ws).length+11+7*ws.length)).length<=1:=by cases two<;>simp[twoP]
 have hl:(chS ws two).length<=1000:=by
  simp only[chS,List.length_append,e2,e4];omega
 have h0:=JgM (R:=fun n=>(true,adS,n)::(endsP ws (n+11)++twoP two (n+11+7*ws.length))) (fun l pre h=>ku h (Jo8 _) fun pre' hp e=>by
  rw[JeT two ws l pre' e,hp];rfl) ws (chS ws two) [] h4 rfl
 have h0:splitS (chS ws two) 0=some (opsP ws 0++((true,adS,0+(opsS ws).length)::(endsP ws (0+(opsS ws).length+11)++twoP two (0+(opsS ws).length+11+7*ws.length)))):=h0;rw[Nat.zero_add]at h0;unfold splitR;rw[if_neg (by omega),h0];simp only;have h200:¬200<(opsP ws 0++((true,adS,(opsS ws).length)::(endsP ws ((opsS ws).length+11)++twoP two ((opsS ws).length+11+7*ws.length)))).length:=by
  simp only[List.length_append,List.length_cons,JcD];omega
 rw[if_neg h200];rfl
def Frz (Φ:St->Prop)(S:St)(X:Pt->Prop):Prop:=∃A:Pt->Prop,(∀r,A r->S.row r≠ .none/\¬X r)/\∀S':St,(∀r,A r->S'.row r=S.row r)->Φ S'
section
variable {Φ Ψ : St -> Prop} {S S' : St} {X X' W : Pt -> Prop}
theorem Frz.get (h:Frz Φ S X):Φ S:=by
 obtain⟨A,_,k⟩:=h;exact k S fun _ _=>rfl
theorem Frz.ch (h:Frz Φ S X)(C:Ch W S S')(hW:∀r,W r->X r)(hX:∀r,X' r->X r\/S.row r= .none):Frz Φ S' X':=by
 obtain⟨A,a,k⟩:=h;have e:∀r,A r->S'.row r=S.row r:=fun r m=>C.same r (a r m).1 fun w=>(a r m).2 (hW r w);refine⟨A,fun r m=>⟨by rw[e r m];exact(a r m).1,fun x=> ?_⟩,fun S2 h2=>k S2 fun r m=>by rw[h2 r m,e r m]⟩;rcases hX r x with x|x
 ·exact(a r m).2 x
 ·exact(a r m).1 x
theorem Frz.gr (h:Frz Φ S X)(g:Gr S S'):Frz Φ S' X:=h.ch (Ch.of (fun _=>False) g) (fun r w=>w.elim) fun r x=> .inl x
theorem Frz.and (h:Frz Φ S X)(k:Frz Ψ S X):Frz (fun S=>Φ S/\Ψ S) S X:=by
 obtain⟨A,a1,a2⟩:=h;obtain⟨B,b1,b2⟩:=k;exact⟨fun r=>A r\/B r,fun r m=>by rcases m with m|m;exact a1 r m;exact b1 r m,fun S' e=>⟨a2 S' fun r m=>e r (.inl m),b2 S' fun r m=>e r (.inr m)⟩⟩
theorem Frz.imp (h:Frz Φ S X)(k:∀S',Φ S'->Ψ S'):Frz Ψ S X:=by
 obtain⟨A,a,f⟩:=h;exact⟨A,a,fun S' e=>k S' (f S' e)⟩
theorem Frz.row {r:Pt}{t:Nat}{l:List V}(h:S.row r= .cells t l)(hx:¬X r):Frz (fun S=>∃t,S.row r= .cells t l) S X:=
 ⟨fun q=>q=r,fun q e=>by rw[e];exact⟨Jd h,hx⟩,fun S' e=>⟨t,by rw[e r rfl,h]⟩⟩
theorem Frz.mon (h:Frz Φ S X)(hX:∀r,X' r->X r\/S.row r= .none):Frz Φ S X':=by
 obtain⟨A,a,k⟩:=h;refine⟨A,fun r m=>⟨(a r m).1,fun x=> ?_⟩,k⟩;rcases hX r x with x|x
 ·exact(a r m).2 x
 ·exact(a r m).1 x
end
end Eva
