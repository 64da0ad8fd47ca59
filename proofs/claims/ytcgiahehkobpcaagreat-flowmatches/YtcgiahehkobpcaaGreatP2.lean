/- Trees made of raw ones, without names, hold no name. What stays beside a table that grows; what wraps a type. Rows of types under way. Schemas made of raw trees; lists under way in a cell. Arguments that are types, schemas: opened. A schema turned: one of its elements set. Schemas checked: what follows when nothing is wrong. A table's names and functions set. What a table made of a schema holds -/
import Derived.Test.YtcgiahehkobpcaaGreatP1
import Derived.ChangeArms
set_option linter.unusedVariables false
set_option linter.unusedSimpArgs false
set_option linter.unusedSectionVars false
set_option maxRecDepth 100000
namespace Eva
open Go Go.RowKit
end Eva
namespace Eva
open Go Go.RowKit
def TabX (S:St)(W:Pt->Prop)(rt:Pt)(tb:Tb):Prop:=WF S/\∃F,Tab W F S rt tb
def Kept (S:St)(W:Pt->Prop)(S':St)(W':Pt->Prop):Prop:=∀r,S.row r≠ .none->¬W r->S'.row r=S.row r/\¬W' r
section
variable {S S' S'' : St} {W W' W'' : Pt -> Prop} {rt : Pt} {tb : Tb}
theorem Kept.refl (S:St)(W:Pt->Prop):Kept S W S W:=fun r _ h=>⟨rfl,h⟩
theorem Kept.trans (h:Kept S W S' W')(k:Kept S' W' S'' W''):Kept S W S'' W'':=fun r e n=>by
 obtain⟨h1,h2⟩:=h r e n
 obtain⟨k1,k2⟩:=k r (by rw[h1];exact e) h2
 exact⟨by rw[k1,h1],k2⟩
theorem Kept.gr (g:Gr S S')(W:Pt->Prop):Kept S W S' W:=fun r e n=>⟨g.same r e,n⟩
theorem Kept.ch (c:Ch W S S')(h:∀r,W' r->W r\/S.row r= .none):Kept S W S' W':=fun r e n=>⟨c.same r e n,fun w=>by rcases h r w with w|w;exact n w;exact e w⟩
theorem Kept.row (h:Kept S W S' W'){p:Pt}{t:Nat}{l:List V}(e:S.row p= .cells t l)(n:¬W p):S'.row p= .cells t l:=by rw[(h p (by rw[e];exact fun k=>by cases k) n).1,e]
theorem Kept.out (h:Kept S W S' W'){p:Pt}(e:S.row p≠ .none)(n:¬W p):¬W' p:=(h p e n).2
theorem Kept.ty (h:Kept S W S' W'){e:List V}{t:Ty}(k:TyC (fun r=>¬W r) S e t):TyC (fun r=>¬W' r) S' e t:=k.imp fun r n e=>⟨(h r e n).2,(h r e n).1⟩
theorem Kept.sl (h:Kept S W S' W'){v:V}{z:Nat}{es:List (List V)}(k:SlAt (fun r=>¬W r) S v z es):SlAt (fun r=>¬W' r) S' v z es:=k.imp fun r n e=>⟨(h r e n).2,(h r e n).1⟩
theorem TabX.gr (h:TabX S W rt tb)(g:Gr S S'):TabX S' W rt tb:=by
 obtain⟨_,F,h⟩:=h
 exact⟨g.wf,F,h.gr g⟩
theorem TabX.own (h:TabX S W rt tb){r:Pt}(e:S.row r= .none):¬W r:=by
 obtain⟨_,F,_,_,_,_,_,_,h⟩:=h
 exact fun w=>h.own r w e
theorem TyC.new (h:TabX S W rt tb){P:Pt->Prop}(hP:∀r,P r->¬W r){e:List V}{t:Ty}(k:TyC P S e t):TyC (fun r=>¬W r) S e t:=k.imp fun r p _=>⟨hP r p,rfl⟩
end
theorem YW {nodes:List Nd}{t:Ty}{i:Nat}(h:lookT nodes t=some i):∃ids,nodes[i]? =some ⟨t.kind,t.name,t.names,ids⟩/\looksT nodes t.kids=some ids:=by
 obtain⟨k,n,ns,ks⟩:=t
 rw[lookT]at h
 cases c:looksT nodes ks with
 |none=>rw[c]at h;cases h
 | some ids=>
   rw[c]at h
   have:=(Jef h).2
   rw[Nat.sub_zero]at this
   exact⟨ids,this,c⟩
theorem Jdw {nodes:List Nd}{k:Int}{X:Ty}{p i:Nat}(h:lookT nodes (.mk k [] [] [X])=some p)(hx:lookT nodes X=some i):nodes[p]? =some ⟨k,[],[],[i]⟩:=by
 obtain⟨ids,h1,h2⟩:=YW h
 rw[show(Ty.mk k [] [] [X]).kids=[X]from rfl,looksT,hx,looksT]at h2
 injection h2 with h2
 rw[h1,<-h2]
 rfl
theorem Jj9 (t:Ty)(left:Int)(tb:Tb):∃r,(addT t left tb).1={tb with nodes:=tb.nodes++r}:=addT_pre t left tb
where
 addT_pre:∀(t:Ty) (left:Int) (tb:Tb),∃r,(addT t left tb).1={tb with nodes:=tb.nodes++r}
  | .mk k n ns ks,left,tb=>by
    rw[Yv]
    split
    ·exact⟨[],by simp⟩
    ·obtain⟨r,hr⟩:=addTs_pre ks (left-1) tb
     generalize addTs ks (left-1) tb=x at hr⊢
     obtain⟨tb1,ids,e,l1⟩:=x
     simp only at hr⊢
     by_cases he:e=0
     ·rw[if_neg (fun k=>k he)]
      simp only
      unfold layS
      split
      ·exact⟨r,hr⟩
      ·split
       ·exact⟨r,hr⟩
       ·exact⟨r++[⟨k,n,ns,ids⟩],by rw[hr];simp⟩
     ·rw[if_pos he];exact⟨r,hr⟩
 addTs_pre:∀(ts:List Ty) (left:Int) (tb:Tb),∃r,(addTs ts left tb).1={tb with nodes:=tb.nodes++r}
  |[],left,tb=>⟨[],by rw[Q5];simp⟩
  | t::ts,left,tb=>by
    rw[QS]
    obtain⟨r,hr⟩:=addT_pre t left tb
    generalize addT t left tb=x at hr⊢
    obtain⟨tb1,i,e,l1⟩:=x
    simp only at hr⊢
    by_cases he:e=0
    ·rw[if_neg (fun k=>k he)]
     obtain⟨r2,hr2⟩:=addTs_pre ts l1 tb1
     generalize addTs ts l1 tb1=y at hr2⊢
     obtain⟨tb2,is,e2,l2⟩:=y
     simp only at hr2⊢
     exact⟨r++r2,by rw[hr2,hr];simp⟩
    ·rw[if_pos he];exact⟨r,hr⟩
structure Holds (tb:Tb) (X Y:Ty) (i j:Nat) (is:Bool):Prop where
 acy:Acy tb
 x:lookT tb.nodes X=some i
 y:lookT tb.nodes Y=some j
 fits:∃f W,fitsS tb f [] i j=some (is,W)
theorem Holds.lt {tb:Tb}{X Y:Ty}{i j:Nat}{is:Bool}(h:Holds tb X Y i j is):i<tb.nodes.length/\j<tb.nodes.length:=by
 obtain⟨_,h1,_⟩:=YW h.x
 obtain⟨_,h2,_⟩:=YW h.y
 exact⟨(List.getElem?_eq_some_iff.1 h1).1,(List.getElem?_eq_some_iff.1 h2).1⟩
theorem Holds.ext {tb tb':Tb}{X Y:Ty}{i j:Nat}{is:Bool}(h:Holds tb X Y i j is)(ha:Acy tb')(hr:∃r,tb'.nodes=tb.nodes++r):Holds tb' X Y i j is:=by
 obtain⟨r,hr⟩:=hr
 obtain⟨l1,l2⟩:=h.lt
 obtain⟨f,W,hf⟩:=h.fits
 refine⟨ha,by rw[hr];exact Y2 X h.x,by rw[hr];exact Y2 Y h.y,f,W, ?_⟩
 rw[Jgb h.acy ha (fun i n e=>by rw[hr,List.getElem?_append_left (List.getElem?_eq_some_iff.1 e).1];exact e) f [] i j l1 l2]
 exact hf
theorem Holds.add {tb:Tb}{X Y Z:Ty}{i j:Nat}{is:Bool}(h:Holds tb X Y i j is)(hz:noName Z=true)(left:Int):Holds (addT Z left tb).1 X Y i j is:=by
 obtain⟨r,hr⟩:=Jj9 Z left tb
 exact h.ext (Jga Z hz h.acy).1 ⟨r,by rw[hr]⟩
theorem Holds.wrap {tb:Tb}{X Y:Ty}{i j:Nat}{is:Bool}(h:Holds tb X Y i j is)(nX:noName X=true)(nY:noName Y=true){k:Int}(hk:k=4\/k=5)(hg:(addT (.mk k [] [] [X]) 400 tb).2.2.1=0)(hh:(addT (.mk k [] [] [Y]) 400 (addT (.mk k [] [] [X]) 400 tb).1).2.2.1=0):
  ∃f W,fitsS (addT (.mk k [] [] [Y]) 400 (addT (.mk k [] [] [X]) 400 tb).1).1 f [] (addT (.mk k [] [] [X]) 400 tb).2.1 (addT (.mk k [] [] [Y]) 400 (addT (.mk k [] [] [X]) 400 tb).1).2.1=some (is,W):=by
 have n1:noName (.mk k [] [] [X])=true:=by rw[noName,noNames,noNames,nX];rcases hk with rfl|rfl<;>rfl
 have n2:noName (.mk k [] [] [Y])=true:=by rw[noName,noNames,noNames,nY];rcases hk with rfl|rfl<;>rfl
 have h2:=(h.add n1 400).add n2 400
 obtain⟨r1,a1,a2,_⟩:=j0 _ hg
 obtain⟨r2,b1,b2,_⟩:=j0 _ hh
 generalize addT (.mk k [] [] [X]) 400 tb=A at*
 generalize addT (.mk k [] [] [Y]) 400 A.1=B at*
 have e1:=Jdw (by rw[b1];exact Y2 _ a2) h2.x
 have e2:=Jdw b2 h2.y
 obtain⟨f,W,hf⟩:=h2.fits
 obtain⟨V,hV⟩:=Jj7 h2.acy hk e1 e2 hf
 exact⟨_,V,hV⟩
end Eva
namespace Eva
open Go Go.RowKit
def TysF (P:Pt->Prop)(S0 st:St)(v:V)(ts:List Ty):Prop:=∃es,SlF S0 st v 4 es/\es.length=ts.length/\∀i (h:i<es.length) (h':i<ts.length),TyC P S0 es[i] ts[i]
section
variable {P : Pt -> Prop} {S0 st st' : St} {v : V} {ts : List Ty}
theorem TysF.nil (P:Pt->Prop)(S0 st:St):TysF P S0 st .snil []:=⟨[],SlF.nil _ _ _,rfl,fun i h=>absurd h (by simp)⟩
theorem TysF.gr (h:TysF P S0 st v ts)(g:Gr st st'):TysF P S0 st' v ts:=by
 obtain⟨es,h1,h2,h3⟩:=h
 exact⟨es,h1.gr g,h2,h3⟩
theorem TysF.keep (h:TysF P S0 st v ts)(k:∀r,rowOf v=some r->st'.row r=st.row r):TysF P S0 st' v ts:=by
 obtain⟨es,h1,h2,h3⟩:=h
 exact⟨es,h1.keep k,h2,h3⟩
theorem TysF.row (h:TysF P S0 st v ts){r:Pt}(hr:rowOf v=some r):S0.row r= .none:=by
 obtain⟨es,h1,_⟩:=h
 exact(h1.row hr).1
theorem TysF.alive (h:TysF P S0 st v ts){r:Pt}(hr:rowOf v=some r):st.row r≠ .none:=by
 obtain⟨es,h1,_⟩:=h
 obtain⟨_,t,e⟩:=h1.row hr
 rw[e];exact fun e=>by cases e
end
end Eva
namespace Eva
open Go Go.RowKit
theorem RwsAt.imp {P Q:Pt->Prop}{st st':St}{v:V}{qs:List Rw}(h:RwsAt P st v qs)(k:∀r,P r->st.row r≠ .none->Q r/\st'.row r=st.row r):RwsAt Q st' v qs:=by
 obtain⟨es,h1,h2,h3,h4⟩:=h
 exact⟨es,h1.imp k,h2,h3,fun i a b=>(h4 i a b).imp k⟩
theorem RwsAt.gr {P:Pt->Prop}{st st':St}{v:V}{qs:List Rw}(h:RwsAt P st v qs)(g:Gr st st'):RwsAt P st' v qs:=h.imp fun r p e=>⟨p,g.same r e⟩
theorem RwsAt.len {P:Pt->Prop}{st:St}{v:V}{qs:List Rw}(h:RwsAt P st v qs):lenLV v=some (.int .i64 qs.length, .no)/\v.sc=true/\v.cells=some [v]/\qs.length<2^63:=by
 obtain⟨es,h1,h2,h3,h4⟩:=h
 exact⟨by rw[h1.len,h2],h1.sc,h1.cells,h3⟩
theorem RwsAt.elem {P:Pt->Prop}{st:St}{v:V}{qs:List Rw}(h:RwsAt P st v qs){i:Nat}(hi:i<qs.length):
  ∃r o kv nv,iaddrSV 4 v (.int .i64 i)=some (.ptr r o, .no)/\st.row r≠ .none/\ldn (st.row r) o 4=some (.agg [.int .i64 qs[i].kind, .int .i64 qs[i].n,nv,kv], .no)/\RwC P st [.int .i64 qs[i].kind, .int .i64 qs[i].n,nv,kv] qs[i]/\ld1 (st.row r) (o+3)=some (kv, .no)/\∃es,SlAt P st kv 4 es/\es.length=qs[i].kids.length/\qs[i].kids.length<2^63/\∀j (h:j<es.length) (h':j<qs[i].kids.length),RwC P st es[j] qs[i].kids[j]:=by
 obtain⟨es,h1,h2,h3,h4⟩:=h
 obtain⟨r,o,a1,a2,a3,a4,a5⟩:=h1.elem (i:=i) (by omega)
 have h5:=h4 i (by omega) hi
 have h6:=h5
 obtain⟨nv,kv,xs,he,hk,hn,hz,b1,b2,b3,⟨b4,b5⟩,b6⟩:=h5.inv
 rw[he]at a4 h6
 have a6:=a5 3 (by rw[he];exact(by decide:3<4))
 simp only[he]at a6
 exact⟨r,o,kv,nv,a1,a3,a4,h6,a6,xs,b2,b3,b5,b6⟩
structure LsF {α:Type} (C:(Pt->Prop)->St->List V->α->Prop) (st S1:St) (B:Pt->Prop) (z:Nat) (S:St) (v:V) (l:List α):Prop where
 g:Gr st S
 keep:∀r,S1.row r≠ .none->¬B r->S.row r=S1.row r
 live:∀r,S1.row r≠ .none->S.row r≠ .none
 own:∀r,rowOf v=some r->S1.row r= .none
 es:∃es,SlF st S v z es/\es.length=l.length/\∀i (h:i<es.length) (h':i<l.length),C (fun r=>¬B r/\rowOf v≠some r) S es[i] l[i]
section
variable {α : Type} {C : (Pt -> Prop) -> St -> List V -> α -> Prop} {st S1 S S' : St} {B : Pt -> Prop} {z : Nat} {v : V} {l : List α}
theorem LsF.nil (h:Gr st S1):LsF C st S1 B z S1 .snil []:=⟨h,fun r _ _=>rfl,fun r e=>e,fun r e=>(by cases e),⟨[],SlF.nil _ _ _,rfl,fun i h=>absurd h (by simp)⟩⟩
theorem LsF.gr (hC:∀{P Q:Pt->Prop} {st st':St} {e:List V} {x:α},C P st e x->(∀r,P r->st.row r≠ .none->Q r/\st'.row r=st.row r)->C Q st' e x)(h:LsF C st S1 B z S v l)(g:Gr S S'):LsF C st S1 B z S' v l:=by
 obtain⟨es,h1,h2,h3⟩:=h.es
 exact⟨h.g.trans g,fun r e n=>by rw[g.same r (h.live r e)];exact h.keep r e n,fun r e=>by rw[g.same r (h.live r e)];exact h.live r e,h.own,es,h1.gr g,h2,fun i a b=>hC (h3 i a b) fun r p e=>⟨p,g.same r e⟩⟩
theorem LsF.alive (h:LsF C st S1 B z S v l){r:Pt}(hr:rowOf v=some r):S.row r≠ .none:=by
 obtain⟨es,h1,_⟩:=h.es
 exact h1.some hr
theorem LsF.sc (h:LsF C st S1 B z S v l):v.sc=true/\v.cells=some [v]:=by
 obtain⟨es,h1,_⟩:=h.es
 exact⟨h1.at.sc,h1.at.cells⟩
theorem LsF.wr (hC:∀{P Q:Pt->Prop} {st st':St} {e:List V} {x:α},C P st e x->(∀r,P r->st.row r≠ .none->Q r/\st'.row r=st.row r)->C Q st' e x)(h:LsF C st S1 B z S v l){p:Pt}{t:Nat}{c:List V}{c':List V}(hp:B p)(h0:st.row p= .none)(h1:S1.row p≠ .none)(e:S.row p= .cells t c):LsF C st S1 B z (S.wr p t fun u=> .cells u c') v l:=by
 have ne:∀r,¬B r->r≠p:=fun r n k=>n (by rw[k];exact hp)
 obtain⟨es,h2,h3,h4⟩:=h.es
 refine⟨h.g.wr h0 (Jh e) (by rw[e];rfl) (Jj _),fun r a n=>by rw[QL _ _ _ (ne r n)];exact h.keep r a n,fun r a=> ?_,h.own,es,h2.keep fun r hr=>QL _ _ _ fun k=> ?_,h3,fun i a b=>hC (h4 i a b) fun r q _=>⟨q,QL _ _ _ (ne r q.1)⟩⟩
 ·by_cases k:r=p
  ·rw[k,YB];exact fun e=>by cases e
  ·rw[QL _ _ _ k];exact h.live r a
 ·exact h1 (by rw[<-k];exact h.own r hr)
end
def Own (st:St)(tv sv:V)(r:Pt):Prop:=st.row r= .none/\rowOf tv≠some r/\rowOf sv≠some r
def SgT (tv:V)(P:Pt->Prop)(st:St)(e:List V)(x:Sg):Prop:=SgC (fun r=>P r/\rowOf tv≠some r) st e x
theorem SgT.imp {tv:V}{P Q:Pt->Prop}{st st':St}{e:List V}{x:Sg}(h:SgT tv P st e x)(k:∀r,P r->st.row r≠ .none->Q r/\st'.row r=st.row r):SgT tv Q st' e x:=SgC.imp h fun r p e=>⟨⟨(k r p.1 e).1,p.2⟩,(k r p.1 e).2⟩
structure SchF (st S:St) (c:List V) (tv sv:V) (s:Sch):Prop where
 main:TyC (Own st tv sv) S c s.main
 types:∃es,SlF st S tv 5 es/\es.length=s.types.length/\∀i (h:i<es.length) (h':i<s.types.length),NmC (Own st tv sv) S es[i] s.types[i]
 sigs:∃es,SlF st S sv 6 es/\es.length=s.sigs.length/\∀i (h:i<es.length) (h':i<s.sigs.length),SgC (Own st tv sv) S es[i] s.sigs[i]
 apart:∀r,rowOf tv=some r->rowOf sv≠some r
theorem SchF.c {st S:St}{c:List V}{tv sv:V}{s:Sch}(h:SchF st S c tv sv s):SchC (fun r=>st.row r= .none) S (c++[tv,sv]) s:=by
 obtain⟨m,⟨es,t1,t2,t3⟩,⟨gs,g1,g2,g3⟩,_⟩:=h
 exact⟨c,tv,sv,rfl,m.imp fun r p _=>⟨p.1,rfl⟩,⟨es,t1.at,t2,fun i a b=>(t3 i a b).imp fun r p _=>⟨p.1,rfl⟩⟩,⟨gs,g1.at,g2,fun i a b=>(g3 i a b).imp fun r p _=>⟨p.1,rfl⟩⟩⟩
end Eva
namespace Eva
open Go Go.RowKit
section
variable {H : Type} {enc : TypeId × Value -> H} {P : Program} {W : World} {ρ : Nat -> Value}
structure TyTy (P:Program) (t ti tr tn tk:TypeId):Prop where
 ty:∃f0 f1 f2 f3:Field,P.underlying t=some (.struct #[f0,f1,f2,f3])/\(f0.type=ti/\f0.offset=0)/\(f1.type=tr/\f1.offset=1)/\(f2.type=tn/\f2.offset=2)/\(f3.type=tk/\f3.offset=3)
 int:P.underlying ti=some (.int .i64)
 str:P.underlying tr=some .string
 names:P.underlying tn=some (.slice tr)
 kids:P.underlying tk=some (.slice t)
 ct:P.cellsOf t=4
 ci:P.cellsOf ti=1
 cr:P.cellsOf tr=1
 cn:P.cellsOf tn=1
 ck:P.cellsOf tk=1
structure SchTy (P:Program) (ts tts tgs tnm tsg:TypeId) (t ti tr tn tk:TypeId):Prop where
 ty:TyTy P t ti tr tn tk
 sch:∃f0 f1 f2:Field,P.underlying ts=some (.struct #[f0,f1,f2])/\(f0.type=t/\f0.offset=0)/\(f1.type=tts/\f1.offset=4)/\(f2.type=tgs/\f2.offset=5)
 nm:∃f0 f1:Field,P.underlying tnm=some (.struct #[f0,f1])/\(f0.type=tr/\f0.offset=0)/\(f1.type=t/\f1.offset=1)
 sg:∃f0 f1 f2:Field,P.underlying tsg=some (.struct #[f0,f1,f2])/\(f0.type=tr/\f0.offset=0)/\(f1.type=tk/\f1.offset=1)/\(f2.type=t/\f2.offset=2)
 types:P.underlying tts=some (.slice tnm)
 sigs:P.underlying tgs=some (.slice tsg)
 c6:P.cellsOf ts=6
 cts:P.cellsOf tts=1
 cgs:P.cellsOf tgs=1
 c5:P.cellsOf tnm=5
 cs6:P.cellsOf tsg=6
end
end Eva
namespace Eva
open Go Go.RowKit
section
variable {st S S' : St} {c : List V} {tv sv : V} {s : Sch}
theorem SchF.add (h:SchF st S c tv sv s){v':V}{es':List (List V)}{l':List (Str×Ty)}(hS:∀q,S.row q≠ .none->rowOf tv≠some q->S'.row q=S.row q)(hsl:SlF st S' v' 5 es')(hl:es'.length=l'.length)
  (hel:∀i (h:i<es'.length) (h':i<l'.length),NmC (fun _=>True) S' es'[i] l'[i]):SchC (fun _=>True) S' (c++[v',sv]) ⟨s.main,l',s.sigs⟩:=by
 obtain⟨m,_,⟨gs,g1,g2,g3⟩,ap⟩:=h
 have k:∀q,Own st tv sv q->S.row q≠ .none->True/\S'.row q=S.row q:=fun q p e=>⟨trivial,hS q e p.2.1⟩
 exact⟨c,v',sv,rfl,m.imp k,⟨es',hsl.at.imp fun _ _ _=>⟨trivial,rfl⟩,hl,hel⟩,⟨gs,(g1.keep (st':=S') fun q e=>hS q (g1.some e) fun e2=>ap q e2 e).at.imp fun _ _ _=>⟨trivial,rfl⟩,g2,fun i a b=>(g3 i a b).imp k⟩⟩
theorem SchF.gr (h:SchF st S c tv sv s)(g:Gr S S'):SchF st S' c tv sv s:=by
 obtain⟨m,⟨es,t1,t2,t3⟩,⟨gs,g1,g2,g3⟩,ap⟩:=h
 have k:∀q,Own st tv sv q->S.row q≠ .none->Own st tv sv q/\S'.row q=S.row q:=fun q p e=>⟨p,g.same q e⟩
 exact⟨m.imp k,⟨es,t1.gr g,t2,fun i a b=>(t3 i a b).imp k⟩,⟨gs,g1.gr g,g2,fun i a b=>(g3 i a b).imp k⟩,ap⟩
end
end Eva
namespace Eva
open Go Go.RowKit
theorem kw :∀{a b c:List UInt8},Op.bytesLess a b=true->Op.bytesLess b c=true->Op.bytesLess a c=true
 |_,[],_,h,_=>by simp[Op.bytesLess]at h
 |_,_::_,[],_,h=>by simp[Op.bytesLess]at h
 |[],_::_,_::_,_,_=>by simp[Op.bytesLess]
 | a::x,b::y,c::z,h,k=>by
   simp only[Op.bytesLess,Bool.or_eq_true,Bool.and_eq_true,decide_eq_true_eq,beq_iff_eq]at h k⊢
   rcases h with h|⟨rfl,h⟩
   ·rcases k with k|⟨rfl,k⟩
    ·exact .inl (UInt8.lt_trans h k)
    ·exact .inl h
   ·rcases k with k|⟨rfl,k⟩
    ·exact .inl k
    ·exact .inr ⟨rfl,kw h k⟩
theorem jH :∀a:List UInt8,Op.bytesLess a a=false
 |[]=>rfl
 | a::x=>by
   simp only[Op.bytesLess,jH x,Bool.and_false,Bool.or_false,decide_eq_false_iff_not]
   exact UInt8.lt_irrefl a
theorem qj :∀(p:Option Str) (l:List Str),typesS p l=0->l.Pairwise (fun a b=>Op.bytesLess a b=true)/\∀a∈l,∀q,p=some q->Op.bytesLess q a=true
 |p,[],_=>⟨List.Pairwise.nil,fun a h=>by cases h⟩
 | p,n::r,h=>by
   rw[typesS]at h
   split at h
   ·cases h
   split at h
   ·cases h
   rename_i _ h2
   obtain⟨i1,i2⟩:=qj (some n) r h
   have hp:∀q,p=some q->Op.bytesLess q n=true:=fun q hq=>by
    rw[hq]at h2
    simpa[notLess]using h2
   refine⟨List.pairwise_cons.2 ⟨fun a ha=>i2 a ha n rfl,i1⟩,fun a ha q hq=> ?_⟩
   rcases List.mem_cons.1 ha with rfl|ha
   ·exact hp q hq
   ·exact kw (hp q hq) (i2 a ha n rfl)
theorem Jeh {l:List Str}(h:typesS none l=0):l.Nodup:=
 (qj none l h).1.imp fun{a b} h e=>by rw[e,jH]at h;cases h
theorem Jgc (has:Str->Bool)(p:Option Str)(f:Sg)(r:List Sg)(met:Nat):sigsS has p (f::r) met=if(!identB f.name||Jdl f.name)=true then(15,met)else if notLess p f.name=true then(6,met)else if 4<f.params.length then(18,met)else
  if(maysS has (f.params++[f.result]) 1 met).1≠0 then maysS has (f.params++[f.result]) 1 met else sigsS has (some f.name) r (maysS has (f.params++[f.result]) 1 met).2:=by rw[sigsS]
theorem Jka (s:Sch):checkS s=
  if 12<s.types.length\/12<s.sigs.length then 3 else
  if typesS none (s.types.map Prod.fst)≠0 then typesS none (s.types.map Prod.fst)else
  if(maysS (hasN s.types) (s.types.map Prod.snd) 1 0).1≠0 then(maysS (hasN s.types) (s.types.map Prod.snd) 1 0).1 else
  if(mayS (hasN s.types) s.main 1 (maysS (hasN s.types) (s.types.map Prod.snd) 1 0).2).1≠0 then(mayS (hasN s.types) s.main 1 (maysS (hasN s.types) (s.types.map Prod.snd) 1 0).2).1 else
  if(sigsS (hasN s.types) none s.sigs (mayS (hasN s.types) s.main 1 (maysS (hasN s.types) (s.types.map Prod.snd) 1 0).2).2).1≠0 then(sigsS (hasN s.types) none s.sigs (mayS (hasN s.types) s.main 1 (maysS (hasN s.types) (s.types.map Prod.snd) 1 0).2).2).1 else
  if s.types.any (fun p=> !finS s.types p.2)then 14 else
  if optssS s.types (everyS s)then 17 else 0:=rfl
end Eva
namespace Eva
open Go Go.RowKit
section
variable {S : St} {W : Pt -> Prop} {rt : Pt} {tb : Tb}
theorem Kept.wr {t:Nat}{f:Nat->Row}{p:Pt}(hp:W p):Kept S W (S.wr p t f) W:=fun r e n=>⟨QL _ _ _ fun h=>n (by rw[h];exact hp),n⟩
end
def TabZ (S:St)(W Z:Pt->Prop)(rt:Pt)(tb:Tb):Prop:=WF S/\∃F,Tab W F S rt tb/\∀r,F r->¬Z r
theorem TabZ.x {S:St}{W Z:Pt->Prop}{rt:Pt}{tb:Tb}(h:TabZ S W Z rt tb):TabX S W rt tb:=by
 obtain⟨hw,F,h,_⟩:=h
 exact⟨hw,F,h⟩
theorem TabX.z {S S':St}{W:Pt->Prop}{rt:Pt}{tb:Tb}(h:TabX S W rt tb)(g:Gr S S'){p:Pt}(hp:S.row p= .none):TabZ S' W (fun r=>r=p) rt tb:=by
 obtain⟨hw,F,h⟩:=h
 exact⟨g.wf,_,h.live.gr g,fun r f e=>f.2 (by rw[e];exact hp)⟩
theorem TabZ.gr {S S':St}{W Z:Pt->Prop}{rt:Pt}{tb:Tb}(h:TabZ S W Z rt tb)(g:Gr S S'):TabZ S' W Z rt tb:=by
 obtain⟨hw,F,h,k⟩:=h
 exact⟨g.wf,F,h.gr g,k⟩
theorem TabZ.wr {S:St}{W Z:Pt->Prop}{rt:Pt}{tb:Tb}(h:TabZ S W Z rt tb){p:Pt}{t:Nat}{f:Nat->Row}(hp:Z p)(hn:¬W p)(he:S.row p≠ .none)(ht:(S.row p).time=t)(hf:∀u,(f u).time=u/\f u≠ .none):TabZ (S.wr p t f) W Z rt tb:=by
 obtain⟨hw,F,h,k⟩:=h
 refine⟨((Ch.refl (fun r=>r=p) hw).wr he ht (.inl rfl) hf).wf,F,h.keep fun r w _=>QL _ _ _ fun e=> ?_,k⟩
 rcases w with w|w
 ·exact hn (by rw[<-e];exact w)
 ·exact k r w (by rw[e];exact hp)
end Eva
namespace Eva
open Go Go.RowKit
mutual
def namesIn (has:Str->Bool):Ty->Bool
 | .mk k n _ ks=>(decide (k≠9)||has n)&&Yi has ks
def Yi (has:Str->Bool):List Ty->Bool
 |[]=>true
 |t::r=>namesIn has t&&Yi has r
end
mutual
theorem Jaz (has:Str->Bool):∀(t:Ty) (deep met:Nat),(mayS has t deep met).1=0->namesIn has t=true
 | .mk k n ns ks,deep,met,h=>by
   rw[Ja1]at h
   split at h
   ·cases h
   split at h
   ·cases h
   split at h
   ·cases h
   split at h
   ·cases h
   split at h
   ·cases h
   rename_i c
   split at h
   ·rename_i c;exact absurd h c
   rw[namesIn,Bool.and_eq_true,kz has ks _ _ h]
   refine⟨?_,rfl⟩
   by_cases k9:k=9
   ·cases hn:has n with
    |true=>simp
    |false=>exact absurd ⟨k9,hn⟩ c
   ·simp[k9]
theorem kz (has:Str->Bool):∀(ts:List Ty) (deep met:Nat),(maysS has ts deep met).1=0->Yi has ts=true
 |[],_,_,_=>by rw[Yi]
 | t::r,deep,met,h=>by
   rw[Q1]at h
   split at h
   ·rename_i c;exact absurd h c
   rename_i c
   rw[Yi,Jaz has t deep met (by simpa using c),kz has r _ _ h];rfl
end
theorem jn {has:Str->Bool}:∀{ts:List Ty},Yi has ts=true->∀t∈ts,namesIn has t=true
 |[],_,t,h=>by cases h
 | a::r,hs,t,h=>by
   rw[Yi,Bool.and_eq_true]at hs
   rcases List.mem_cons.1 h with rfl|h
   ·exact hs.1
   ·exact jn hs.2 t h
theorem Jb0 (has:Str->Bool):∀(p:Option Str) (fs:List Sg) (met:Nat),(sigsS has p fs met).1=0->(∀f∈fs,Yi has (f.params++[f.result])=true)/\(fs.map Sg.name).Pairwise (fun a b=>Op.bytesLess a b=true)/\∀f∈fs,∀q,p=some q->Op.bytesLess q f.name=true
 |p,[],met,_=>⟨fun f h=>(by cases h),List.Pairwise.nil,fun f h=>(by cases h)⟩
 | p,f::r,met,h=>by
   rw[Jgc]at h
   split at h
   ·cases h
   split at h
   ·cases h
   rename_i h2
   split at h
   ·cases h
   split at h
   ·rename_i c;exact absurd h c
   rename_i c
   obtain⟨i1,i2,i3⟩:=Jb0 has _ r _ h
   have hp:∀q,p=some q->Op.bytesLess q f.name=true:=fun q hq=>by
    rw[hq]at h2
    simpa[notLess]using h2
   refine⟨fun g hg=> ?_, ?_,fun g hg q hq=> ?_⟩
   ·rcases List.mem_cons.1 hg with rfl|hg
    ·exact kz has _ 1 met (by simpa using c)
    ·exact i1 g hg
   ·rw[List.map_cons,List.pairwise_cons]
    refine⟨fun a ha=> ?_,i2⟩
    obtain⟨g,hg,rfl⟩:=List.mem_map.1 ha
    exact i3 g hg _ rfl
   ·rcases List.mem_cons.1 hg with rfl|hg
    ·exact hp q hq
    ·exact kw (hp q hq) (i3 g hg _ rfl)
theorem Jei {l:List Str}(h:l.Pairwise (fun a b=>Op.bytesLess a b=true)):l.Nodup:=h.imp fun{a b} h e=>by rw[e,jH]at h;cases h
def Able (X:Ty):Prop:=sizeT X<=400/\∃l0 tb0,(addT X l0 tb0).2.2.1=0
structure TInv (has:Str->Bool) (nodes:List Nd):Prop where
 tree:∀i,i<nodes.length->∃X,lookT nodes X=some i/\Able X
 name:∀(i:Nat) (n:Nd),nodes[i]? =some n->n.kind=9->has n.name=true
theorem TInv.app {has:Str->Bool}{nodes:List Nd}{nd:Nd}(h:TInv has nodes)(hn:nd.kind=9->has nd.name=true){X:Ty}(hX:lookT (nodes++[nd]) X=some nodes.length)(ha:Able X):TInv has (nodes++[nd]):=by
 refine⟨fun i hi=> ?_,fun i n hi k=> ?_⟩
 ·by_cases c:i<nodes.length
  ·obtain⟨X,h1,h2⟩:=h.tree i c
   exact⟨X,Y2 X h1,h2⟩
  ·have:i=nodes.length:=by simp at hi;omega
   subst this
   exact⟨X,hX,ha⟩
 ·by_cases c:i<nodes.length
  ·rw[List.getElem?_append_left c]at hi;exact h.name i n hi k
  ·rw[List.getElem?_append_right (by omega)]at hi
   have e:i-nodes.length=0:=by
    have:=(List.getElem?_eq_some_iff.1 hi).1
    simpa using this
   rw[e]at hi
   injection hi with hi
   rw[<-hi]at k⊢
   exact hn k
mutual
theorem Jgd {has:Str->Bool}:∀(t:Ty) {left:Int} {tb:Tb},0<=left->left<=400->namesIn has t=true->(addT t left tb).2.2.1=0->TInv has tb.nodes->TInv has (addT t left tb).1.nodes
 | .mk k n ns ks,left,tb,h0,hl,hn,h,hi=>by
   have able:Able (.mk k n ns ks):=⟨by
    have h1:=(Jaq (.mk k n ns ks) left tb h0).2.2 h
    obtain⟨_,_,_,h2⟩:=j0 _ h
    rw[h2]at h1
    omega,left,tb,h⟩
   obtain⟨r0,b0,b1,_⟩:=j0 _ h
   rw[namesIn,Bool.and_eq_true]at hn
   rw[Yv]at h b1⊢
   by_cases c:left-1<0\/8<ks.length\/8<ns.length
   ·rw[if_pos c]at h;cases h
   rw[if_neg c]at h b1⊢
   have ih:=Jdx ks (left:=left-1) (tb:=tb) (by omega) (by omega) hn.2
   have ok:=Jac ks (left:=left-1) (tb:=tb)
   generalize addTs ks (left-1) tb=x at h b1 ih ok⊢
   obtain⟨tb1,ids,e,l1⟩:=x
   simp only at h b1 ih ok⊢
   by_cases he:e=0
   ·subst he
    simp only[ne_eq,not_true_eq_false,if_false]at h b1⊢
    have ih:=ih rfl hi
    unfold layS at h b1⊢
    cases cc:idx ⟨k,n,ns,ids⟩ tb1.nodes 0 with
    |some i=>exact ih
    | none=>
      rw[cc]at h b1
      by_cases c2:120<=tb1.nodes.length
      ·rw[if_pos c2]at h;cases h
      ·simp only[if_neg c2]at b1⊢
       refine ih.app (nd:=⟨k,n,ns,ids⟩) (fun k9=> ?_) b1 able
       have:=hn.1
       rw[show k=9 from k9]at this
       simpa using this
   ·rw[if_pos he]at h;exact absurd h he
theorem Jdx {has:Str->Bool}:∀(ts:List Ty) {left:Int} {tb:Tb},0<=left->left<=400->Yi has ts=true->(addTs ts left tb).2.2.1=0->TInv has tb.nodes->TInv has (addTs ts left tb).1.nodes
 |[],left,tb,_,_,_,_,hi=>by rw[Q5];exact hi
 | t::ts,left,tb,h0,hl,hn,h,hi=>by
   rw[Yi,Bool.and_eq_true]at hn
   rw[QS]at h⊢
   have i1:=Jgd t (left:=left) (tb:=tb) h0 hl hn.1
   have l1:=Jaq t left tb h0
   generalize addT t left tb=x at h i1 l1⊢
   obtain⟨tb1,i,e,lf⟩:=x
   simp only at h i1 l1⊢
   by_cases he:e=0
   ·subst he
    simp only[ne_eq,not_true_eq_false,if_false]at h⊢
    exact Jdx ts (l1.2.2 rfl) (by omega) hn.2 h (i1 rfl hi)
   ·rw[if_pos he]at h;exact absurd h he
end
def sigI (tb:Tb)(n:Str):Option (List Nat):=(tb.sigs.find? fun p=>n=p.1).map (·.2)
structure Grown (tb tb':Tb):Prop where
 nodes:∃r,tb'.nodes=tb.nodes++r
theorem Grown.look {tb tb':Tb}(h:Grown tb tb'){X:Ty}{i:Nat}(k:lookT tb.nodes X=some i):lookT tb'.nodes X=some i:=by
 obtain⟨r,e⟩:=h.nodes
 rw[e];exact Y2 X k
theorem Grown.looks {tb tb':Tb}(h:Grown tb tb'){X:List Ty}{i:List Nat}(k:looksT tb.nodes X=some i):looksT tb'.nodes X=some i:=by
 obtain⟨r,e⟩:=h.nodes
 rw[e];exact kY X k
theorem Grown.refl (tb:Tb):Grown tb tb:=⟨[],by simp⟩
theorem Grown.trans {a b c:Tb}(h:Grown a b)(k:Grown b c):Grown a c:=by
 obtain⟨r,e⟩:=h.nodes
 obtain⟨q,f⟩:=k.nodes
 exact⟨r++q,by rw[f,e];simp⟩
structure OfSch (s:Sch) (tb:Tb):Prop where
 chk:checkS s=0
 inv:TInv (hasN s.types) tb.nodes
 named:∀p∈s.types,∃j,defI tb p.1=some j/\lookT tb.nodes p.2=some j
 able:∀p∈s.types,Able p.2
 sigs:∀f∈s.sigs,∃ids,sigI tb f.name=some ids/\looksT tb.nodes (f.params++[f.result])=some ids
 nosig:∀n,n∉s.sigs.map Sg.name->sigI tb n=none
 main:lookT tb.nodes s.main=some tb.main
theorem Jge {s:Sch}(h:checkS s=0):(∀p∈s.types,namesIn (hasN s.types) p.2=true)/\(s.types.map Prod.fst).Nodup/\namesIn (hasN s.types) s.main=true/\(∀f∈s.sigs,Yi (hasN s.types) (f.params++[f.result])=true)/\(s.sigs.map Sg.name).Nodup/\(∀p∈s.types,finS s.types p.2=true):=by
 rw[Jka]at h
 split at h
 ·cases h
 split at h
 ·rename_i c;exact absurd h c
 rename_i c2
 split at h
 ·rename_i c;exact absurd h c
 rename_i c3
 split at h
 ·rename_i c;exact absurd h c
 rename_i c4
 split at h
 ·rename_i c;exact absurd h c
 rename_i c5
 split at h
 ·cases h
 rename_i c6
 have a3:=kz _ _ _ _ (show(maysS (hasN s.types) (s.types.map Prod.snd) 1 0).1=0 by simpa using c3)
 obtain⟨b1,b2,_⟩:=Jb0 _ _ _ _ (by simpa using c5)
 refine⟨fun p hp=>jn a3 p.2 (List.mem_map.2 ⟨p,hp,rfl⟩),Jeh (by simpa using c2),Jaz _ _ _ _ (by simpa using c4),b1,Jei b2,fun p hp=> ?_⟩
 cases e:finS s.types p.2 with
 |true=>rfl
 |false=>exact absurd (List.any_eq_true.2 ⟨p,hp,by rw[e];rfl⟩) c6
end Eva
namespace Eva
open Go Go.RowKit
theorem Jdy (n m:Str)(b:Bool):∀l:List (Str×Bool),gB m (sB n b l)=if m=n then b else gB m l
 | []=>by
   rw[sB,gB]
   rfl
 | (a,c)::r=>by
   rw[sB]
   by_cases e:n=a
   ·rw[if_pos e,gB,gB]
    by_cases e2:m=n
    ·rw[if_pos e2,if_pos e2]
    ·rw[if_neg e2,if_neg e2,if_neg (fun k=>e2 (k.trans e.symm))]
   ·rw[if_neg e,gB,gB,Jdy n m b r]
    by_cases e2:m=n
    ·rw[if_pos e2,if_pos e2,if_neg (fun k=>e (e2.symm.trans k))]
    ·rw[if_neg e2,if_neg e2]
theorem Jb1 {has:Str->Bool}{t:Ty}(h:endsS has t 1=true)(k:t.kind=9):has t.name=true:=by
 obtain⟨k',n,ns,ks⟩:=t
 have k:k'=9:=k
 rw[endsS,if_neg (by decide),if_pos k]at h
 exact h
def Rk (l:List (Str×Ty))(has:List (Str×Bool))(rk:Str->Nat):Prop:=∀p∈l,p.2.kind=9->gB p.1 has=true->gB p.2.name has=true/\rk p.2.name<rk p.1
theorem Jb2 {l:List (Str×Ty)}(hd:(l.map Prod.fst).Nodup){p q:Str×Ty}(hp:p∈l)(hq:q∈l)(h:p.1=q.1):p=q:=by
 induction l with
 |nil=>cases hp
 | cons a r ih=>
   rw[List.map_cons,List.nodup_cons]at hd
   rcases List.mem_cons.1 hp with e|hp'
   ·rcases List.mem_cons.1 hq with e2|hq'
    ·rw[e,e2]
    ·exact absurd (List.mem_map.2 ⟨q,hq',by rw[<-h,e]⟩) hd.1
   ·rcases List.mem_cons.1 hq with e2|hq'
    ·exact absurd (List.mem_map.2 ⟨p,hp',by rw[h,e2]⟩) hd.1
    ·exact ih hd.2 hp' hq'
theorem Jgf {l:List (Str×Ty)}(hd:(l.map Prod.fst).Nodup):∀(r:List (Str×Ty)),(∀p∈r,p∈l)->∀(has:List (Str×Bool)) (rk:Str->Nat),Rk l has rk->∃rk',Rk l (roundS r has) rk'
 |[],_,has,rk,h=>⟨rk,by rw[roundS];exact h⟩
 | (n,t)::r,hr,has,rk,h=>by
   rw[roundS]
   have hm:(n,t)∈l:=hr _ (by simp)
   suffices ∃rk',Rk l (sB n (gB n has||endsS (fun x=>gB x has) t 1) has) rk' by
    obtain⟨rk',h'⟩:=this
    exact Jgf hd r (fun p hp=>hr p (List.mem_cons_of_mem _ hp)) _ rk' h'
   by_cases c:gB n has=true
   ·refine⟨rk,fun p hp k9 ht=> ?_⟩
    have key:∀x,gB x (sB n (gB n has||endsS (fun x=>gB x has) t 1) has)=gB x has:=fun x=>by
     rw[Jdy,c,Bool.true_or]
     by_cases e:x=n
     ·rw[if_pos e,e,c]
     ·rw[if_neg e]
    rw[key]at ht⊢
    exact h p hp k9 ht
   have c':gB n has=false:=by simpa using c
   rw[c',Bool.false_or]
   by_cases d:endsS (fun x=>gB x has) t 1=true
   ·rw[d]
    refine⟨fun x=>if x=n then rk t.name+1 else rk x,fun p hp k9 ht=> ?_⟩
    by_cases e:p.1=n
    ·have e2:=Jb2 hd hp hm e
     subst e2
     have d2:=Jb1 d k9
     have e3:¬t.name=n:=fun k=>by rw[k,c']at d2;cases d2
     rw[Jdy,if_neg e3]
     refine⟨d2, ?_⟩
     simp only[e3,if_false,if_true]
     exact Nat.lt_succ_self _
    ·rw[Jdy,if_neg e]at ht
     obtain⟨a,b⟩:=h p hp k9 ht
     have e3:¬p.2.name=n:=fun k=>by rw[k,c']at a;cases a
     rw[Jdy,if_neg e3]
     simp only[e,e3,if_false]
     exact⟨a,b⟩
   ·have d':endsS (fun x=>gB x has) t 1=false:=by simpa using d
    rw[d']
    refine⟨rk,fun p hp k9 ht=> ?_⟩
    have key:∀x,gB x (sB n false has)=gB x has:=fun x=>by
     rw[Jdy]
     by_cases e:x=n
     ·rw[if_pos e,e,c']
     ·rw[if_neg e]
    rw[key]at ht⊢
    exact h p hp k9 ht
theorem Jdz {l:List (Str×Ty)}(hd:(l.map Prod.fst).Nodup):∀(k:Nat) (has:List (Str×Bool)) (rk:Str->Nat),Rk l has rk->∃rk',Rk l (roundsS l k has) rk'
 |0,has,rk,h=>⟨rk,by rw[roundsS];exact h⟩
 | k+1,has,rk,h=>by
   rw[roundsS]
   obtain⟨rk',h'⟩:=Jgf hd l (fun p hp=>hp) has rk h
   exact Jdz hd k _ rk' h'
theorem Jjb {l:List (Str×Ty)}(hd:(l.map Prod.fst).Nodup){p:Str×Ty}(hp:p∈l):defN l p.1=some p.2:=by
 unfold defN
 cases hf:l.find? fun q=>q.1=p.1 with
 | none=>
   have:=List.find?_eq_none.1 hf p hp
   simp at this
 | some q=>
   have h1:=List.mem_of_find?_eq_some hf
   have h2:=List.find?_some hf
   rw[Jb2 hd h1 hp (by simpa using h2)]
   rfl
theorem JmK {l:List (Str×Ty)}{t:Ty}(h:finS l t=true):endsS (fun x=>gB x (roundsS l l.length [])) t 1=true:=by
 unfold finS at h
 split at h
 ·cases h
 split at h
 ·cases h
 exact h
theorem Jgg {l:List (Str×Ty)}(hd:(l.map Prod.fst).Nodup)(h:∀p∈l,finS l p.2=true):∃rk:Str->Nat,∀p∈l,p.2.kind=9->rk p.2.name<rk p.1:=by
 obtain⟨rk,hr⟩:=Jdz hd l.length [] (fun _=>0) (fun p _ _ ht=>by cases ht)
 refine⟨fun x=>if gB x (roundsS l l.length [])then rk x else rk ((defN l x).getD zeroTy).name+1,fun p hp k9=> ?_⟩
 have h2:=Jb1 (JmK (h p hp)) k9
 simp only[h2,if_true]
 by_cases c:gB p.1 (roundsS l l.length [])=true
 ·rw[if_pos c];exact(hr p hp k9 c).2
 ·rw[if_neg c,Jjb hd hp];exact Nat.lt_succ_self _
theorem JaA {α:Type}{p q:α->Bool}(h:∀x,p x=true->q x=true){x:α}(hq:q x=true)(hp:p x=false):∀{l:List α},x∈l->(l.filter p).length<(l.filter q).length
 |[],hx=>by cases hx
 | a::r,hx=>by
   have le:∀l:List α,(l.filter p).length<=(l.filter q).length:=fun l=>by
    induction l with
    |nil=>exact Nat.le_refl _
    | cons b l ih=>
      by_cases c:p b=true
      ·simp[List.filter,c,h b c];exact ih
      ·have c:p b=false:=by simpa using c
       by_cases d:q b=true
       ·simp[List.filter,c,d];omega
       ·have d:q b=false:=by simpa using d
        simp[List.filter,c,d];exact ih
   rcases List.mem_cons.1 hx with rfl|hx
   ·simp[List.filter,hp,hq]
    have:=le r
    omega
   ·have ih:=JaA h hq hp hx
    by_cases c:p a=true
    ·simp[List.filter,c,h a c];omega
    ·have c:p a=false:=by simpa using c
     by_cases d:q a=true
     ·simp[List.filter,c,d];omega
     ·have d:q a=false:=by simpa using d
      simp[List.filter,c,d];omega
theorem Jjc {tb:Tb}{l:List (Str×Ty)}{rk:Str->Nat}(hrk:∀p∈l,p.2.kind=9->rk p.2.name<rk p.1)
  (hn:∀(i:Nat) (n:Nd),tb.nodes[i]? =some n->n.kind=9->∃T j,(n.name,T)∈l/\defI tb n.name=some j/\lookT tb.nodes T=some j):
  ∀(f r i:Nat) (hi:i<tb.nodes.length),(tb.nodes[i].kind=9->rk tb.nodes[i].name<r)->(tb.nodes.filter fun n=>decide (n.kind=9/\rk n.name<r)).length<f->
   ∃j nd,openS tb f i=(j,true)/\tb.nodes[j]? =some nd/\nd.kind≠9
 |0,r,i,hi,h,hf=>absurd hf (Nat.not_lt_zero _)
 | f+1,r,i,hi,h,hf=>by
   by_cases k:tb.nodes[i].kind=9
   ·obtain⟨T,j,h1,h2,h3⟩:=hn i _ (List.getElem?_eq_getElem hi) k
    rw[jT hi k h2]
    obtain⟨ids,hnd,hks⟩:=YW h3
    have hj:=(List.getElem?_eq_some_iff.1 hnd).1
    have hne:=(List.getElem?_eq_some_iff.1 hnd).2
    refine Jjc hrk hn f (rk tb.nodes[i].name) j hj (fun k2=> ?_) ?_
    ·rw[hne]at k2⊢
     exact hrk _ h1 k2
    ·have:(tb.nodes.filter fun n=>decide (n.kind=9/\rk n.name<rk tb.nodes[i].name)).length<(tb.nodes.filter fun n=>decide (n.kind=9/\rk n.name<r)).length:=
      JaA (x:=tb.nodes[i]) (fun x hx=>by
       have hx:=of_decide_eq_true hx
       exact decide_eq_true ⟨hx.1,Nat.lt_trans hx.2 (h k)⟩) (decide_eq_true ⟨k,h k⟩) (decide_eq_false fun hx=>Nat.lt_irrefl _ hx.2) (List.getElem_mem hi)
     omega
   ·rw[Yy hi k]
    exact⟨i,_,rfl,List.getElem?_eq_getElem hi,k⟩
theorem Jb3 {tb:Tb}:∀{f i j:Nat},openS tb f i=(j,true)->openS tb (f+1) i=(j,true)
 |0,i,j,h=>by cases h
 | f+1,i,j,h=>by
   by_cases hi:i<tb.nodes.length
   ·by_cases k:tb.nodes[i].kind=9
    ·cases d:defI tb tb.nodes[i].name with
     |none=>rw[JaN hi k d]at h;cases h
     | some a=>
       rw[jT hi k d]at h⊢
       exact Jb3 h
    ·rw[Yy hi k]at h⊢;exact h
   ·rw[qy (by omega)]at h;cases h
theorem OfSch.add {s:Sch}{tb:Tb}(h:OfSch s tb){X:Ty}(hX:namesIn (hasN s.types) X=true)(he:(addT X 400 tb).2.2.1=0):OfSch s (addT X 400 tb).1/\lookT (addT X 400 tb).1.nodes X=some (addT X 400 tb).2.1:=by
 have i1:=Jgd X (left:=400) (tb:=tb) (by decide) (by decide) hX he h.inv
 obtain⟨r0,e1,e2,e3⟩:=j0 X he
 have g:Grown tb (addT X 400 tb).1:=⟨r0,by rw[e1]⟩
 have a1:(addT X 400 tb).1.named=tb.named:=by rw[e1]
 have a2:(addT X 400 tb).1.sigs=tb.sigs:=by rw[e1]
 have a3:(addT X 400 tb).1.main=tb.main:=by rw[e1]
 refine⟨⟨h.chk,i1,fun p hp=> ?_,h.able,fun f hf=> ?_,fun n hn=> ?_, ?_⟩,e2⟩
 ·obtain⟨j,k1,k2⟩:=h.named p hp
  exact⟨j,by unfold defI;rw[a1];exact k1,g.look k2⟩
 ·obtain⟨ids,k1,k2⟩:=h.sigs f hf
  exact⟨ids,by unfold sigI;rw[a2];exact k1,g.looks k2⟩
 ·unfold sigI;rw[a2];exact h.nosig n hn
 ·rw[a3];exact g.look h.main
theorem Jb4 {l:List (Str×Ty)}{n:Str}(h:hasN l n=true):∃T,(n,T)∈l:=by
 obtain⟨p,hp,e⟩:=List.any_eq_true.1 h
 exact⟨p.2,by rw[<-show p.1=n by simpa using e];exact hp⟩
theorem OfSch.opens {s:Sch}{tb:Tb}(h:OfSch s tb){i:Nat}(hi:i<tb.nodes.length):∃j nd,openS tb (tb.nodes.length+1) i=(j,true)/\tb.nodes[j]? =some nd/\nd.kind≠9:=by
 obtain⟨n1,n2,n3,n4,n5,n6⟩:=Jge h.chk
 obtain⟨rk,hrk⟩:=Jgg n2 n6
 refine Jjc hrk (fun i n hi k=> ?_) _ (rk tb.nodes[i].name+1) i hi (fun _=>Nat.lt_succ_self _) (Nat.lt_succ_of_le (List.length_filter_le _ _))
 obtain⟨T,hT⟩:=Jb4 (h.inv.name i n hi k)
 obtain⟨j,k1,k2⟩:=h.named _ hT
 exact⟨T,j,hT,k1,k2⟩
theorem OfSch.same {s:Sch}{tb:Tb}(h:OfSch s tb){p:Str×Ty}(hp:p∈s.types){a j:Nat}(ha:lookT tb.nodes (.mk 9 p.1 [] [])=some a)(hj:lookT tb.nodes p.2=some j):
  openS tb (tb.nodes.length+1) a=openS tb (tb.nodes.length+1) j:=by
 obtain⟨ids,hnd,_⟩:=YW ha
 have hnd:tb.nodes[a]? =some ⟨9,p.1,[],ids⟩:=hnd
 have hi:=(List.getElem?_eq_some_iff.1 hnd).1
 have hne:=(List.getElem?_eq_some_iff.1 hnd).2
 obtain⟨j',k1,k2⟩:=h.named p hp
 rw[hj]at k2
 injection k2 with k2
 obtain⟨o,nd,h1,_⟩:=h.opens hi
 have h2:openS tb (tb.nodes.length+1) a=openS tb tb.nodes.length j:=jT hi (by rw[hne]) (by rw[hne,k2];exact k1)
 rw[h1,Jb3 (h2.symm.trans h1)]
end Eva
namespace Eva
open Go Go.RowKit
theorem Jb5 :∀a b:List UInt8,(Op.bytesLess a b||decide (a=b))= !Op.bytesLess b a
 |[],[]=>rfl
 |[],_::_=>rfl
 |_::_,[]=>rfl
 | a::x,b::y=>by
   have ih:=Jb5 x y
   simp only[Op.bytesLess]
   by_cases h:a=b
   ·subst h
    have e:¬a<a:=UInt8.lt_irrefl a
    simp only[e,decide_false,Bool.false_or,BEq.rfl,Bool.true_and,List.cons.injEq,true_and]
    exact ih
   ·have h1:(a==b)=false:=by simpa using h
    have h2:(b==a)=false:=by simpa using fun e=>h e.symm
    simp only[h1,h2,Bool.false_and,Bool.or_false,List.cons.injEq,h,false_and,decide_false]
    rcases UInt8.lt_or_lt_of_ne h with c|c
    ·rw[decide_eq_true c,decide_eq_false (UInt8.lt_asymm c)];rfl
    ·rw[decide_eq_true c,decide_eq_false (UInt8.lt_asymm c)];rfl
def ownS (has:Str->Bool)(t:Ty):Int:=
 if t.kind<1\/9<t.kind then 1 else
 if t.kids.length≠kidsS t\/(t.name≠[]/\t.kind≠9)\/(0<t.names.length/\¬(t.kind=7\/t.kind=8))then 12 else
 if t.kind=9/\has t.name=false then 15 else fieldsS t
theorem jI (has:Str->Bool)(k:Int)(n:Str)(ns:List Str)(ks:List Ty)(deep met:Nat):mayS has (.mk k n ns ks) deep met=
  if 400<met+1 then(3,met+1)else if 12<deep then(13,met+1)else
  if ownS has (.mk k n ns ks)≠0 then(ownS has (.mk k n ns ks),met+1)else maysS has ks (deep+1) (met+1):=by
 rw[Ja1]
 have e:ownS has (.mk k n ns ks)=if k<1\/9<k then 1 else if ks.length≠kidsS (.mk k n ns ks)\/(n≠[]/\k≠9)\/(0<ns.length/\¬(k=7\/k=8))then 12 else if k=9/\has n=false then 15 else fieldsS (.mk k n ns ks):=rfl
 rw[e]
 by_cases a:400<met+1
 ·rw[if_pos a,if_pos a]
 rw[if_neg a,if_neg a]
 by_cases b:12<deep
 ·rw[if_pos b,if_pos b]
 rw[if_neg b,if_neg b]
 by_cases c1:k<1\/9<k
 ·rw[if_pos c1,if_pos c1];rfl
 rw[if_neg c1,if_neg c1]
 by_cases c2:ks.length≠kidsS (.mk k n ns ks)\/(n≠[]/\k≠9)\/(0<ns.length/\¬(k=7\/k=8))
 ·rw[if_pos c2,if_pos c2];rfl
 rw[if_neg c2,if_neg c2]
 by_cases c3:k=9/\has n=false
 ·rw[if_pos c3,if_pos c3];rfl
 rw[if_neg c3,if_neg c3]
mutual
def endsR (has:Str->Bool):Ty->Bool
 | .mk k n ns ks=>if k=7 then Yk has ks else if k=8 then Yj has ks else if k=9 then has n else true
def Yj (has:Str->Bool):List Ty->Bool
 |[]=>false
 |t::r=>endsR has t||Yj has r
def Yk (has:Str->Bool):List Ty->Bool
 |[]=>true
 |t::r=>endsR has t&&Yk has r
end
theorem Jgh (has:Str->Bool)(k:Int)(n:Str)(ns:List Str)(ks:List Ty):endsR has (.mk k n ns ks)=if k=7 then Yk has ks else if k=8 then Yj has ks else if k=9 then has n else true:=by rw[endsR]
mutual
def optsR (l:List (Str×Ty)):Ty->Bool
 | .mk k n ns ks=>(if k=6 then decide ((openT l (l.length+1) (ks.headD zeroTy)).kind=6)else false)||optsRs l ks
def optsRs (l:List (Str×Ty)):List Ty->Bool
 |[]=>false
 |t::r=>optsR l t||optsRs l r
end
theorem JmL (l:List (Str×Ty))(k:Int)(n:Str)(ns:List Str)(ks:List Ty):optsR l (.mk k n ns ks)=((if k=6 then decide ((openT l (l.length+1) (ks.headD zeroTy)).kind=6)else false)||optsRs l ks):=by rw[optsR]
mutual
def okO :Ty->Bool
 | .mk k n ns ks=>(decide (k≠6)||decide (0<ks.length))&&okOs ks
def okOs :List Ty->Bool
 |[]=>true
 |t::r=>okO t&&okOs r
end
theorem JrB (k:Int)(n:Str)(ns:List Str)(ks:List Ty):okO (.mk k n ns ks)=((decide (k≠6)||decide (0<ks.length))&&okOs ks):=by rw[okO]
mutual
theorem Jgi (has:Str->Bool):∀(t:Ty) (deep met:Nat),(mayS has t deep met).1=0->okO t=true
 | .mk k n ns ks,deep,met,h=>by
   rw[jI]at h
   split at h
   ·cases h
   split at h
   ·cases h
   split at h
   ·rename_i c;exact absurd h c
   rename_i c
   have c:ownS has (.mk k n ns ks)=0:=by simpa using c
   rw[JrB,JdA has ks _ _ h,Bool.and_true]
   by_cases k6:k=6
   ·have e:ownS has (.mk k n ns ks)=if k<1\/9<k then 1 else if ks.length≠kidsS (.mk k n ns ks)\/(n≠[]/\k≠9)\/(0<ns.length/\¬(k=7\/k=8))then 12 else if k=9/\has n=false then 15 else fieldsS (.mk k n ns ks):=rfl
    rw[e,if_neg (by omega)]at c
    by_cases c2:ks.length≠kidsS (.mk k n ns ks)\/(n≠[]/\k≠9)\/(0<ns.length/\¬(k=7\/k=8))
    ·rw[if_pos c2]at c;cases c
    have:ks.length=kidsS (.mk k n ns ks):=Classical.byContradiction fun h=>c2 (.inl h)
    have e:kidsS (.mk k n ns ks)=1:=by unfold kidsS;exact if_pos (.inr (.inr k6))
    rw[Bool.or_eq_true]
    exact .inr (decide_eq_true (by omega))
   ·rw[Bool.or_eq_true]
    exact .inl (decide_eq_true k6)
theorem JdA (has:Str->Bool):∀(l:List Ty) (deep met:Nat),(maysS has l deep met).1=0->okOs l=true
 |[],_,_,_=>by rw[okOs]
 | t::r,deep,met,h=>by
   rw[Q1]at h
   split at h
   ·rename_i c;exact absurd h c
   rename_i c
   rw[okOs,Jgi has t deep met (by simpa using c),JdA has r _ _ h]
   rfl
end
end Eva
namespace Eva
open Go Go.RowKit
theorem JmM (has:Str->Bool)(k:Int)(n:Str)(ns:List Str)(ks:List Ty)(deep:Nat):endsS has (.mk k n ns ks) deep=if 12<deep then false else if k=9 then has n else if k=8 then endsAny has ks (deep+1)else if k=7 then endsAll has ks (deep+1)else true:=by rw[endsS]
mutual
theorem JmN (has h:Str->Bool):∀(t:Ty) (d m:Nat),(mayS h t d m).1=0->endsS has t d=endsR has t
 | .mk k n ns ks,d,m,e=>by
   rw[jI]at e
   by_cases c1:400<m+1
   ·rw[if_pos c1]at e;cases e
   rw[if_neg c1]at e
   by_cases c2:12<d
   ·rw[if_pos c2]at e;cases e
   rw[if_neg c2]at e
   by_cases c3:ownS h (.mk k n ns ks)≠0
   ·rw[if_pos c3]at e;exact absurd e c3
   rw[if_neg c3]at e
   obtain⟨i1,i2⟩:=JdB has h ks (d+1) (m+1) e
   rw[JmM,Jgh,if_neg c2,i1,i2]
   by_cases k9:k=9
   ·subst k9;rfl
   by_cases k8:k=8
   ·subst k8;rfl
   by_cases k7:k=7
   ·subst k7;rfl
   rw[if_neg k9,if_neg k8,if_neg k7,if_neg k7,if_neg k8,if_neg k9]
theorem JdB (has h:Str->Bool):∀(ts:List Ty) (d m:Nat),(maysS h ts d m).1=0->endsAny has ts d=Yj has ts/\endsAll has ts d=Yk has ts
 |[],d,m,e=>⟨by rw[endsAny,Yj],by rw[endsAll,Yk]⟩
 | t::r,d,m,e=>by
   rw[Q1]at e
   split at e
   ·rename_i c;exact absurd e c
   rename_i c
   have c:(mayS h t d m).1=0:=by simpa using c
   obtain⟨i1,i2⟩:=JdB has h r _ _ e
   rw[endsAny,Yj,endsAll,Yk,JmN has h t d m c,i1,i2]
   exact⟨rfl,rfl⟩
end
mutual
theorem Jhq {p q:Str->Bool}(h:∀x,p x=true->q x=true):∀(t:Ty),endsR p t=true->endsR q t=true
 | .mk k n ns ks,e=>by
   rw[Jgh]at e⊢
   obtain⟨i1,i2⟩:=JaS h ks
   split
   ·rename_i c;rw[if_pos c]at e;exact i2 e
   rename_i c;rw[if_neg c]at e
   split
   ·rename_i c;rw[if_pos c]at e;exact i1 e
   rename_i c;rw[if_neg c]at e
   split
   ·rename_i c;rw[if_pos c]at e;exact h _ e
   ·rfl
theorem JaS {p q:Str->Bool}(h:∀x,p x=true->q x=true):∀(ts:List Ty),(Yj p ts=true->Yj q ts=true)/\(Yk p ts=true->Yk q ts=true)
 |[]=>⟨fun e=>(by rw[Yj]at e;cases e),fun _=>(by rw[Yk])⟩
 | t::r=>by
   obtain⟨i1,i2⟩:=JaS h r
   have i3:=Jhq h t
   rw[Yj,Yj,Yk,Yk,Bool.or_eq_true,Bool.or_eq_true,Bool.and_eq_true,Bool.and_eq_true]
   exact⟨fun e=>e.elim (fun a=> .inl (i3 a)) fun b=> .inr (i1 b),fun e=>⟨i3 e.1,i2 e.2⟩⟩
end
end Eva
namespace Eva
open Go Go.RowKit
mutual
theorem JoS (has:Str->Bool)(k:Nat):∀(t:Ty) (d m:Nat),(mayS has t d (m+k)).1=0->(mayS has t d m).1=0/\(mayS has t d (m+k)).2=(mayS has t d m).2+k
 | .mk kd n ns ks,d,m,e=>by
   rw[jI]at e⊢
   rw[jI]
   by_cases c1:400<m+k+1
   ·rw[if_pos c1]at e;cases e
   rw[if_neg c1]at e⊢
   rw[if_neg (show¬400<m+1 by omega)]
   by_cases c2:12<d
   ·rw[if_pos c2]at e;cases e
   rw[if_neg c2]at e⊢
   rw[if_neg c2]
   by_cases c3:ownS has (.mk kd n ns ks)≠0
   ·rw[if_pos c3]at e;exact absurd e c3
   rw[if_neg c3]at e⊢
   rw[if_neg c3]
   rw[show m+k+1=m+1+k by omega]at e⊢
   exact Jgj has k ks (d+1) (m+1) e
theorem Jgj (has:Str->Bool)(k:Nat):∀(ts:List Ty) (d m:Nat),(maysS has ts d (m+k)).1=0->(maysS has ts d m).1=0/\(maysS has ts d (m+k)).2=(maysS has ts d m).2+k
 |[],d,m,e=>by rw[jU,jU];exact⟨rfl,rfl⟩
 | t::r,d,m,e=>by
   rw[Q1]at e
   rw[Q1 has t r d m,Q1 has t r d (m+k)]
   by_cases c:(mayS has t d (m+k)).1=0
   ·obtain⟨i1,i2⟩:=JoS has k t d m c
    rw[if_neg (fun h=>h c)]at e
    rw[if_neg (fun h=>h i1),if_neg (fun h=>h c)]
    rw[i2]at e⊢
    exact Jgj has k r d _ e
   ·rw[if_pos c]at e;exact absurd e c
end
theorem qA (l:List (Str×Ty))(t:Ty)(h:t.kind≠9):∀k,openT l k t=t
 |0=>rfl
 |k+1=>by rw[ki,if_neg h,qA l t h k]
theorem Jgk {l:List (Str×Ty)}{rk:Str->Nat}(hd:(l.map Prod.fst).Nodup)(hrk:∀p∈l,p.2.kind=9->rk p.2.name<rk p.1)(hn:∀p∈l,p.2.kind=9->∃q∈l,q.1=p.2.name):
  ∀(f r:Nat) (t:Ty),(t.kind=9->∃p∈l,p.1=t.name/\rk p.1<r)->(l.filter fun p=>decide (rk p.1<r)).length<=f->(openT l f t).kind≠9
 | 0,r,t,ht,hf=>by
   rw[openT]
   intro k9
   obtain⟨p,h1,h2,h3⟩:=ht k9
   have:p∈l.filter fun p=>decide (rk p.1<r):=List.mem_filter.2 ⟨h1,decide_eq_true h3⟩
   rw[List.eq_nil_of_length_eq_zero (Nat.le_zero.1 hf)]at this
   cases this
 | f+1,r,t,ht,hf=>by
   by_cases k9:t.kind=9
   ·obtain⟨p,h1,h2,h3⟩:=ht k9
    rw[ki,if_pos k9,<-h2,Jjb hd h1]
    show(openT l f p.2).kind≠9
    refine Jgk hd hrk hn f (rk p.1) p.2 (fun k=> ?_) ?_
    ·obtain⟨q,q1,q2⟩:=hn p h1 k
     exact⟨q,q1,q2,by rw[q2];exact hrk p h1 k⟩
    ·have:(l.filter fun q=>decide (rk q.1<rk p.1)).length<(l.filter fun p=>decide (rk p.1<r)).length:=
      JaA (p:=fun q=>decide (rk q.1<rk p.1)) (q:=fun p=>decide (rk p.1<r)) (x:=p) (fun x hx=>decide_eq_true (Nat.lt_trans (of_decide_eq_true hx) h3)) (decide_eq_true h3) (decide_eq_false (Nat.lt_irrefl _)) h1
     omega
   ·rw[qA l t k9];exact k9
theorem Jhr (l:List (Str×Ty))(t:Ty){i:Nat}(h:(openT l i t).kind≠9):openT l (i+1) t=openT l i t:=by
 rw[JbR,if_neg h]
structure Ends (l:List (Str×Ty)):Prop where
 nd:(l.map Prod.fst).Nodup
 may:(maysS (hasN l) (l.map Prod.snd) 1 0).1=0
 fin:∀p∈l,finS l p.2=true
theorem Ends.opens {l:List (Str×Ty)}(h:Ends l){t:Ty}(ht:t.kind=9->hasN l t.name=true):(openT l l.length t).kind≠9:=by
 obtain⟨rk,hrk⟩:=Jgg h.nd h.fin
 have closed:∀p∈l,p.2.kind=9->∃q∈l,q.1=p.2.name:=fun p hp k=>by
  have:=jn (kz _ _ _ _ h.may) p.2 (List.mem_map.2 ⟨p,hp,rfl⟩)
  generalize p.2=T at this k⊢
  obtain⟨k',n,ns,ks⟩:=T
  have k:k'=9:=k
  rw[namesIn,Bool.and_eq_true,Bool.or_eq_true]at this
  rcases this.1 with h|h
  ·exact absurd k (of_decide_eq_true h)
  ·obtain⟨T,hT⟩:=Jb4 h
   exact⟨_,hT,rfl⟩
 by_cases k9:t.kind=9
 ·obtain⟨T,hT⟩:=Jb4 (ht k9)
  exact Jgk h.nd hrk closed l.length (rk t.name+1) t (fun _=>⟨_,hT,rfl,Nat.lt_succ_self _⟩) (List.length_filter_le _ _)
 ·rw[qA l t k9];exact k9
mutual
theorem JoT {l:List (Str×Ty)}(h:Ends l):∀(t:Ty) (d m:Nat),(mayS (hasN l) t d m).1=0->optsS l t=optsR l t
 | .mk k n ns ks,d,m,e=>by
   have hni:=Jaz _ _ _ _ e
   have hok:=Jgi _ _ _ _ e
   rw[jI]at e
   by_cases c1:400<m+1
   ·rw[if_pos c1]at e;cases e
   rw[if_neg c1]at e
   by_cases c2:12<d
   ·rw[if_pos c2]at e;cases e
   rw[if_neg c2]at e
   by_cases c3:ownS (hasN l) (.mk k n ns ks)≠0
   ·rw[if_pos c3]at e;exact absurd e c3
   rw[if_neg c3]at e
   have c3:ownS (hasN l) (.mk k n ns ks)=0:=by simpa using c3
   rw[Jmf,JmL,Jgl h ks (d+1) (m+1) e]
   by_cases k6:k=6
   ·have hk1:ks.length=1:=by
     unfold ownS at c3
     split at c3
     ·cases c3
     split at c3
     ·cases c3
     rename_i c
     have:ks.length=kidsS (.mk k n ns ks):=Classical.byContradiction fun h=>c (.inl h)
     rw[this];unfold kidsS;exact if_pos (.inr (.inr k6))
    rw[if_pos ⟨k6,hk1⟩,if_pos k6]
    obtain⟨c,rfl⟩:∃c,ks=[c]:=by
     match ks,hk1 with
     |[c],_=>exact⟨c,rfl⟩
    rw[namesIn,Bool.and_eq_true]at hni
    have hc:=jn hni.2 c (by simp)
    have:(openT l l.length c).kind≠9:=h.opens fun k9=>by
     obtain⟨k',n',ns',ks'⟩:=c
     have k9:k'=9:=k9
     rw[namesIn,Bool.and_eq_true,Bool.or_eq_true]at hc
     rcases hc.1 with h|h
     ·exact absurd k9 (of_decide_eq_true h)
     ·exact h
    rw[List.headD_cons,Jhr l c this]
   ·rw[if_neg (fun h=>k6 h.1),if_neg k6]
theorem Jgl {l:List (Str×Ty)}(h:Ends l):∀(ts:List Ty) (d m:Nat),(maysS (hasN l) ts d m).1=0->optssS l ts=optsRs l ts
 |[],d,m,e=>by rw[optssS,optsRs]
 | t::r,d,m,e=>by
   rw[Q1]at e
   by_cases c:(mayS (hasN l) t d m).1=0
   ·rw[if_neg (fun h=>h c)]at e
    rw[optssS,optsRs,JoT h t d m c,Jgl h r d _ e]
   ·rw[if_pos c]at e;exact absurd e c
end
end Eva
namespace Eva
open Go Go.RowKit
theorem JdC (n:Str):∀(l:List Str) (h:placeS n l<l.length),Op.bytesLess l[placeS n l] n=false
 |[],h=>absurd h (by simp)
 | a::r,h=>by
   by_cases c:Op.bytesLess a n=true
   ·have e:placeS n (a::r)=placeS n r+1:=by rw[placeS,if_pos c]
    have h2:placeS n r<r.length:=by rw[e]at h;simpa using h
    simp only[e,List.getElem_cons_succ]
    exact JdC n r h2
   ·have e:placeS n (a::r)=0:=by rw[placeS,if_neg c]
    simp only[e,List.getElem_cons_zero]
    simpa using c
def Sorted (l:List Str):Prop:=l.Pairwise fun a b=>Op.bytesLess a b=true
theorem Jej {n:Str}{l:List Str}(hs:Sorted l)(hn:l[placeS n l]?≠some n):Sorted (l.take (placeS n l)++n::l.drop (placeS n l)):=by
 unfold Sorted
 rw[List.pairwise_append,List.pairwise_cons]
 have h1:∀a∈l.take (placeS n l),Op.bytesLess a n=true:=fun a ha=>by
  obtain⟨i,hi,e⟩:=List.getElem_of_mem ha
  rw[List.getElem_take]at e
  rw[List.length_take]at hi
  rw[<-e]
  exact Jdp n l i (by omega) (by omega)
 have h2:∀b∈l.drop (placeS n l),Op.bytesLess n b=true:=fun b hb=>by
  by_cases hp:placeS n l<l.length
  ·have hd:=List.drop_eq_getElem_cons hp
   have hfirst:Op.bytesLess n l[placeS n l]=true:=by
    have:=Jb5 l[placeS n l] n
    rw[JdC n l hp]at this
    rw[List.getElem?_eq_getElem hp]at hn
    have hne:¬l[placeS n l]=n:=fun e=>hn (by rw[e])
    rw[decide_eq_false hne]at this
    simpa using this.symm
   have hs2:=hs.sublist (List.drop_sublist (placeS n l) l)
   rw[hd,List.pairwise_cons]at hs2
   rw[hd]at hb
   rcases List.mem_cons.1 hb with rfl|hb
   ·exact hfirst
   ·exact kw hfirst (hs2.1 b hb)
  ·rw[List.drop_eq_nil_of_le (by omega)]at hb;cases hb
 refine⟨hs.sublist (List.take_sublist _ _),⟨h2,hs.sublist (List.drop_sublist _ _)⟩,fun a ha b hb=> ?_⟩
 rcases List.mem_cons.1 hb with rfl|hb
 ·exact h1 a ha
 ·exact kw (h1 a ha) (h2 b hb)
structure PutI (k:Int) (G:Ty->Prop) (i:Nat) (t:Ty):Prop where
 kind:t.kind=k
 name:t.name=[]
 len:t.names.length=t.kids.length
 few:t.names.length<=i
 pos:0<i->0<t.names.length
 sorted:Sorted t.names
 ident:∀n∈t.names,identB n=true
 kids:∀x∈t.kids,G x
theorem PutI.put {k:Int}{G:Ty->Prop}{i:Nat}{t:Ty}(h:PutI k G i t){n:Str}{x:Ty}(hn:identB n=true)(hx:G x):PutI k G (i+1) (putS t n x):=by
 have hf:=h.few
 have hl:=h.len
 unfold putS
 have hple:=Jdo n t.names
 by_cases c:t.names[placeS n t.names]? =some n
 ·rw[if_pos c]
  refine⟨h.kind,h.name,h.len,by omega,fun _=> ?_,h.sorted,h.ident,h.kids⟩
  have:=(List.getElem?_eq_some_iff.1 c).1
  omega
 ·rw[if_neg c]
  refine⟨h.kind,h.name, ?_, ?_,fun _=> ?_, ?_,fun m hm=> ?_,fun y hy=> ?_⟩
  ·show(t.names.take _++n::t.names.drop _).length=(t.kids.take _++x::t.kids.drop _).length
   simp only[List.length_append,List.length_cons,List.length_take,List.length_drop]
   omega
  ·show(t.names.take _++n::t.names.drop _).length<=i+1
   simp only[List.length_append,List.length_cons,List.length_take,List.length_drop]
   omega
  ·show 0<(t.names.take _++n::t.names.drop _).length
   simp only[List.length_append,List.length_cons]
   omega
  ·exact Jej h.sorted c
  ·have hm:m∈t.names.take (placeS n t.names)++n::t.names.drop (placeS n t.names):=hm
   rcases List.mem_append.1 hm with hm|hm
   ·exact h.ident m (List.mem_of_mem_take hm)
   ·rcases List.mem_cons.1 hm with rfl|hm
    ·exact hn
    ·exact h.ident m (List.mem_of_mem_drop hm)
  ·have hy:y∈t.kids.take (placeS n t.names)++x::t.kids.drop (placeS n t.names):=hy
   rcases List.mem_append.1 hy with hy|hy
   ·exact h.kids y (List.mem_of_mem_take hy)
   ·rcases List.mem_cons.1 hy with rfl|hy
    ·exact hx
    ·exact h.kids y (List.mem_of_mem_drop hy)
end Eva
namespace Eva
open Go Go.RowKit
mutual
def fitT :Ty->Bool
 | .mk _ _ ns ks=>decide (ns.length<=8)&&decide (ks.length<=8)&&fitTs ks
def fitTs :List Ty->Bool
 |[]=>true
 |t::r=>fitT t&&fitTs r
end
mutual
theorem Jgm :∀(t:Ty) {left:Int} {tb:Tb},(addT t left tb).2.2.1=0->fitT t=true
 | .mk k n ns ks,left,tb,h=>by
   rw[Yv]at h
   by_cases c:left-1<0\/8<ks.length\/8<ns.length
   ·rw[if_pos c]at h;cases h
   rw[if_neg c]at h
   cases he:addTs ks (left-1) tb with
   |mk t1 x=>
   obtain⟨ids,e,l1⟩:=x
   rw[he]at h
   by_cases e0:e=0
   ·have e1:(addTs ks (left-1) tb).2.2.1=0:=by rw[he];exact e0
    rw[fitT,JdD ks e1,decide_eq_true (by omega),decide_eq_true (by omega)];rfl
   ·have h:(if e≠0 then(t1,0,e,l1)else((layS t1 ⟨k,n,ns,ids⟩).1,(layS t1 ⟨k,n,ns,ids⟩).2.1,(layS t1 ⟨k,n,ns,ids⟩).2.2,l1):Tb×Nat×Int×Int).2.2.1=0:=h
    rw[if_pos e0]at h;exact absurd h e0
theorem JdD :∀(ts:List Ty) {left:Int} {tb:Tb},(addTs ts left tb).2.2.1=0->fitTs ts=true
 |[],_,_,_=>by rw[fitTs]
 | t::r,left,tb,h=>by
   rw[QS]at h
   cases he:addT t left tb with
   |mk t1 x=>
   obtain⟨i,e,l1⟩:=x
   rw[he]at h
   by_cases e0:e=0
   ·have e1:(addT t left tb).2.2.1=0:=by rw[he];exact e0
    subst e0
    have h:(addTs r l1 t1).2.2.1=0:=h
    rw[fitTs,Jgm t e1,JdD r h];rfl
   ·have h:(if e≠0 then(t1,[],e,l1)else((addTs r l1 t1).1,i::(addTs r l1 t1).2.1,(addTs r l1 t1).2.2.1,(addTs r l1 t1).2.2.2):Tb×List Nat×Int×Int).2.2.1=0:=h
    rw[if_pos e0]at h;exact absurd h e0
end
theorem Able.fit {X:Ty}(h:Able X):fitT X=true:=by
 obtain⟨_,_,_,h⟩:=h
 exact Jgm X h
theorem jo {nodes:List Nd}{t:Ty}{r:List Ty}{l:List Nat}(h:looksT nodes (t::r)=some l):∃a b,l=a::b/\lookT nodes t=some a/\looksT nodes r=some b:=by
 rw[looksT]at h
 cases c1:lookT nodes t with
 |none=>rw[c1]at h;cases h
 | some a=>
   cases c2:looksT nodes r with
   |none=>rw[c1,c2]at h;cases h
   | some b=>
     rw[c1,c2]at h
     injection h with h
     exact⟨a,b,h.symm,rfl,rfl⟩
mutual
theorem Jgn {nodes:List Nd}:∀{X Y:Ty} {i:Nat},lookT nodes X=some i->lookT nodes Y=some i->X=Y
 | .mk k n ns ks, .mk k' n' ns' ks',i,h,h'=>by
   obtain⟨ids,a1,a2⟩:=YW h
   obtain⟨ids',b1,b2⟩:=YW h'
   rw[a1]at b1
   injection b1 with b1
   injection b1 with e1 e2 e3 e4
   have a2:looksT nodes ks=some ids:=a2
   have b2:looksT nodes ks'=some ids':=b2
   rw[<-e4]at b2
   have:=JdE a2 b2
   rw[this]
   have e1:k=k':=e1
   have e2:n=n':=e2
   have e3:ns=ns':=e3
   rw[e1,e2,e3]
theorem JdE {nodes:List Nd}:∀{X Y:List Ty} {i:List Nat},looksT nodes X=some i->looksT nodes Y=some i->X=Y
 |[],[],i,h,h'=>rfl
 | [],y::r,i,h,h'=>by
   obtain⟨a,b,rfl,_,_⟩:=jo h'
   cases h
 | x::l,[],i,h,h'=>by
   obtain⟨a,b,rfl,_,_⟩:=jo h
   cases h'
 | x::l,y::r,i,h,h'=>by
   obtain⟨a,b,rfl,c1,c2⟩:=jo h
   obtain⟨a',b',e,d1,d2⟩:=jo h'
   injection e with e1 e2
   rw[e1]at c1
   rw[e2]at c2
   rw[Jgn c1 d1,JdE c2 d2]
end
end Eva
namespace Eva
open Go Go.RowKit
structure RT (Sb S:St) (ru:Pt) (lv tv:V) (rest:List V) (O:Pt->Prop) (nodes:List Nd) (trees:List Ty):Prop where
 g:Gr Sb S
 ru0:Sb.row ru= .none
 cell:∃t,S.row ru= .cells t (lv::tv::rest)
 l:∃es,SlF Sb S lv 4 es/\es.length=nodes.length/\∀i (h:i<es.length) (h':i<nodes.length),NdC O S es[i] nodes[i]
 t:∃es,SlF Sb S tv 4 es/\es.length=trees.length/\∀i (h:i<es.length) (h':i<trees.length),TyC (fun r=>Sb.row r≠ .none) S es[i] trees[i]
 apl:∀r,rowOf lv=some r->rowOf tv≠some r/\r≠ru
 apt:∀r,rowOf tv=some r->r≠ru
 o:∀r,O r->S.row r≠ .none/\Sb.row r= .none/\r≠ru/\rowOf lv≠some r/\rowOf tv≠some r
def Bt (ru:Pt)(lv tv:V)(O:Pt->Prop)(r:Pt):Prop:=r=ru\/rowOf lv=some r\/rowOf tv=some r\/O r
structure Kp (B B':Pt->Prop) (st S:St):Prop where
 same:∀r,st.row r≠ .none->¬B r->S.row r=st.row r
 sub:∀r,B' r->B r\/st.row r= .none
theorem Kp.refl (B:Pt->Prop)(st:St):Kp B B st st:=⟨fun _ _ _=>rfl,fun _ h=> .inl h⟩
theorem Kp.gr {B:Pt->Prop}{st S:St}(g:Gr st S):Kp B B st S:=⟨fun r e _=>g.same r e,fun _ h=> .inl h⟩
theorem Kp.dead {B B':Pt->Prop}{st S:St}(h:Kp B B' st S){r:Pt}(e:S.row r= .none):B r\/st.row r= .none:=by
 by_cases b:B r
 ·exact .inl b
 ·exact .inr (Classical.byContradiction fun n=>n ((h.same r n b)▸e))
theorem Kp.trans {B B' B'':Pt->Prop}{st S S':St}(h:Kp B B' st S)(k:Kp B' B'' S S'):Kp B B'' st S':=by
 refine⟨fun r e b=> ?_,fun r e=> ?_⟩
 ·have a:=h.same r e b
  rw[k.same r (by rw[a];exact e) fun x=>(h.sub r x).elim b e,a]
 ·rcases k.sub r e with x|x
  ·exact h.sub r x
  ·exact h.dead x
section
variable {Sb st S S' : St} {ru : Pt} {lv tv lv' tv' lv'' tv'' : V} {rest : List V} {O O' O'' : Pt -> Prop} {nodes : List Nd} {trees : List Ty}
theorem RT.keep (h:RT Sb S ru lv tv rest O nodes trees)(g:Gr Sb S')(k:∀r,r=ru\/rowOf lv=some r\/rowOf tv=some r\/O r->S'.row r=S.row r):RT Sb S' ru lv tv rest O nodes trees:=by
 obtain⟨es,l1,l2,l3⟩:=h.l
 obtain⟨ts,t1,t2,t3⟩:=h.t
 obtain⟨t,c⟩:=h.cell
 refine⟨g,h.ru0,⟨t,by rw[k ru (.inl rfl),c]⟩,⟨es,l1.keep fun r e=>k r (.inr (.inl e)),l2,fun i a b=>(l3 i a b).imp fun r p _=>⟨p,k r (.inr (.inr (.inr p)))⟩⟩,⟨ts,t1.keep fun r e=>k r (.inr (.inr (.inl e))),t2,fun i a b=>(t3 i a b).imp fun r p _=>⟨p,by rw[g.same r p,h.g.same r p]⟩⟩,h.apl,h.apt,fun r p=> ?_⟩
 obtain⟨a,b⟩:=h.o r p
 exact⟨by rw[k r (.inr (.inr (.inr p)))];exact a,b⟩
theorem RT.alive (h:RT Sb S ru lv tv rest O nodes trees):∀r,r=ru\/rowOf lv=some r\/rowOf tv=some r\/O r->S.row r≠ .none:=fun r e=>by
 obtain⟨es,l1,_⟩:=h.l
 obtain⟨ts,t1,_⟩:=h.t
 obtain⟨t,c⟩:=h.cell
 rcases e with rfl|e|e|e
 ·exact Jh c
 ·exact l1.some e
 ·exact t1.some e
 ·exact(h.o r e).1
theorem RT.gr (h:RT Sb S ru lv tv rest O nodes trees)(g:Gr S S'):RT Sb S' ru lv tv rest O nodes trees:=h.keep (h.g.trans g) fun r e=>g.same r (h.alive r e)
end
structure TreesOf (nodes:List Nd) (trees:List Ty):Prop where
 len:trees.length=nodes.length
 look:∀i (h:i<trees.length),lookT nodes trees[i]=some i
 fit:∀t∈trees,fitT t=true
 few:nodes.length<=120
theorem TreesOf.nil :TreesOf [] []:=⟨rfl,fun i h=>absurd h (by simp),fun t h=>(nomatch h),Nat.zero_le _⟩
theorem TreesOf.at {nodes:List Nd}{trees:List Ty}(h:TreesOf nodes trees){X:Ty}{i:Nat}(hi:i<trees.length):trees[i]=X<->lookT nodes X=some i:=by
 constructor
 ·intro e;rw[<-e];exact h.look i hi
 ·intro e;exact Jgn (h.look i hi) e
theorem TreesOf.snoc {nodes:List Nd}{trees:List Ty}(h:TreesOf nodes trees){k:Int}{n:Str}{ns:List Str}{ks:List Ty}{ids:List Nat}(hk:looksT nodes ks=some ids)(hn:idx ⟨k,n,ns,ids⟩ nodes 0=none)(hf:fitT (.mk k n ns ks)=true)(hl:nodes.length<120):TreesOf (nodes++[⟨k,n,ns,ids⟩]) (trees++[.mk k n ns ks]):=by
 refine⟨by simp[h.len],fun i hi=> ?_,fun t ht=> ?_,by simp;omega⟩
 ·by_cases e:i<trees.length
  ·rw[List.getElem_append_left e]
   exact Y2 _ (h.look i e)
  ·have e2:i=trees.length:=by simp at hi;omega
   subst e2
   rw[List.getElem_append_right (Nat.le_refl _)]
   simp only[Nat.sub_self,List.getElem_cons_zero]
   rw[lookT,kY _ hk]
   simp only
   rw[Jee hn,Nat.zero_add,h.len]
 ·rcases List.mem_append.1 ht with ht|ht
  ·exact h.fit t ht
  ·rw[List.mem_singleton.1 ht];exact hf
end Eva
namespace Eva
open Go Go.RowKit
def Own5 (S:St)(B W:Pt->Prop):Prop:=∀r,W r->S.row r≠ .none/\¬B r
section
variable {Sb st S S' : St} {ru : Pt} {lv tv lv' tv' lv'' tv'' : V} {rest : List V} {O O' O'' W W' B B' B'' : Pt -> Prop} {nodes : List Nd} {trees : List Ty}
theorem Own5.kp (h:Own5 S B W)(k:Kp B B' S S'):Own5 S' B' W/\∀r,W r->S'.row r=S.row r:=by
 have e:∀r,W r->S'.row r=S.row r:=fun r w=>k.same r (h r w).1 (h r w).2
 exact⟨fun r w=>⟨by rw[e r w];exact(h r w).1,fun x=>(k.sub r x).elim (h r w).2 (h r w).1⟩,e⟩
theorem RT.own (h:RT Sb S ru lv tv rest O nodes trees)(o:Own5 S (Bt ru lv tv O) W)(g:Gr Sb S')(k:∀r,S.row r≠ .none->¬W r->S'.row r=S.row r):RT Sb S' ru lv tv rest O nodes trees:=
 h.keep g fun r e=>k r (h.alive r e) fun w=>(o r w).2 e
theorem Kp.own (h:Kp B B' st S)(hW:∀r,W r->B r\/st.row r= .none)(k:∀r,S.row r≠ .none->¬W r->S'.row r=S.row r):Kp B B' st S':=
 ⟨fun r e b=>by rw[k r (by rw[h.same r e b];exact e) fun w=>(hW r w).elim b e,h.same r e b],h.sub⟩
theorem SlF.mine {v:V}{z:Nat}{es:List (List V)}(h:SlF st S v z es):SlAt (fun r=>rowOf v=Option.some r) S v z es:=by
 have a:=h.at
 refine⟨a.1, ?_⟩
 rcases h.2 with h2|⟨r,t,h2,h3,h4⟩
 ·exact .inl h2
 ·have hr:rowOf v=Option.some r:=by rcases h4 with rfl|rfl<;>rfl
  rcases a.2 with b|⟨q,o,b1,b2,b3⟩
  ·exact .inl b
  ·refine .inr ⟨q,o, ?_,b2,b3⟩
   rcases b2 with rfl|⟨c,_,rfl⟩<;>rfl
structure Mid5 (Sb st S:St) (ru p3 p6:Pt) (lv tv lv' tv':V) (rest:List V) (O O':Pt->Prop) (nodes:List Nd) (trees:List Ty) (c3 c6:List V) (v1 kv:V) (ns:List Str) (ids:List Nat):Prop where
 rt:RT Sb S ru lv' tv' rest O' nodes trees
 kp:Kp (Bt ru lv tv O) (Bt ru lv' tv' O') st S
 own:Own5 S (Bt ru lv' tv' O') fun r=>r=p3\/r=p6\/rowOf v1=Option.some r\/rowOf kv=Option.some r
 r3:∃t,S.row p3= .cells t c3
 r6:∃t,S.row p6= .cells t (c6++[v1,kv])
 nm:SlF Sb S v1 1 (strs ns)
 kd:SlF Sb S kv 1 (ints ids)
 fs:∀r,rowOf v1=Option.some r\/rowOf kv=Option.some r->Bt ru lv tv O r\/st.row r= .none
 apk:∀r,rowOf kv=Option.some r->r≠p3/\r≠p6/\rowOf v1≠Option.some r
 ap1:∀r,rowOf v1=Option.some r->r≠p3/\r≠p6
 ap6:p3≠p6
 f3:st.row p3= .none
 f6:st.row p6= .none
section
variable {p3 p6 : Pt} {c3 c6 : List V} {v1 kv kv' : V} {ns : List Str} {ids : List Nat} {nodes' : List Nd} {trees' : List Ty}
theorem Mid5.call (h:Mid5 Sb st S ru p3 p6 lv tv lv' tv' rest O O' nodes trees c3 c6 v1 kv ns ids)(r:RT Sb S' ru lv'' tv'' rest O'' nodes' trees')(k:Kp (Bt ru lv' tv' O') (Bt ru lv'' tv'' O'') S S'):
  Mid5 Sb st S' ru p3 p6 lv tv lv'' tv'' rest O O'' nodes' trees' c3 c6 v1 kv ns ids:=by
 obtain⟨o,e⟩:=h.own.kp k
 obtain⟨t3,r3⟩:=h.r3
 obtain⟨t6,r6⟩:=h.r6
 exact{h with rt:=r,kp:=h.kp.trans k,own:=o,r3:=⟨t3,by rw[e _ (.inl rfl),r3]⟩,r6:=⟨t6,by rw[e _ (.inr (.inl rfl)),r6]⟩,nm:=h.nm.keep fun r a=>e r (.inr (.inr (.inl a))),kd:=h.kd.keep fun r a=>e r (.inr (.inr (.inr a)))}
theorem Mid5.gr (h:Mid5 Sb st S ru p3 p6 lv tv lv' tv' rest O O' nodes trees c3 c6 v1 kv ns ids)(g:Gr S S'):Mid5 Sb st S' ru p3 p6 lv tv lv' tv' rest O O' nodes trees c3 c6 v1 kv ns ids:=
 h.call (h.rt.gr g) (Kp.gr g)
theorem Mid5.push {S1 S2:St}(h:Mid5 Sb st S ru p3 p6 lv tv lv' tv' rest O O' nodes trees c3 c6 v1 kv ns ids){id:Nat}
  (hk:SlF Sb S1 kv' 1 (ints (ids++[id]))) (hr:rowOf kv'=Option.some S.nx) (k1:∀r,S.row r≠ .none->rowOf kv≠Option.some r->S1.row r=S.row r) (k2:∀r,r≠p6->S2.row r=S1.row r)
  (h6:∃t,S2.row p6= .cells t (c6++[v1,kv'])) (g:Gr Sb S2):Mid5 Sb st S2 ru p3 p6 lv tv lv' tv' rest O O' nodes trees c3 c6 v1 kv' ns (ids++[id]):=by
 have n6:S.nx≠p6:=fun e=>by
  obtain⟨t,r⟩:=h.r6
  have:=Yu h.rt.g.wf
  rw[e,r]at this;cases this
 have n3:S.nx≠p3:=fun e=>by
  obtain⟨t,r⟩:=h.r3
  have:=Yu h.rt.g.wf
  rw[e,r]at this;cases this
 have dead:S.row S.nx= .none:=Yu h.rt.g.wf
 have k:∀r,S.row r≠ .none->¬(r=p3\/r=p6\/rowOf v1=Option.some r\/rowOf kv=Option.some r)->S2.row r=S.row r:=fun r e n=>by
  rw[k2 r fun x=>n (.inr (.inl x)),k1 r e fun x=>n (.inr (.inr (.inr x)))]
 have w:∀r,(r=p3\/r=p6\/rowOf v1=Option.some r\/rowOf kv=Option.some r)->Bt ru lv tv O r\/st.row r= .none:=fun r e=>by
  rcases e with rfl|rfl|e|e
  ·exact .inr h.f3
  ·exact .inr h.f6
  ·exact h.fs r (.inl e)
  ·exact h.fs r (.inr e)
 obtain⟨t3,r3⟩:=h.r3
 have e3:S2.row p3=S.row p3:=by
  rw[k2 _ h.ap6,k1 _ (Jh r3) fun x=>(h.apk _ x).1 rfl]
 have e1:∀r,rowOf v1=Option.some r->S2.row r=S.row r:=fun r x=>by
  rw[k2 _ (h.ap1 r x).2,k1 _ (h.nm.some x) fun y=>(h.apk _ y).2.2 x]
 refine{h with rt:=h.rt.own h.own g k,kp:=h.kp.own w k,own:=fun r e=> ?_,r3:=⟨t3,by rw[e3,r3]⟩,r6:=h6,nm:=h.nm.keep e1,kd:=hk.keep fun r e=>k2 r fun x=>by rw[hr]at e;injection e with e;exact n6 (e.trans x),apk:=fun r e=> ?_,fs:=fun r e=> ?_}
 ·rcases e with e|e|e|e
  ·have a:=h.own r (.inl e)
   exact⟨by rw[e,e3];exact Jh r3,a.2⟩
  ·have a:=h.own r (.inr (.inl e))
   obtain⟨t,q⟩:=h6
   exact⟨by rw[e];exact Jh q,a.2⟩
  ·have a:=h.own r (.inr (.inr (.inl e)))
   exact⟨by rw[e1 r e];exact a.1,a.2⟩
  ·rw[hr]at e
   injection e with e
   subst e
   have q:=h.rt.alive
   exact⟨by rw[k2 _ n6];exact hk.some hr,fun x=>q _ x dead⟩
 ·rcases e with e|e
  ·exact h.fs r (.inl e)
  ·rw[hr]at e
   injection e with e
   subst e
   exact h.kp.dead dead
 ·rw[hr]at e
  injection e with e
  subst e
  exact⟨n3,n6,fun x=>h.nm.some x dead⟩
theorem Mid5.done {k:Int}{n:Str}{v5 v9:V}{es ts:List (List V)}{E:List V}{X:Ty}(h:Mid5 Sb st S ru p3 p6 lv tv lv' tv' rest O O' nodes trees c3 c6 v1 kv ns ids)
  (g:Gr Sb S') (hc:∃t,S'.row ru= .cells t (v5::v9::rest))
  (l1:es.length=nodes.length) (l2:∀i (a:i<es.length) (b:i<nodes.length),NdC O' S es[i] nodes[i]) (l5:SlF Sb S' v5 4 (es++[[.int .i64 k,ofL n,v1,kv]]))
  (t1:ts.length=trees.length) (t2:∀i (a:i<ts.length) (b:i<trees.length),TyC (fun r=>Sb.row r≠ .none) S ts[i] trees[i]) (t9:SlF Sb S' v9 4 (ts++[E])) (hE:TyC (fun r=>Sb.row r≠ .none) S E X)
  (r5:∀r,rowOf v5=Option.some r->S.row r= .none) (r9:∀r,rowOf v9=Option.some r->S.row r= .none) (a59:∀r,rowOf v5=Option.some r->rowOf v9≠Option.some r)
  (keep:∀p,S.row p≠ .none->p≠ru->rowOf lv'≠Option.some p->rowOf tv'≠Option.some p->S'.row p=S.row p):
  RT Sb S' ru v5 v9 rest (fun r=>O' r\/rowOf v1=Option.some r\/rowOf kv=Option.some r) (nodes++[⟨k,n,ns,ids⟩]) (trees++[X])/\Kp (Bt ru lv tv O) (Bt ru v5 v9 fun r=>O' r\/rowOf v1=Option.some r\/rowOf kv=Option.some r) st S':=by
 have hal:=h.rt.alive
 have mine:∀r,(O' r\/rowOf v1=Option.some r\/rowOf kv=Option.some r)->S.row r≠ .none/\Sb.row r= .none/\r≠ru/\rowOf lv'≠Option.some r/\rowOf tv'≠Option.some r:=fun r e=>by
  rcases e with e|e|e
  ·exact h.rt.o r e
  ·have a:=h.own r (.inr (.inr (.inl e)))
   exact⟨a.1,(h.nm.row e).1,fun x=>a.2 (.inl x),fun x=>a.2 (.inr (.inl x)),fun x=>a.2 (.inr (.inr (.inl x)))⟩
  ·have a:=h.own r (.inr (.inr (.inr e)))
   exact⟨a.1,(h.kd.row e).1,fun x=>a.2 (.inl x),fun x=>a.2 (.inr (.inl x)),fun x=>a.2 (.inr (.inr (.inl x)))⟩
 have same:∀r,(O' r\/rowOf v1=Option.some r\/rowOf kv=Option.some r)->S'.row r=S.row r:=fun r e=>by
  obtain⟨a,b,c,d,f⟩:=mine r e
  exact keep r a c d f
 have sb:∀r,Sb.row r≠ .none->S'.row r=S.row r:=fun r e=>by rw[g.same r e,h.rt.g.same r e]
 refine⟨⟨g,h.rt.ru0,hc,⟨_,l5,by simp[l1],fun i a b=> ?_⟩,⟨_,t9,by simp[t1],fun i a b=> ?_⟩,fun r e=>⟨a59 r e,fun x=>hal r (.inl x) (r5 r e)⟩,fun r e x=>hal r (.inl x) (r9 r e),fun r e=> ?_⟩,⟨fun r e b=> ?_,fun r e=> ?_⟩⟩
 ·by_cases hi:i<es.length
  ·rw[List.getElem_append_left hi,List.getElem_append_left (by omega)]
   exact(l2 i hi (by omega)).imp fun r p _=>⟨.inl p,same r (.inl p)⟩
  ·have e:i=es.length:=by simp at a;omega
   subst e
   rw[List.getElem_append_right (Nat.le_refl _),List.getElem_append_right (by omega)]
   simp only[Nat.sub_self,l1,List.getElem_cons_zero]
   exact⟨v1,kv,rfl,h.nm.mine.imp fun r p _=>⟨.inr (.inl p),same r (.inr (.inl p))⟩,h.kd.mine.imp fun r p _=>⟨.inr (.inr p),same r (.inr (.inr p))⟩⟩
 ·by_cases hi:i<ts.length
  ·rw[List.getElem_append_left hi,List.getElem_append_left (by omega)]
   exact(t2 i hi (by omega)).imp fun r p _=>⟨p,sb r p⟩
  ·have e:i=ts.length:=by simp at a;omega
   subst e
   rw[List.getElem_append_right (Nat.le_refl _),List.getElem_append_right (by omega)]
   simp only[Nat.sub_self,t1,List.getElem_cons_zero]
   exact hE.imp fun r p _=>⟨p,sb r p⟩
 ·obtain⟨a,b,c,d,f⟩:=mine r e
  exact⟨by rw[same r e];exact a,b,c,fun x=>a (r5 r x),fun x=>a (r9 r x)⟩
 ·have al:=h.kp.same r e b
  have nb:¬Bt ru lv' tv' O' r:=fun x=>(h.kp.sub r x).elim b e
  rw[keep r (by rw[al];exact e) (fun x=>nb (.inl x)) (fun x=>nb (.inr (.inl x))) (fun x=>nb (.inr (.inr (.inl x)))),al]
 ·rcases e with e|e|e|e|e|e
  ·exact h.kp.sub r (.inl e)
  ·exact h.kp.dead (r5 r e)
  ·exact h.kp.dead (r9 r e)
  ·exact h.kp.sub r (.inr (.inr (.inr e)))
  ·exact h.fs r (.inl e)
  ·exact h.fs r (.inr e)
end
end
end Eva
namespace Eva
open Go Go.RowKit
end Eva
namespace Eva
open Go Go.RowKit
def NdW (n:Nd):Prop:=n.kind≠9/\(n.kind=4\/n.kind=5\/n.kind=6->n.kids.length=1)/\(n.kind=7\/n.kind=8->n.kids.length=n.names.length)/\(1<=n.kind/\n.kind<=3->n.kids=[])/\(1<=n.kind/\n.kind<=9)/\n.names.length<=8/\n.kids.length<=8
def prs (l:Was):List (List V):=l.map fun p=>[.int .i64 (p.1:Nat), .int .i64 (p.2:Nat)]
structure Tb6 (S:St) (ru:Pt) (lv:V) (nodes:List Nd):Prop where
 cell:∃t a b c d e f g h i j,S.row ru= .cells t [lv,a,b,c,d,e,f,g,h,i,j]
 l:LstAt (NdC (fun r=>S.row r≠ .none) S) (fun r=>S.row r≠ .none) S lv 4 nodes
 w:∀n∈nodes,NdW n
 k:∀n∈nodes,∀x∈n.kids,x<nodes.length
 few:nodes.length<=120
structure Fz (a b:St):Prop where
 wf:WF b
 t:a.t<=b.t
 nx:a.nx.num<=b.nx.num
 row:∀r,b.row r≠a.row r->a.t<=(b.row r).time/\b.row r≠ .none
 born:∀r,a.row r= .none->b.row r≠ .none->a.nx.num<=r.num
 same:∀r,a.row r≠ .none->b.row r=a.row r
theorem Fz.of {W:Pt->Prop}{a b:St}(h:Ch W a b)(hW:∀r,W r->a.row r= .none):Fz a b:=⟨h.wf,h.mono.t,h.mono.nx,h.mono.row,h.mono.born,fun r e=>h.same r e fun w=>e (hW r w)⟩
theorem Fz.gr {a b:St}(h:Fz a b):Gr {a with low:=b.low} b:=
 ⟨⟨h.wf,h.t,h.nx,h.row,Nat.le_refl _,fun r e n=>absurd (h.same r e) n,h.born⟩,h.same,fun _=>rfl⟩
theorem Fz.ch {W:Pt->Prop}{a b c:St}(h:Fz a b)(k:Ch W b c)(hW:∀r,W r->a.row r= .none):Fz a c:=
 ⟨k.wf,Nat.le_trans h.t k.mono.t,Nat.le_trans h.nx k.mono.nx,fun r e=>by
   by_cases x:c.row r=b.row r
   ·rw[x]at e⊢;exact h.row r e
   ·have:=k.mono.row r x
    exact⟨Nat.le_trans h.t this.1,this.2⟩,fun r e n=>by
   by_cases x:b.row r= .none
   ·exact Nat.le_trans h.nx (k.mono.born r x n)
   ·exact h.born r e x,fun r e=>by
   have:=h.same r e
   rw[k.same r (by rw[this];exact e) fun w=>e (hW r w),this]⟩
theorem Fz.low {a b:St}(h:Fz a b)(k:Nat):Fz a {b with low:=k}:=⟨Yx h.wf _,h.t,h.nx,h.row,h.born,h.same⟩
structure Wk6 (Sl S:St) (ru kr:Pt) (was:Was) (lw:V):Prop where
 g:Fz Sl S
 cell:∃t,S.row kr= .cells t [.ptr ru 0,lw]
 l:SlF Sl S lw 2 (prs was)
 k0:Sl.row kr= .none
 ap:rowOf lw≠some kr
section
variable {Sl S S' : St} {ru kr : Pt} {lv lw : V} {nodes : List Nd} {was : Was}
theorem Tb6.keep (h:Tb6 S ru lv nodes)(g:∀r,S.row r≠ .none->S'.row r=S.row r):Tb6 S' ru lv nodes:=by
 obtain⟨t,a,b,c,d,e,f,i,j,k,l,r⟩:=h.cell
 obtain⟨es,l1,l2,l3⟩:=h.l
 have kk:∀r,S.row r≠ .none->S.row r≠ .none->S'.row r≠ .none/\S'.row r=S.row r:=fun r p _=>⟨by rw[g r p];exact p,g r p⟩
 exact⟨⟨t,a,b,c,d,e,f,i,j,k,l,by rw[g _ (Jh r),r]⟩,⟨es,l1.imp kk,l2,fun i a b=>(l3 i a b).imp kk⟩,h.w,h.k,h.few⟩
theorem Tb6.gr (h:Tb6 S ru lv nodes)(g:Gr S S'):Tb6 S' ru lv nodes:=h.keep g.same
theorem Tb6.node (h:Tb6 S ru lv nodes){i:Nat}(hi:i<nodes.length):∃r q e,iaddrSV 4 lv (.int .i64 i)=some (.ptr r q, .no)/\ldn (S.row r) q 4=some (.agg e, .no)/\NdC (fun r=>S.row r≠ .none) S e nodes[i]/\ld1 (S.row r) q=some (.int .i64 nodes[i].kind, .no):=by
 obtain⟨r,q,e,a1,a2,a3,a4,hE,e4,a5⟩:=h.l.elem hi
 obtain⟨nv,kv,rfl,_,_⟩:=hE
 exact⟨r,q,_,a1,a4,⟨nv,kv,rfl,‹_›,‹_›⟩,a5 0 (by simp)⟩
theorem Wk6.gr (h:Wk6 Sl S ru kr was lw)(g:Gr S S'):Wk6 Sl S' ru kr was lw:=by
 obtain⟨t,c⟩:=h.cell
 exact⟨h.g.ch (Ch.of (fun _=>False) g) (fun _ w=>w.elim),⟨t,g.cells c⟩,h.l.gr g,h.k0,h.ap⟩
theorem Wk6.low (h:Wk6 Sl S ru kr was lw)(k:Nat):Wk6 Sl {S with low:=k} ru kr was lw:=⟨h.g.low k,h.cell,h.l.keep fun _ _=>rfl,h.k0,h.ap⟩
end
def WasG (n:Nat)(W:Was):Prop:=W.Nodup/\∀p∈W,p.1<n/\p.2<n
theorem Jb6 :∀(m:Nat) (l:List Nat),l.Nodup->(∀x∈l,x<m)->l.length<=m
 | 0,l,_,h=>by
   cases l with
   |nil=>exact Nat.le_refl _
   |cons a r=>exact absurd (h a List.mem_cons_self) (Nat.not_lt_zero _)
 | m+1,l,hd,h=>by
   by_cases e:m∈l
   ·have:=Jb6 m (l.erase m) (hd.erase _) fun x hx=>by
     have h1:=(hd.mem_erase_iff.1 hx)
     have:=h x h1.2
     have:=h1.1
     omega
    rw[List.length_erase_of_mem e]at this
    omega
   ·have:=Jb6 m l hd fun x hx=>by
     have:=h x hx
     have:x≠m:=fun k=>e (k▸hx)
     omega
    omega
theorem WasG.len {n:Nat}{W:Was}(h:WasG n W):W.length<=n*n:=by
 have hm:(W.map fun p=>p.1*n+p.2).Nodup:=by
  rw[List.nodup_iff_pairwise_ne,List.pairwise_map]
  refine(List.Pairwise.and_mem.1 (List.nodup_iff_pairwise_ne.1 h.1)).imp fun{p q} hpq e=> ?_
  obtain⟨hp,hq,hne⟩:=hpq
  obtain⟨a1,a2⟩:=h.2 p hp
  obtain⟨b1,b2⟩:=h.2 q hq
  have e1:p.1=q.1:=by
   have c1:(p.1*n+p.2)/n=p.1:=by rw[Nat.mul_comm,Nat.mul_add_div (by omega),Nat.div_eq_of_lt a2];rfl
   have c2:(q.1*n+q.2)/n=q.1:=by rw[Nat.mul_comm,Nat.mul_add_div (by omega),Nat.div_eq_of_lt b2];rfl
   rw[<-c1,<-c2,e]
  have e2:p.2=q.2:=by rw[e1]at e;omega
  exact hne (Prod.ext e1 e2)
 have:=Jb6 (n*n) _ hm fun x hx=>by
  obtain⟨p,hp,rfl⟩:=List.mem_map.1 hx
  obtain⟨a1,a2⟩:=h.2 p hp
  have:p.1*n+n<=n*n:=by
   have:=Nat.mul_le_mul_right n (show p.1+1<=n from a1)
   rw[Nat.add_mul,Nat.one_mul]at this
   exact this
  omega
 simpa using this
theorem WasG.snoc {n:Nat}{W:Was}(h:WasG n W){a b:Nat}(ha:a<n)(hb:b<n)(hn:(a,b)∉W):WasG n (W++[(a,b)]):=by
 refine⟨?_,fun p hp=> ?_⟩
 ·rw[List.nodup_append]
  exact⟨h.1,by simp,fun x hx y hy e=>hn (by rw[List.mem_singleton.1 hy]at e;exact e▸hx)⟩
 ·rcases List.mem_append.1 hp with hp|hp
  ·exact h.2 p hp
  ·rw[List.mem_singleton.1 hp];exact⟨ha,hb⟩
structure Lo6 (Sl S0 S:St) (ru kr p8 p9:Pt) (lw0:V) (n:Nat) (xs ys:List V) (was:Was) (lw:V):Prop where
 w:Wk6 Sl S ru kr was lw
 r8:∃t,S.row p8= .cells t xs
 r9:∃t,S.row p9= .cells t ys
 n8:p8≠kr/\rowOf lw≠some p8
 n9:p9≠kr/\rowOf lw≠some p9
 keep:∀r,S0.row r≠ .none->¬(r=kr\/rowOf lw0=some r)->S.row r=S0.row r
 sub:∀q,rowOf lw=some q->rowOf lw0=some q\/S0.row q= .none
 g:WasG n was
theorem Lo6.next {Sl S0 S S2:St}{ru kr p8 p9:Pt}{lw0 lw lw2:V}{n:Nat}{xs ys:List V}{was w2:Was}(h:Lo6 Sl S0 S ru kr p8 p9 lw0 n xs ys was lw)(c:Ch (fun q=>q=kr\/rowOf lw=some q) S S2)(k:Wk6 Sl S2 ru kr w2 lw2)
  (s:∀q,rowOf lw2=some q->rowOf lw=some q\/S.row q= .none) (g:WasG n w2):Lo6 Sl S0 S2 ru kr p8 p9 lw0 n xs ys w2 lw2:=by
 obtain⟨t8,r8⟩:=h.r8
 obtain⟨t9,r9⟩:=h.r9
 refine⟨k,⟨t8, ?_⟩,⟨t9, ?_⟩,⟨h.n8.1,fun e=>(s _ e).elim h.n8.2 (Jh r8)⟩,⟨h.n9.1,fun e=>(s _ e).elim h.n9.2 (Jh r9)⟩,fun r e m=> ?_,fun q e=> ?_,g⟩
 ·rw[c.same p8 (Jh r8) fun x=>x.elim h.n8.1 h.n8.2,r8]
 ·rw[c.same p9 (Jh r9) fun x=>x.elim h.n9.1 h.n9.2,r9]
 ·have a:=h.keep r e m
  rw[c.same r (by rw[a];exact e) fun x=>x.elim (fun y=>m (.inl y)) fun y=>(h.sub r y).elim (fun z=>m (.inr z)) e,a]
 ·rcases s q e with x|x
  ·exact h.sub q x
  ·refine Classical.byContradiction fun y=> ?_
   have n1:¬rowOf lw0=some q:=fun z=>y (.inl z)
   have n2:¬S0.row q= .none:=fun z=>y (.inr z)
   have n3:q≠kr:=fun z=>by
    obtain⟨t,c⟩:=h.w.cell
    exact Jh c (z▸x)
   have:=h.keep q n2 fun z=>z.elim n3 n1
   exact n2 (this▸x)
theorem Lo6.low {Sl S0 S:St}{ru kr p8 p9:Pt}{lw0 lw:V}{n:Nat}{xs ys:List V}{was:Was}(h:Lo6 Sl S0 S ru kr p8 p9 lw0 n xs ys was lw)(k:Nat):Lo6 Sl S0 {S with low:=k} ru kr p8 p9 lw0 n xs ys was lw:=
 ⟨h.w.low k,h.r8,h.r9,h.n8,h.n9,h.keep,h.sub,h.g⟩
theorem Lo6.gr {Sl S0 S S2:St}{ru kr p8 p9:Pt}{lw0 lw:V}{n:Nat}{xs ys:List V}{was:Was}(h:Lo6 Sl S0 S ru kr p8 p9 lw0 n xs ys was lw)(g:Gr S S2):Lo6 Sl S0 S2 ru kr p8 p9 lw0 n xs ys was lw:=
 h.next (Ch.of _ g) (h.w.gr g) (fun _ e=> .inl e) h.g
end Eva
namespace Eva
open Go Go.RowKit
theorem Fz.more {Sb S S':St}(h:Fz Sb S)(g:Gr S S'):Fz Sb S':=h.ch (Ch.of (fun _=>False) g) fun _ f=>f.elim
theorem Fz.ofGr {Sb S:St}(g:Gr Sb S):Fz Sb S:=Fz.of (Ch.of (fun _=>False) g) fun _ f=>f.elim
theorem Hold.fz {φ:Rn}{a Sb S:St}(H:Hold φ a Sb)(h:Fz Sb S):Hold φ a S:=by
 refine⟨H.num,H.inj,fun p e=>Nat.lt_of_lt_of_le (H.lt p e) h.nx,fun p e=> ?_,H.scope,fun h0=>Nat.lt_of_lt_of_le (H.pos h0) h.t,H.wfa,h.wf⟩
 by_cases c:a.row p= .none
 ·have h1:=H.row p e
  rw[c]at h1⊢
  have h1:Sb.row (φ p)= .none:=h1
  show S.row (φ p)= .none
  apply Classical.byContradiction
  intro x
  have:=h.born _ h1 x
  have:=H.lt p e
  omega
 ·rw[h.same _ (Yw (H.row p e) c)];exact H.row p e
end Eva
namespace Eva
open Go Go.RowKit
def encS (x:Str×Nat):V:= .agg [ofL x.1, .int .i64 (x.2:Nat)]
def CntAt (S:St)(r:Pt)(ps:List (Str×Nat))(m:Nat):Prop:=∃es:List ((Str×Nat)×V),es.map (·.1)=ps/\(∀p∈es,∃c:Nat,p.2= .int .i64 c/\1<=c/\c<=m)/\MobAt S r encS es
theorem CntAt.of {S S':St}{r:Pt}{ps:List (Str×Nat)}{m:Nat}(h:CntAt S r ps m)(k:S'.row r=S.row r):CntAt S' r ps m:=by
 obtain⟨es,a,b,c⟩:=h
 exact⟨es,a,b,c.of k⟩
end Eva
namespace Eva
open Go Go.RowKit
theorem YX {l pre s rest:List UInt8}{r:List Prt}(hl:l=pre++([123,123]++(s++([125,125]++rest))))(he:endS (s++([125,125]++rest)) false 0=some s.length)(hr:splitS l (pre++([123,123]++(s++[125,125]))).length=some r):splitS l pre.length=some ((true,s,pre.length)::r):=by
 have hlt:pre.length<l.length:=by rw[hl];simp
 have d0:l.drop pre.length=[123,123]++(s++([125,125]++rest)):=by rw[hl,List.drop_left]
 have d2:l.drop (pre.length+2)=s++([125,125]++rest):=by rw[<-List.drop_drop,d0];rfl
 have ho:openAt (l.drop pre.length)=some 0:=by rw[d0];rfl
 rw[kX hlt,ho]
 simp only
 rw[d2,he]
 simp only
 have e:pre.length+2+s.length+2=(pre++([123,123]++(s++[125,125]))).length:=by simp;omega
 rw[e,hr,List.take_left]
 rfl
end Eva
namespace Eva
open Go Go.RowKit
theorem Jhs {l pre s rest:List UInt8}{r:List Prt}{n:Nat}(hl:l=pre++(s++rest))(ho:openAt (s++rest)=some (n+1))(hn:s.length=n+1)(hr:splitS l (pre++s).length=some r):splitS l pre.length=some ((false,s,pre.length)::r):=by
 have hlt:pre.length<l.length:=by rw[hl];simp;omega
 have d0:l.drop pre.length=s++rest:=by rw[hl,List.drop_left]
 rw[kX hlt,d0,ho]
 simp only
 have e:pre.length+(n+1)=(pre++s).length:=by simp;omega
 rw[e,hr,<-hn,List.take_left]
 rfl
end Eva
namespace Eva
open Go Go.RowKit
def mbS (b:Nat):List UInt8:=match b with
 |0=>[46]
 |1=>[108,101,110,32,46]
 |_=>[97,100,100,32,46,32,49]
def tagS (k:Nat):List UInt8:=[UInt8.ofNat (97+k)]
def mcS (k:Nat):List UInt8:=[99,97,115,101,32]++tagS k
def mtS :List UInt8:=[109,97,116,99,104,32,46]
def mEnd :List UInt8:=[101,110,100]
def mElse :List UInt8:=[101,108,115,101]
def segM (b k:Nat):List UInt8:=([123,123]++(mcS k++[125,125]))++([123,123]++(mbS b++[125,125]))
def mkM (b:Nat)(ks:List Nat):List UInt8:=ks.flatMap (segM b)
def tlM (o:Bool):List UInt8:=if o then[123,123,101,108,115,101,125,125,101,123,123,101,110,100,125,125]else[123,123,101,110,100,125,125]
def mkAll (b:Nat)(ks:List Nat)(o:Bool):List UInt8:=([123,123]++(mtS++[125,125]))++(mkM b ks++tlM o)
def segL (b:Nat):Nat:=14+(mbS b).length
def partsM (b:Nat):List Nat->Nat->List Prt
 |[],_=>[]
 |k::r,n=>(true,mcS k,n)::(true,mbS b,n+10)::partsM b r (n+segL b)
def tpM (o:Bool)(c:Nat):List Prt:=if o then[(true,mElse,c),(false,[101],c+8),(true,mEnd,c+9)]else[(true,mEnd,c)]
theorem Jjd (k:Nat):(mcS k).length=6:=rfl
theorem JmO (b k:Nat):(segM b k).length=segL b:=by
 simp[segM,segL,Jjd];omega
theorem Jht (b:Nat):(mbS b).length<=7:=by unfold mbS;split<;>simp
theorem Jje (b:Nat)(ks:List Nat):(mkM b ks).length=segL b*ks.length:=by
 induction ks with
 |nil=>rfl
 |cons k r ih=>simp only[mkM,List.flatMap_cons,List.length_append]at ih⊢;rw[ih,JmO,List.length_cons,Nat.mul_succ];omega
theorem JmP (b:Nat)(ks:List Nat)(k:Nat):mkM b (ks++[k])=mkM b ks++segM b k:=by simp[mkM]
theorem qB (b:Nat):∀(ks:List Nat) (n:Nat),(partsM b ks n).length=2*ks.length
 |[],_=>rfl
 |_::r,n=>by rw[partsM,List.length_cons,List.length_cons,qB b r,List.length_cons];omega
theorem JrC {k:Nat}(hk:k<7)(rest:List UInt8):endS (mcS k++([125,125]++rest)) false 0=some (mcS k).length:=by
 rcases(by omega:k=0\/k=1\/k=2\/k=3\/k=4\/k=5\/k=6)with rfl|rfl|rfl|rfl|rfl|rfl|rfl<;>rfl
theorem JrD (b:Nat)(rest:List UInt8):endS (mbS b++([125,125]++rest)) false 0=some (mbS b).length:=by
 unfold mbS;split<;>rfl
theorem Jb7 {b:Nat}{tl:List UInt8}{R:Nat->List Prt}(ht:∀l pre,l=pre++tl->splitS l pre.length=some (R pre.length)):∀(ks:List Nat) (l pre:List UInt8),(∀k∈ks,k<7)->l=pre++(mkM b ks++tl)->splitS l pre.length=some (partsM b ks pre.length++R (pre.length+segL b*ks.length))
 |[],l,pre,_,h=>by simpa[mkM,partsM]using ht l pre h
 | k::r,l,pre,hk,h=>by
   have h1:l=pre++([123,123]++(mcS k++([125,125]++([123,123]++(mbS b++([125,125]++(mkM b r++tl))))))):=by rw[h];simp[mkM,segM]
   have h2:l=(pre++([123,123]++(mcS k++[125,125])))++([123,123]++(mbS b++([125,125]++(mkM b r++tl)))):=by rw[h1];simp
   have hl1:(pre++([123,123]++(mcS k++[125,125]))).length=pre.length+10:=by simp[Jjd]
   have hl2:((pre++([123,123]++(mcS k++[125,125])))++([123,123]++(mbS b++[125,125]))).length=pre.length+segL b:=by rw[List.length_append,hl1];simp[segL];omega
   have ih:=Jb7 (b:=b) ht r l ((pre++([123,123]++(mcS k++[125,125])))++([123,123]++(mbS b++[125,125]))) (fun x hx=>hk x (List.mem_cons_of_mem _ hx)) (by rw[h2];simp)
   rw[YX h1 (JrC (hk k (List.mem_cons_self ..)) _) (YX h2 (JrD b _) ih),hl1,hl2,partsM,List.cons_append,List.cons_append]
   rw[show pre.length+segL b+segL b*r.length=pre.length+segL b*(k::r).length by rw[List.length_cons,Nat.mul_succ];omega]
theorem Jkb (o:Bool)(l pre:List UInt8)(h:l=pre++tlM o):splitS l pre.length=some (tpM o pre.length):=by
 cases o with
 | false=>
   have h:l=pre++[123,123,101,110,100,125,125]:=h
   have s1:splitS l (pre++[123,123,101,110,100,125,125]).length=some []:=qz (by rw[h];exact Nat.le_refl _)
   have s0:=YX (l:=l) (pre:=pre) (s:=[101,110,100]) (rest:=[]) (r:=[]) (by rw[h];simp) rfl (by rw[<-s1];congr 1)
   exact s0
 | true=>
   have h:l=pre++[123,123,101,108,115,101,125,125,101,123,123,101,110,100,125,125]:=h
   have s3:splitS l (pre++[123,123,101,108,115,101,125,125,101,123,123,101,110,100,125,125]).length=some []:=qz (by rw[h];exact Nat.le_refl _)
   have s2:=YX (l:=l) (pre:=pre++[123,123,101,108,115,101,125,125,101]) (s:=[101,110,100]) (rest:=[]) (r:=[]) (by rw[h];simp) rfl (by rw[<-s3];congr 1;simp)
   have s1:=Jhs (l:=l) (pre:=pre++[123,123,101,108,115,101,125,125]) (s:=[101]) (rest:=[123,123,101,110,100,125,125]) (n:=0) (by rw[h];simp) rfl rfl (by rw[<-s2];congr 1;simp)
   have s0:=YX (l:=l) (pre:=pre) (s:=[101,108,115,101]) (rest:=[101,123,123,101,110,100,125,125]) (by rw[h];simp) rfl (by rw[<-s1];congr 1)
   rw[s0]
   simp[tpM,mElse,mEnd]
theorem Jhu {b:Nat}{ks:List Nat}{o:Bool}(hk:∀k∈ks,k<7)(hn:ks.length<=9):splitR (mkAll b ks o)=((true,mtS,0)::(partsM b ks 11++tpM o (11+segL b*ks.length)),0):=by
 have hl:=Jje b ks
 have hb:=Jht b
 have hs:segL b<=21:=by unfold segL;omega
 have hm:segL b*ks.length<=21*9:=Nat.mul_le_mul hs hn
 have ht:(tlM o).length<=16:=by cases o<;>decide
 have htp:(tpM o (11+segL b*ks.length)).length<=3:=by cases o<;>simp[tpM]
 have htt:(mkAll b ks o).length<=1000:=by
  simp only[mkAll,List.length_append,List.length_cons,List.length_nil,hl]
  have:mtS.length=7:=rfl
  omega
 have h1:=Jb7 (b:=b) (R:=fun n=>tpM o n) (Jkb o) ks (mkAll b ks o) ([123,123]++(mtS++[125,125])) hk rfl
 have h0:splitS (mkAll b ks o) 0=some ((true,mtS,0)::(partsM b ks 11++tpM o (11+segL b*ks.length))):=YX (l:=mkAll b ks o) (pre:=[]) (s:=mtS) (rest:=mkM b ks++tlM o) (by simp[mkAll]) rfl h1
 unfold splitR
 rw[if_neg (by omega),h0]
 simp only
 have h200:¬200<((true,mtS,0)::(partsM b ks 11++tpM o (11+segL b*ks.length))).length:=by simp only[List.length_cons,List.length_append,qB];omega
 rw[if_neg h200]
end Eva
namespace Eva
open Go Go.RowKit
mutual
theorem JmQ {n m:Nat}(h:n<=m):∀v:V,inV n v=true->inV m v=true
 | .ptr r _,e=>by simp only[inV]at e⊢;exact decide_eq_true (Nat.lt_of_lt_of_le (of_decide_eq_true e) h)
 | .sl r _ _ _,e=>by simp only[inV]at e⊢;exact decide_eq_true (Nat.lt_of_lt_of_le (of_decide_eq_true e) h)
 | .slx r _ _ _ _,e=>by simp only[inV]at e⊢;exact decide_eq_true (Nat.lt_of_lt_of_le (of_decide_eq_true e) h)
 | .map r,e=>by simp only[inV]at e⊢;exact decide_eq_true (Nat.lt_of_lt_of_le (of_decide_eq_true e) h)
 | .fn _ a b,e=>by rw[inV,Bool.and_eq_true]at e;rw[inV,Jae h a e.1,Jae h b e.2];rfl
 | .agg l,e=>by rw[inV]at e;rw[inV,Jae h l e]
 | .tup l,e=>by rw[inV]at e;rw[inV,Jae h l e]
 | .bool _,_=>by simp[inV]
 | .int _ _,_=>by simp[inV]
 | .im _ _,_=>by simp[inV]
 | .str _ _,_=>by simp[inV]
 | .pnil,_=>by simp[inV]
 | .snil,_=>by simp[inV]
 | .mnil,_=>by simp[inV]
 | .fnil,_=>by simp[inV]
 | .any,_=>by simp[inV]
 | .opq _,_=>by simp[inV]
theorem Jae {n m:Nat}(h:n<=m):∀l:List V,inVs n l=true->inVs m l=true
 |[],_=>by rw[inVs]
 |x::r,e=>by rw[inVs,Bool.and_eq_true]at e;rw[inVs,JmQ h x e.1,Jae h r e.2];rfl
end
end Eva
