/- Operands, nodes, environments: as trees, and in memory. The form of a table's nodes, pl -/
import Derived.Test.YtdajkeoobbonjaaGreatP2
set_option linter.constructorNameAsVariable false
noncomputable section
set_option linter.defProp false
set_option linter.unusedVariables false
set_option linter.unusedSimpArgs false
set_option linter.unusedSectionVars false
set_option maxRecDepth 100000
namespace Eva
open Go Go.RowKit
variable {e Y:Nat}{n:List V}{t:Pt->Prop}{f:Tb}{h:St}{g:List (List V)}{j:List Str}{u:Int}{x:Pt}{o:Sch}
inductive Opn where
 |mk (k:Int) (var:Str) (path:List Str) (s:Str) (n:Int) (b:Bool) (pipe:List (List Opn))
abbrev Pipe :=List (List Opn)
inductive Nod where
 |mk (k at_:Int) (s name:Str) (pipe:Pipe) (body els:List Nod) (he:Bool) (cases:List (Str×List Nod))
def Jbt {α:Type}(C:List V->α->Prop)(P:Pt->Prop)(st:St)(z:Nat)(e:List V)(l:List α):Prop:=∃v,e=[v]/\LstAt C P st v z l
def OprC (P:Pt->Prop)(st:St):Nat->List V->Opn->Prop
 |0,_,_=>False
 |d+1,e, .mk k var path s n b pipe=>∃pv qv,e=[.d .i64 k,ofL var,pv,ofL s, .d .i64 n, .h b,qv]/\SlAt P st pv 1 (strs path)/\LstAt (Jbt (OprC P st d) P st 7) P st qv 1 pipe
def PipC (P:Pt->Prop)(st:St)(d:Nat)(v:V)(p:Pipe):Prop:=LstAt (Jbt (OprC P st d) P st 7) P st v 1 p
def CasC (C:List V->Nod->Prop)(P:Pt->Prop)(st:St)(e:List V)(c:Str×List Nod):Prop:=∃v,e=[ofL c.1,v]/\LstAt C P st v 9 c.2
def NodC (P:Pt->Prop)(st:St)(m:Nat):Nat->List V->Nod->Prop
 |0,_,_=>False
 |d+1,e, .mk k a s name pipe body els he cases=>∃pv bv ev cv,e=[.d .i64 k, .d .i64 a,ofL s,ofL name,pv,bv,ev, .h he,cv]/\PipC P st m pv pipe/\LstAt (NodC P st m d) P st bv 9 body/\LstAt (NodC P st m d) P st ev 9 els/\LstAt (CasC (NodC P st m d) P st) P st cv 2 cases
def NodsC (P:Pt->Prop)(st:St)(m d:Nat)(v:V)(l:List Nod):Prop:=LstAt (NodC P st m d) P st v 9 l
section
variable {P Q : Pt -> Prop} {st st' : St}
theorem LstAt.F {α:Type}{C:List V->α->Prop}:LstAt C P st .e e ([]:List α):=⟨[],SlAt.K _ _ _,rfl,fun i h=>absurd h (XH i)⟩
theorem Jbt.A {α:Type}{C D:List V->α->Prop}{z:Nat}{e:List V}{l:List α}(h:Jbt C P st z e l)(a:∀e x,C e x->D e x)(k:∀r,P r->st.A r≠ .none->Q r/\st'.A r=st.A r):Jbt D Q st' z e l:=by
 obtain⟨v,b,c⟩:=h;exact⟨v,b,c.G a k⟩
theorem OprC.A (k:∀r,P r->st.A r≠ .none->Q r/\st'.A r=st.A r):∀{d:Nat} {e:List V} {o:Opn},OprC P st d e o->OprC Q st' d e o
 |0,_,_,h=>h
 |d+1,_, .mk _ _ _ _ _ _ _,⟨a,b,c,f,g⟩=>⟨a,b,c,f.D k,g.G (fun _ _ h=>h.A (fun _ _ h=>OprC.A k h) k) k⟩
theorem PipC.A {d:Nat}{v:V}{p:Pipe}(h:PipC P st d v p)(k:∀r,P r->st.A r≠ .none->Q r/\st'.A r=st.A r):PipC Q st' d v p:=LstAt.G h (fun _ _ h=>h.A (fun _ _ h=>OprC.A k h) k) k
theorem CasC.A {C D:List V->Nod->Prop}{e:List V}{c:Str×List Nod}(h:CasC C P st e c)(a:∀e x,C e x->D e x)(k:∀r,P r->st.A r≠ .none->Q r/\st'.A r=st.A r):CasC D Q st' e c:=by
 obtain⟨v,b,d⟩:=h;exact⟨v,b,d.G a k⟩
theorem NodC.A {m:Nat}(k:∀r,P r->st.A r≠ .none->Q r/\st'.A r=st.A r):∀{d:Nat} {e:List V} {o:Nod},NodC P st m d e o->NodC Q st' m d e o
 |0,_,_,h=>h
 |d+1,_, .mk _ _ _ _ _ _ _ _ _,⟨a,b,c,f,g,i,j,l,n⟩=>⟨a,b,c,f,g,i.A k,j.G (fun _ _ h=>NodC.A k h) k,l.G (fun _ _ h=>NodC.A k h) k,n.G (fun _ _ h=>h.A (fun _ _ h=>NodC.A k h) k) k⟩
theorem NodsC.A {m d:Nat}{v:V}{l:List Nod}(h:NodsC P st m d v l)(k:∀r,P r->st.A r≠ .none->Q r/\st'.A r=st.A r):NodsC Q st' m d v l:=LstAt.G h (fun _ _ h=>NodC.A k h) k
theorem OprC.G :∀{d:Nat} {e:List V} {o:Opn},OprC P st d e o->OprC P st (d+1) e o
 |d+1,_, .mk _ _ _ _ _ _ _,⟨a,b,c,f,g⟩=>⟨a,b,c,f,g.G (fun _ _ h=>h.A (fun _ _ h=>OprC.G h) fun _ p _=>⟨p,rfl⟩) fun _ p _=>⟨p,rfl⟩⟩
theorem OprC.I (h:e<=Y){o:Opn}(k:OprC P st e n o):OprC P st Y n o:=by
 obtain⟨j,rfl⟩:=Nat.exists_eq_add_of_le h
 induction j with
 |zero=>exact k
 |succ j a=>exact(a (by omega)).G
theorem OprC.F :∀{d:Nat} {e:List V} {o:Opn},OprC P st d e o->e.length=7
 |d+1,_, .mk _ _ _ _ _ _ _,⟨b,c,a,_⟩=>by rw[a];rfl
end
structure EnvS where
 c:Nat
 a:List (Str×Nat)
 b:List (Int×List Str×Nat)
def varE (x:Str×Nat):List V:=[ofL x.1, .d .i64 (x.2:Nat)]
def NarC (P:Pt->Prop)(st:St)(e:List V)(x:Int×List Str×Nat):Prop:=∃pv,e=[.d .i64 x.1,pv, .d .i64 (x.2.2:Nat)]/\SlAt P st pv 1 (strs x.2.1)
def EnvC (P:Pt->Prop)(st:St)(e:List V)(E:EnvS):Prop:=∃vv nv,e=[.d .i64 (E.c:Nat),vv,nv]/\SlAt P st vv 2 (E.a.map varE)/\LstAt (NarC P st) P st nv 3 E.b
section
variable {P Q : Pt -> Prop} {st st' : St}
theorem NarC.A {e:List V}{x:Int×List Str×Nat}(h:NarC P st e x)(k:∀r,P r->st.A r≠ .none->Q r/\st'.A r=st.A r):NarC Q st' e x:=by
 obtain⟨a,b,c⟩:=h;exact⟨a,b,c.D k⟩
theorem EnvC.A {e:List V}{E:EnvS}(h:EnvC P st e E)(k:∀r,P r->st.A r≠ .none->Q r/\st'.A r=st.A r):EnvC Q st' e E:=by
 obtain⟨a,b,c,d,f⟩:=h;exact⟨a,b,c,d.D k,f.G (fun _ _ h=>h.A k) k⟩
end
def JaI (k:Int)(ns:List Str):Nat:=if k=4\/k=5\/k=6 then 1 else if k=7\/k=8 then ns.length else 0
structure Jd3 (n:Nd):Prop where
 e:1<=n.a/\n.a<=9
 a:n.c.length=JaI n.a n.b
 c:n.b=[]\/n.a=7\/n.a=8
 d:n.b.Nodup
 b:n.b.length<=8
def Q2 (l:List Nd):Prop:=∀(i:Nat) (n:Nd),l[i]? =some n->Jd3 n/\∀k∈n.c,k<i
theorem Q2.G :Q2 []:=fun i n h=>by simp at h
theorem Q2.F {l:List Nd}{n:Nd}(h:Q2 l)(b:Jd3 n)(d:∀k∈n.c,k<l.length):Q2 (l++[n]):=by
 intro i m a;by_cases c:i<l.length
 ·rw[XG c]at a;exact h i m a
 grind
theorem Q2.A {n:Nd}(h:Q2 f.a)(b:Jd3 n)(d:∀k∈n.c,k<f.a.length):Q2 (layS f n).1.a:=by
 unfold layS
 split
 ·exact h
 ·split
  ·exact h
  ·exact h.F b d
mutual
def JcI :Ty->Bool
 | .mk k n ns ks=>decide (1<=k/\k<=9)&&decide (ks.length=JaI k ns)&&(decide (ns=[])||decide (k=7)||decide (k=8))&&decide ns.Nodup&&decide (ns.length<=8)&&YB ks
def YB :List Ty->Bool
 |[]=>true
 |t::r=>JcI t&&YB r
end
theorem Jj4 :∀(l:List Str) (p:Option Str),Kk p l=0->l.Pairwise (fun a b=>Op.bytesLess a b=true)/\∀q,p=some q->∀n∈l,Op.bytesLess q n=true
 |[],p,_=>⟨.nil,fun _ _ n h=>by cases h⟩
 | n::r,p,h=>by
   rw[Kk]at h
   split at h
   ·cases h
   split at h
   ·cases h
   rename_i g f
   obtain⟨a,b⟩:=Jj4 r (some n) h;refine⟨HE.2 ⟨b n rfl,a⟩,fun q e m c=> ?_⟩;subst e;have d:Op.bytesLess q n=true:=by
    unfold Kx at f
    grind
   rcases Xq.1 c with rfl|c
   ·exact d
   ·exact qX d (b n rfl m c)
theorem Jj5 {t:Ty}(h:KG t=0):t.D.Nodup/\t.D.length<=8:=by
 unfold KG at h
 split at h
 ·cases h
 split at h
 ·omega
 rename_i a b
 exact⟨Jcy (Jj4 _ _ (by simpa using b)).1,by omega⟩
mutual
theorem Jj6 (f:Str->Bool):∀(t:Ty) (b g:Nat),(mayS f t b g).1=0->JcI t=true
 | .mk k n e d,b,g,h=>by
   rw[qR]at h
   split at h
   ·cases h
   split at h
   ·cases h
   split at h
   ·cases h
   split at h
   ·cases h
   split at h
   ·cases h
   split at h
   ·rename_i c;exact absurd h c
   rename_i s u v l w o
   have m:=Jj5 (t:= .mk k n e d) (by simpa using o);have i:d.length=JaI k e:=by
    have:¬d.length≠KS (.mk k n e d):=fun c=>l (.inl c);have:d.length=KS (.mk k n e d):=by simpa using this
    rw[this];rfl
   have j:e=[]\/k=7\/k=8:=by
    cases e with
    |nil=>exact .inl rfl
    | cons a r=>
      refine .inr ?_;have:=fun c=>l (.inr (.inr c));simp at this;omega
   rw[JcI];have p:=m.1;have q:=m.2;simp[Zg];exact⟨⟨⟨⟨⟨by omega,i⟩,by rcases j with a|a|a;exact .inl (.inl a);exact .inl (.inr a);exact .inr a⟩,p⟩,q⟩,Ja9 f d _ _ h⟩
theorem Ja9 (b:Str->Bool):∀(e:List Ty) (a d:Nat),(JE b e a d).1=0->YB e=true
 |[],_,_,_=>by rw[YB]
 | t::r,a,d,h=>by
   rw[Kg]at h
   split at h
   ·rename_i c;exact absurd h c
   rename_i c
   rw[YB,Jj6 b t a d (by simpa using c),Ja9 b r _ _ h];rfl
end
theorem JfM :∀{c:List Ty},YB c=true->∀t∈c,JcI t=true
 |[],_,t,h=>by cases h
 | a::r,h,t,b=>by
   rw[YB,Xk]at h;rcases Xq.1 b with rfl|b
   ·exact h.1
   ·exact JfM h.2 t b
mutual
theorem Jba :∀(t:Ty) {left:Int} {tb:Tb},JcI t=true->(addT t left tb).2.2.1=0->Q2 tb.a->Q2 (addT t left tb).1.a/\(addT t left tb).2.1<(addT t left tb).1.a.length
 | .mk k n l f,left,tb,d,b,h=>by
   rw[QS]at b⊢
   split at b
   ·simp at b
   rename_i c
   rw[Xa c];have d:=JcI.eq_1 k n l f▸d;simp[Zg]at d;obtain⟨⟨⟨⟨⟨m,o⟩,p⟩,q⟩,r⟩,s⟩:=d;have g:=JfN f (left:=left-1) (tb:=tb) s;generalize K:JA f (left-1) tb=x at b g⊢;obtain⟨u,i,e,L⟩:=x;simp only at b g⊢;by_cases j:e=0
   ·subst j;simp only[GS,XQ,X8]at b⊢;obtain⟨v,w,y⟩:=g rfl h;have z:Jd3 ⟨k,n,l,i⟩:=⟨m,by rw[y];exact o,by rcases p with(a|a)|a;exact .inl a;exact .inr (.inl a);exact .inr (.inr a),q,r⟩
    refine⟨v.A z w, ?_⟩;obtain⟨_,_,J,_⟩:=Jcu b;have:=jG J;rw[ZN]at this;exact(Xx.1 this.2).1
   ·rw[Xe j]at b;exact absurd b j
theorem JfN :∀(d:List Ty) {left:Int} {tb:Tb},YB d=true->(JA d left tb).2.2.1=0->Q2 tb.a->Q2 (JA d left tb).1.a/\(∀k∈(JA d left tb).2.1,k<(JA d left tb).1.a.length)/\(JA d left tb).2.1.length=d.length
 |[],left,tb,_,_,h=>by rw[Qm];exact⟨h,(fun k a=>by cases a),rfl⟩
 | t::r,left,tb,j,b,h=>by
   rw[Ku]at b⊢;rw[YB,Xk]at j;have m:=Jba t (left:=left) (tb:=tb) j.1;generalize z:addT t left tb=x at b m⊢;obtain⟨c,i,e,g⟩:=x;simp only at b m⊢;by_cases n:e=0
   ·subst n;simp only[GS,XQ,X8]at b⊢;obtain⟨v,J⟩:=m rfl h;have o:=JfN r (left:=g) (tb:=c) j.2;have f:(JA r g c).2.2.1=0:=by
     revert b;generalize JA r g c=y;exact fun b=>b
    obtain⟨K,p,_⟩:=qi r f;obtain⟨q,s,u⟩:=o f v;generalize L:JA r g c=y at b q s u p⊢;obtain⟨w,l,M,N⟩:=y;simp only at q s u p⊢;refine⟨q,fun k a=> ?_,by simp[u]⟩;rcases Xq.1 a with rfl|a
    ·rw[p];simp;omega
    ·exact s k a
   ·rw[Xe n]at b;exact absurd b n
end
theorem Jhp (e:Str->Bool):∀(p:Option Str) (j:List Sg) (d:Nat),(Qv e p j d).1=0->∀f∈j,YB (f.a++[f.b])=true
 |p,[],d,_,f,h=>by cases h
 | p,f::r,d,h,g,i=>by
   rw[Y7]at h
   split at h
   ·cases h
   split at h
   ·cases h
   split at h
   ·cases h
   split at h
   ·omega
   rename_i c
   rcases Xq.1 i with rfl|i
   ·exact Ja9 e _ 1 d (by omega)
   ·exact Jhp e _ r _ h g i
theorem Jlm {s:Sch}(h:Qx s=0):(∀p∈s.a,JcI p.2=true)/\JcI s.b=true/\∀f∈s.c,YB (f.a++[f.b])=true:=by
 rw[qm]at h
 split at h
 ·cases h
 split at h
 ·omega
 split at h
 ·omega
 rename_i j
 split at h
 ·omega
 rename_i d
 split at h
 ·omega
 rename_i e
 have g:=Ja9 _ _ _ _ (show(JE (hasN s.a) (s.a.map Prod.snd) 1 0).1=0 by omega);exact⟨fun p i=>JfM g p.2 (Xz.2 ⟨p,i,rfl⟩),Jj6 _ _ _ _ (by simpa using d),Jhp _ _ _ _ (by simpa using e)⟩
theorem JcJ :∀(l:List (Str×Ty)) {tb:Tb},(∀p∈l,JcI p.2=true)->(Jr l tb).2=0->Q2 tb.a->Q2 (Jr l tb).1.a
 |[],tb,_,_,h=>h
 | (n,t)::r,tb,d,b,h=>by
   rw[Jr]at b⊢
   split at b
   ·omega
   rename_i c
   rw[Xa c];exact JcJ r (fun p e=>d p (Xi _ e)) b (Jba t (d _ (Xu ..)) (by omega) h).1
theorem JcK :∀(d:List Ty) {b:Tb},YB d=true->(JN d b).2.2=0->Q2 b.a->Q2 (JN d b).1.a
 |[],b,_,_,h=>h
 | t::r,b,e,f,h=>by
   rw[JN]at f⊢;rw[YB,Xk]at e
   split at f
   ·grind
   rename_i c
   rw[Xa c];exact JcK r e.2 f (Jba t e.1 (by omega) h).1
theorem JcL :∀(d:List Sg) {tb:Tb},(∀f∈d,YB (f.a++[f.b])=true)->(Kb d tb).2=0->Q2 tb.a->Q2 (Kb d tb).1.a
 |[],tb,_,_,h=>h
 | f::r,tb,g,e,h=>by
   rw[Kb]at e⊢
   split at e
   ·omega
   rename_i c
   rw[Xa c];exact JcL r (fun p i=>g p (Xi _ i)) e (JcK _ (g _ (Xu ..)) (by omega) h)
theorem JpP (h:newS o=(some f,u)):Q2 f.a:=by
 unfold newS at h
 split at h
 ·grind
 split at h
 ·grind
 split at h
 ·grind
 split at h
 ·grind
 rename_i l m n p
 injection h with h _;injection h with h;subst h;obtain⟨d,g,i⟩:=Jlm (s:=o) (by omega);have j:=JcJ o.a (tb:=JF) d (by omega) Q2.G;have k:=(Jba o.b (left:=400) g (by omega) j).1;exact JcL o.c (tb:={(addT o.b 400 (Jr o.a JF).1).1 with b:=(addT o.b 400 (Jr o.a JF).1).2.1}) i (by omega) k
structure OfF (s:Sch) (tb:Tb):Prop where
 l:kC s tb
 g:Q2 tb.a
theorem Jm3 (h:newS o=(some f,u)):u=0/\OfF o f:=⟨(Jpw h).1,(Jpw h).2,JpP h⟩
section
variable {s : Sch} {tb : Tb}
theorem OfF.I (h:OfF s tb){i:Nat}(e:i<tb.a.length):∃o d,Ks tb (tb.a.length+1) i=(o,true)/\o<tb.a.length/\tb.a[o]? =some d/\d.a≠9/\Jd3 d/\∀k∈d.c,k<tb.a.length:=by
 obtain⟨j,d,a,b,c⟩:=h.l.D e;have f:=(Xx.1 b).1;exact⟨j,d,a,f,b,c,(h.g j d b).1,fun k m=>by have:=(h.g j d b).2 k m;omega⟩
def Jm (tb:Tb)(id:Nat):Nd:=tb.a.getD (Ks tb (tb.a.length+1) id).1 ⟨0,[],[],[]⟩
theorem OfF.F (h:OfF s tb)(m:e<tb.a.length):Ks tb (tb.a.length+1) e=((Ks tb (tb.a.length+1) e).1,true)/\(Ks tb (tb.a.length+1) e).1<tb.a.length/\tb.a[(Ks tb (tb.a.length+1) e).1]? =some (Jm tb e)/\(Jm tb e).a≠9/\Jd3 (Jm tb e)/\∀k∈(Jm tb e).c,k<tb.a.length:=by
 obtain⟨o,n,a,b,c,d,j,f⟩:=h.I m;have:Jm tb e=n:=by unfold Jm;grind
 grind
theorem OfF.M (h:OfF s tb)(c:1<=u/\u<=3)(b:(layS tb ⟨u,[],[],[]⟩).2.2=0):OfF s (layS tb ⟨u,[],[],[]⟩).1:=
 ⟨h.l.G (by omega) b,h.g.A ⟨⟨by grind,by grind⟩,by
  show 0=JaI u [];unfold JaI
  grind, .inl rfl,Gp,XC _⟩ fun u a=>by cases a⟩
end
mutual
theorem JfO {e:Str->Bool}{b:List Nd}(f:∀(i:Nat) (n:Nd),b[i]? =some n->n.a=9->e n.d=true):∀(X:Ty) {i:Nat},Ki b X=some i->KO e X=true
 | .mk k n o g,i,h=>by
   obtain⟨j,l,m⟩:=YQ h;rw[KO,Jd4 f g m,Gz,ZB,Zg];by_cases c:k=9
   ·exact .inr (f i _ l c)
   ·exact .inl c
theorem Jd4 {e:Str->Bool}{c:List Nd}(f:∀(i:Nat) (n:Nd),c[i]? =some n->n.a=9->e n.d=true):∀(X:List Ty) {i:List Nat},JS c X=some i->Kr e X=true
 |[],_,_=>by rw[Kr]
 | x::l,i,h=>by
   obtain⟨a,b,rfl,g,j⟩:=Qy h;rw[Kr,JfO f x g,Jd4 f l j];rfl
end
theorem OfF.J (h:OfF o f){i:Nat}{A:Nd}(q:f.a[i]? =some A):∃e,Ki f.a (.mk A.a A.d A.b e)=some i/\JS f.a e=some A.c/\Able (.mk A.a A.d A.b e):=by
 obtain⟨X,r,u⟩:=h.l.c.b i (Xx.1 q).1;obtain⟨k,n,t,e⟩:=X;obtain⟨j,m,p⟩:=YQ r;have m:f.a[i]? =some ⟨k,n,t,j⟩:=m;have p:JS f.a e=some j:=p
 grind
theorem OfF.G (h:OfF o f){b:Nat}{A:Nd}(z:f.a[Y]? =some A)(L:A.c=[b]):
  ∃K,Ki f.a K=some b/\KO (hasN o.a) (.mk 6 [] [] [K])=true/\(Q1 (.mk 6 [] [] [K]):Int)<=400/\fitT K=true/\∃left,addT (.mk 6 [] [] [K]) 400 f=((layS f ⟨6,[],[],[b]⟩).1,(layS f ⟨6,[],[],[b]⟩).2.1,(layS f ⟨6,[],[],[b]⟩).2.2,left):=by
 obtain⟨O,X,j,P,Z,Q,h4⟩:=h.J z;rw[L]at j
 cases O with
 |nil=>cases j
 | cons K r=>
   have S:r=[]:=by
    obtain⟨x,y,e,p,q⟩:=Qy j;injection e with t w;subst w
    cases r with
    |nil=>rfl
    |cons u v=>obtain⟨_,_,e,_⟩:=Qy q;cases e
   subst S;obtain⟨x,y,e,p,q⟩:=Qy j;injection e with t w;subst t;have d:Ki f.a K=some b:=p;have T:Q1 K+1<=400:=by
    rw[Q1,QF,QF]at P;omega
   have k:Able K:=h.l.A d;obtain⟨_,l1,U,W⟩:=k;have m:=Jfq K (left:=399) W d (by omega);refine⟨K,d, ?_, ?_,(h.l.A d).A,399-Q1 K, ?_⟩
   ·rw[KO,Kr,Kr,JfO (fun i n=>h.l.c.a i n) K d];rfl
   ·rw[Q1,QF,QF];omega
   ·rw[QS,Xa (by simp),Ku,show(400:Int)-1=399 from rfl,m];rfl
theorem OfF.N (h:OfF o f){A:Nd}(b:f.a[e]? =some A)(d:A.c=[Y])(m:(layS f ⟨6,[],[],[Y]⟩).2.2=0):OfF o (layS f ⟨6,[],[],[Y]⟩).1:=by
 obtain⟨K,n,i,_,_,left,j⟩:=h.G b d;have:=(h.l.F i (by grind)).1;rw[j]at this;refine⟨this,h.g.A ⟨⟨by simp,by simp⟩,rfl, .inl rfl,Gp,XC _⟩ fun k c=> ?_⟩;rcases Xq.1 c with rfl|c
 ·have:=(h.g e A b).2 k (by grind)
  grind
 grind
abbrev Ans3 :=Tb×Nat×Int
def Q3 :List (Str×Nat)->Str->Option Nat
 |[],_=>none
 | x::r,n=>match Q3 r n with
   |some i=>some (i+1)
   |none=>if x.1=n then some 0 else none
def Qh (E:EnvS)(n:Str):Option Int:=if n=[]then some (-1)else(Q3 E.a n).map fun i=>(i:Int)
def narS (v:Int)(path:List Str)(a:Nat×Nat)(x:Int×List Str×Nat):Nat×Nat:=if x.1=v/\a.2<=x.2.1.length/\x.2.1.length<=path.length/\x.2.1=path.take x.2.1.length then(x.2.2,x.2.1.length)else a
def kD (E:EnvS)(v:Int):Nat:=if v= -1 then E.c else(E.a.getD v.toNat ([],0)).2
def JaJ (E:EnvS)(v:Int)(path:List Str):Nat×Nat:=E.b.foldl (narS v path) (kD E v,0)
def fstN (n:Str):List Str->Option Nat
 |[]=>none
 |a::r=>if a=n then some 0 else(fstN n r).map (·+1)
def JbS (tb:Tb)(id:Nat)(n:Str):Option Nat:=if(Jm tb id).a=7 then match fstN n (Jm tb id).b with
 |some i=>(Jm tb id).c[i]?
 |none=>none else none
def YC (tb:Tb):Nat->List Str->Nat×Int
 |id,[]=>(id,0)
 | id,n::r=>match JbS tb id n with
   |some k=>YC tb k r
   |none=>(0,16)
def Qs (tb:Tb)(E:EnvS)(var:Str)(path:List Str):Nat×Int:=match Qh E var with
 |none=>(0,15)
 |some v=>YC tb (JaJ E v path).1 (path.drop (JaJ E v path).2)
def JaK (n:Str):Nat:=if n∈[[108,101,110],[110,111,116],[116,101,120,116],[104,97,115],[105,56],[105,49,54],[105,51,50],[117,56],[117,49,54],[117,51,50]]then 1 else 2
def JR (l:List Nd)(i:Nat)(k:Int):Bool:=match l[i]? with
 |some n=>decide (n.a=k)
 |none=>false
def okS (n:Str)(l:List Nd):Bool:=
 if n=[108,101,110]then JR l 0 3||JR l 0 4||JR l 0 5
 else if n=[110,111,116]then JR l 0 1
 else if n=[97,110,100]\/n=[111,114]then JR l 0 1&&JR l 1 1
 else if n=[101,113]then(JR l 0 1&&JR l 1 1)||(JR l 0 2&&JR l 1 2)||(JR l 0 3&&JR l 1 3)
 else if n=[108,116]\/n=[97,100,100]\/n=[115,117,98]\/n=[109,117,108]\/n=[115,104,108]\/n=[115,104,114]then JR l 0 2&&JR l 1 2
 else if n=[99,97,116]then JR l 0 3&&JR l 1 3
 else if n=[116,101,120,116]then JR l 0 2||JR l 0 1
 else if n=[104,97,115]then JR l 0 6
 else JR l 0 2
def resK (n:Str):Int:=if n∈[[110,111,116],[97,110,100],[111,114],[101,113],[108,116],[104,97,115]]then 1 else if n∈[[99,97,116],[116,101,120,116]]then 3 else 2
def kid0 (l:List Nd):Option Nat:=match l[0]? with
 |some n=>n.c[0]?
 |none=>none
def Qt (tb:Tb)(n:Str)(args:List Nat)(l:List Nd):Ans3:=
 if n=[97,116]then match JR l 0 4&&JR l 1 2,kid0 l with
  |true,some k=>(tb,k,0)
  |_,_=>(tb,0,17)
 else if n=[103,101,116]then match JR l 0 5&&JR l 1 3,kid0 l with
  |true,some k=>if(Jm tb k).a=6 then(tb,0,17)else layS tb ⟨6,[],[],[k]⟩
  |_,_=>(tb,0,17)
 else if n=[111,114,101,108,115,101]then match JR l 0 6,kid0 l with
  |true,some k=>if args[1]? =some k then(tb,k,0)else(tb,0,17)
  |_,_=>(tb,0,17)
 else if okS n l then layS tb ⟨resK n,[],[],[]⟩else(tb,0,17)
def isBi (n:Str):Bool:=Ko n&&Lib.contains Yx (32::(n++[32]))
def ofK (sg:Tb->List Nat->List Nat->Nat×Int)(tb:Tb)(n:Str)(args:List Nat):Ans3:=
 if isBi n then if args.length≠JaK n then(tb,0,18)else Qt tb n args (args.map (Jm tb))
 else match sigI tb n with
  |none=>(tb,0,15)
  |some ids=>(tb,sg tb ids args)
section
variable (sg : Tb -> List Nat -> List Nat -> Nat × Int)
def QJ (f:Tb->Opn->Ans3):Tb->List Opn->Tb×List Nat×Int
 |tb,[]=>(tb,[],0)
 | tb,o::r=>match f tb o with
   | (tb,id,e)=>if e≠0 then(tb,[],e)else match QJ f tb r with
     |(tb,l,e)=>(tb,id::l,e)
def Opn.k :Opn->Int| .mk k _ _ _ _ _ _=>k
def Opn.s :Opn->Str| .mk _ _ _ s _ _ _=>s
def Jj7 (f:Tb->Opn->Ans3)(tb:Tb)(n:Str)(last:List Nat)(r:List Opn):Ans3:=match QJ f tb r with
 |(tb,l,e)=>if e≠0 then(tb,0,e)else ofK sg tb n (l++last)
def cmdS (f:Tb->Opn->Ans3)(tb:Tb)(last:List Nat):List Opn->Ans3
 |[]=>(tb,0,12)
 | o::r=>if o.k=6 then Jj7 sg f tb o.s last r
   else match f tb o with
    |(tb,id,e)=>if e=0/\last≠[]then(tb,0,18)else(tb,id,e)
def pipS (f:Tb->Opn->Ans3):Tb->List Nat->Pipe->Ans3
 |tb,[],[]=>(tb,0,12)
 |tb,x::_,[]=>(tb,x,0)
 | tb,last,c::r=>match cmdS sg f tb last c with
   |(tb,id,e)=>if e≠0 then(tb,0,e)else pipS f tb [id] r
def opnS :Nat->EnvS->Tb->Opn->Ans3
 |0,_,tb,_=>(tb,0,12)
 | d+1,E,tb, .mk k var path s _ _ p=>
   if k=2 then layS tb ⟨3,[],[],[]⟩else if k=3 then layS tb ⟨2,[],[],[]⟩else if k=4 then layS tb ⟨1,[],[],[]⟩
   else if k=5 then pipS sg (opnS d E) tb [] p else if k=6 then ofK sg tb s []else(tb,Qs tb E var path)
def ofS (m:Nat)(E:EnvS)(tb:Tb)(p:Pipe):Ans3:=pipS sg (opnS sg m E) tb [] p
def Yo (E:EnvS)(p:Pipe):Option (Int×List Str):=match p with
 |[[.mk k var path _ _ _ _]]=>if k=1 then(Qh E var).map fun v=>(v,path)else none
 |_=>none
abbrev Cls :=List (Str×Nat)
abbrev AnsR :=Tb×Cls×Int×Int
def Q4 (E:EnvS)(id:Nat):EnvS:=⟨id,E.a,E.b.filter fun x=>decide (x.1≠-1)⟩
def varS (E:EnvS)(n:Str)(id:Nat):EnvS:=⟨E.c,E.a++[(n,id)],E.b⟩
def Qe (E:EnvS)(x:Int×List Str×Nat):EnvS:=⟨E.c,E.a,E.b++[x]⟩
def setS (E:EnvS)(n:Str)(id:Nat):Int:=match Q3 E.a n with
 |none=>15
 |some i=>if(E.a.getD i ([],0)).2≠id\/(E.b.any fun x=>decide (x.1=(i:Int)))=true then 17 else 0
def Q6 (row:Tb->Cls->EnvS->List Nod->AnsR)(tb:Tb)(cs:Cls)(E1:EnvS)(b:List Nod)(E2:EnvS)(o:List Nod):AnsR:=match row tb cs E1 b with
 |(tb,cs,e,a)=>if e≠0 then(tb,cs,e,a)else row tb cs E2 o
def Jam (row:Tb->Cls->EnvS->List Nod->AnsR)(E:EnvS)(nd:Nd):Tb->Cls->List Nat->List (Str×List Nod)->AnsR×List Nat
 |tb,cs,was,[]=>((tb,cs,0,-1),was)
 | tb,cs,was,(t,b)::r=>match fstN t nd.b with
   |none=>((tb,cs,19,-1),was)
   | some i=>if i∈was then((tb,cs,19,-1),was)else match row tb cs (Q4 E (nd.c.getD i 0)) b with
     |(tb,cs,e,a)=>if e≠0 then((tb,cs,e,a),was)else Jam row E nd tb cs (i::was) r
def oneS (row:Tb->Cls->EnvS->List Nod->AnsR)(names:List Str)(tb:Tb)(cs:Cls)(E:EnvS)(id:Nat):Nod->AnsR
 | .mk k _ _ name p body els he cases=>
   let x:=Jm tb id
   if k=2 then(tb,cs,if 1<=x.a/\x.a<=3 then 0 else 17,-1)
   else if k=4 then(tb,cs,setS E name id,-1)
   else if k=5 then
    if x.a=6 then match Yo E p with
     |some (v,path)=>Q6 row tb cs (Qe E (v,path,x.c.getD 0 0)) body E els
     |none=>Q6 row tb cs E body E els
    else if x.a=1 then Q6 row tb cs E body E els
    else(tb,cs,17,-1)
   else if k=6 then Q6 row tb cs (Q4 E (if x.a=6 then x.c.getD 0 0 else id)) body E els
   else if k=7 then if x.a=4\/x.a=5 then Q6 row tb cs (Q4 E (x.c.getD 0 0)) body E els else(tb,cs,17,-1)
   else if k=8 then
    if x.a=8 then match Jam row E x tb cs [] cases with
     |((tb,cs,e,a),was)=>if e≠0 then(tb,cs,e,a)else if was.length<x.b.length/\he=false then(tb,cs,19,-1)else row tb cs E els
    else(tb,cs,17,-1)
   else if k=9 then if name∈names then(tb,cs++[(name,if p=[]then E.c else id)],0,-1)else(tb,cs,15,-1)
   else(tb,cs,0,-1)
def Nod.k :Nod->Int| .mk k _ _ _ _ _ _ _ _=>k
def Nod.a :Nod->Int| .mk _ a _ _ _ _ _ _ _=>a
def Nod.A :Nod->Str| .mk _ _ _ n _ _ _ _ _=>n
def Nod.F :Nod->Pipe| .mk _ _ _ _ p _ _ _ _=>p
def typS (m:Nat)(E:EnvS)(tb:Tb)(n:Nod):Ans3:=if n.k≠1/\(n.k≠9\/n.F≠[])then ofS sg m E tb n.F else(tb,0,0)
def JaL (one:Tb->Cls->EnvS->Nat->Nod->AnsR)(m:Nat):Tb->Cls->EnvS->List Nod->AnsR
 |tb,cs,_,[]=>(tb,cs,0,-1)
 | tb,cs,E,n::r=>match typS sg m E tb n with
   | (tb,id,e)=>if e≠0 then(tb,cs,e,n.a)else match one tb cs E id n with
     |(tb,cs,e,a)=>if e≠0 then(tb,cs,e,if a<0 then n.a else a)else JaL one m tb cs (if n.k=3 then varS E n.A id else E) r
def rowS (names:List Str)(m:Nat):Nat->Tb->Cls->EnvS->List Nod->AnsR
 |0,tb,cs,_,_=>(tb,cs,0,-1)
 |d+1,tb,cs,E,l=>JaL sg (oneS (rowS names m d) names) m tb cs E l
end
section
variable {T : Table} {lf : Nat} {c : C} {fr : Fr} {Q : Out -> Prop} {S : St} {n0 : Pt} {p q : Pt} {cs ds z y : List V}
theorem Qi (a:S.b=p)(f:Nat->Row):(S.B f).A p=f S.t:=by subst a;exact JI S f
theorem nm1 (e:WF S)(f:S.b=up 0 n0)(g:up 0 n0=p)(h:∀d,Gr S d->S.A p= .none->(∃t,d.A p= .a t cs)->wC T lf c fr d Q):wC T lf c fr (S.B fun t=> .a t cs) Q:=by
 subst g;exact h _ (Gr.G e (Jc _)) (nx0 e f 0) ⟨_,Qi f _⟩
theorem nm2 (g:WF S)(d:S.b=up 0 n0)(m:up 0 n0=p)(n:up 1 n0=q)(h:∀f,Gr S f->S.A p= .none->S.A q= .none->p≠q->(∃t,f.A p= .a t cs)->(∃t,f.A q= .a t ds)->wC T lf c fr f Q):wC T lf c fr ((S.B fun t=> .a t cs).B fun t=> .a t ds) Q:=by
 subst m;subst n;have i:=Gr.G g (Jc cs);have o:(S.B fun t=> .a t cs).A (up 0 n0)= .a S.t cs:=Qi d _;have j:(S.B fun t=> .a t cs).b=up 1 n0:=by
  show up 1 S.b=_;rw[d];rfl
 have l:=Gr.G i.D (Jc ds);have k:up 0 n0≠up 1 n0:=fun e=>by
  have:=J6 i.D
  grind
 exact h _ (i.A l) (nx0 g d 0) (nx0 g d 1) k ⟨_,l.B o⟩ ⟨_,Qi j _⟩
theorem nmA (e:WF S)(f:S.b=up 0 n0)(g:up 0 n0=p)(h:∀d,Gr S d->S.A p= .none->(∃t,d.A p= .a t cs)->wC T lf c fr d Q):wC T lf c fr ((S.B fun t=> .a t z).D p S.t fun t=> .a t cs) Q:=by
 subst g;exact h _ ((Gr.F e).M f (Jc _) (Jc _)) (nx0 e f 0) ⟨_,Jh _ _ _ _⟩
theorem nm1c {m:Bool}{c:Option (List Nat)}{args:List V}{R:V->St->Prop}(g:WF S)(i:S.b=up 0 n0)(j:up 0 n0=p)(h:∀d,Gr S d->S.A p= .none->(∃t,d.A p= .a t cs)->Kh T m c e args fr d R):Kh T m c e args fr (S.B fun t=> .a t cs) R:=by
 subst j;exact h _ (Gr.G g (Jc _)) (nx0 g i 0) ⟨_,Qi i _⟩
end
theorem JbT {T:Table}{g:List V->St->Option V}(c:T e=some (JaB g).b){args:List V}{v:V}(d:g args h=some v){Q:V->St->Prop}(a:Q v h):Does T e args h Q:=by
 refine⟨v,h,a,1,fun n i=> ?_⟩;obtain⟨n,rfl⟩:∃k,n=k+1:=⟨n-1,by omega⟩
 simp[run,c,JaB,d]
theorem JbU :∀(l:List (Str×Nat)),kP (l.map varE).flatten=some (l.map fun x=>(x.1.length,snum x.1,(x.2:Int)))
 |[]=>rfl
 | x::r=>by
   simp[varE,ofL,kP,JbU r]
theorem Jdk (n:Str):∀(l:List (Str×Nat)),jl (fun p=>p.1==n.length&&p.2.1==snum n) (l.map fun x=>(x.1.length,snum x.1,(x.2:Int)))=Q3 l n
 |[]=>rfl
 | x::r=>by
   rw[XK,jl,Q3,Jdk n r]
   cases Q3 r n with
   |some i=>rfl
   | none=>
     simp;by_cases h:x.1=n
     ·grind
     ·rw[Xa h];have:¬((x.1.length==n.length&&snum x.1==snum n)=true):=fun e=>by
       simp[ZF]at e;exact h (Jq1.1 (by unfold ofL;grind))
      grind
def JaM (E:EnvS)(n:Str):V:=match Qh E n with
 |some z=> .p [.d .i64 z, .h true]
 |none=> .p [.d .i64 (-1), .h false]
theorem JfP {E:EnvS}(b:EnvC t h n E)(o:E.a.length<=100000)(c:Str):Jfp [.j n,ofL c] h=some (JaM E c):=by
 obtain⟨p,q,rfl,g,d⟩:=b;obtain⟨r,d,_⟩:=d;have i:=g.N;have m:=d.N;have k:=g.O;rw[Xr]at i k;unfold JaM Qh Jfp ofL;simp only[i,m];rw[Xa (by omega)];by_cases l:c=[]
 ·grind
 ·have f:¬c.length=0:=fun n=>l (Xo n);rw[Xa f,Xa l,k];simp[JbU,Jdk]
  grind
theorem Jj8 {P:Pt->Prop}{f:St}:∀(c:List (List V)) (l:List (Int×List Str×Nat)),c.length=l.length->(∀i (h:i<c.length) (m:i<l.length),NarC P f c[i] l[i])->JaC c.flatten=some (l.map (·.1))
 |[],[],_,_=>rfl
 |[],_::_,h,_=>by simp at h
 |_::_,[],h,_=>by simp at h
 | e::c,x::l,h,k=>by
   have d:=k 0 (by simp) (by simp);simp at d;obtain⟨n,rfl,g⟩:=d;have j:=Jj8 c l (by grind) fun i a b=>by have:=k (i+1) (by grind) (by grind);simpa using this
   simp[JaC,g.N,j]
theorem JpQ {E:EnvS}(c:EnvC t h n E)(v:E.a.length<=100000)(w:E.b.length<=100000)(u:V)(f:Str)(id:Nat):setG [u, .j n,ofL f, .d .i64 (id:Nat)] h=some (.d .i64 (setS E f id)):=by
 obtain⟨y,z,rfl,k,g⟩:=c;obtain⟨r,g,l,s⟩:=g;have m:=k.N;have o:=g.N;have p:=k.O;have q:=g.O;rw[Xr]at m p;rw[l]at o q;unfold setS setG ofL;simp only[m,o];rw[Xa (by omega),p,q];simp[JbU,Jj8 r E.b l s,Jdk]
 cases J:Q3 E.a f with
 |none=>rfl
 | some i=>
   simp;have K:((E.a.map fun x=>(x.1.length,snum x.1,(x.2:Int))).getD i default).2.2=(((E.a.getD i ([],0)).2:Nat):Int):=by
    rw[XA,XA,HL]
    cases E.a[i]? with
    |none=>rfl
    |some x=>rfl
   grind
theorem JpR {n:Nd}(h:(layS f n).2.2≠0):(layS f n).1=f:=by
 unfold layS at h⊢
 grind
theorem Jrs {n:Nd}(h:(layS f n).2.2=0):(layS f n).2.1<(layS f n).1.a.length:=by
 obtain⟨_,_,b,_⟩:=Jcu h;have:=jG b
 grind
structure Fine (s:Sch) (tb:Tb) (x:Ans3):Prop where
 b:OfF s x.1
 f:tb.a.length<=x.1.a.length
 g:x.2.2=0->x.2.1<x.1.a.length
theorem Fine.G {c:Tb}(h:OfF o c){e:Int}(k:e=0->Y<c.a.length):Fine o c (c,Y,e):=⟨h,Xb _,k⟩
theorem Fine.F {a:Tb}(h:OfF o a)(k:u≠0):Fine o a (a,0,u):=Fine.G h fun c=>absurd c k
theorem Fine.J {a:Tb}{n:Nd}(h:OfF o a)(k:(layS a n).2.2=0->OfF o (layS a n).1):Fine o a (layS a n):=by
 by_cases c:(layS a n).2.2=0
 ·obtain⟨r,e,_⟩:=Jcu c;exact⟨k c,by grind,fun _=>Jrs c⟩
 ·have:=JpR c;exact⟨by grind,by grind,fun d=>absurd d c⟩
theorem Fine.I {a:Tb}(h:OfF o a)(d:1<=u/\u<=3):Fine o a (layS a ⟨u,[],[],[]⟩):=Fine.J h fun c=>h.M d c
theorem Jrt (n:Str):1<=resK n/\resK n<=3:=by
 unfold resK;omega
theorem Fine.K {d:Tb}(h:OfF o d){args:List Nat}(u:∀a∈args,a<d.a.length)(n:Str):Fine o d (Qt d n args (args.map (Jm d))):=by
 have e:∀{k:Nat},kid0 (args.map (Jm d))=some k->k<d.a.length/\∃a A,d.a[a]? =some A/\A.c[0]? =some k/\Jd3 A/\∀i:Int,JR (args.map (Jm d)) 0 i=decide (A.a=i):=fun{k} m=>by
  unfold kid0 at m
  cases args with
  |nil=>grind
  | cons a r=>
    simp at m;obtain⟨_,O,v,_,w,x⟩:=h.F (u a (Xu ..));exact⟨x k (GE m),_,_,v,m,w,fun i=>rfl⟩
 unfold Qt
 split
 ·split
  ·rename_i p j;exact Fine.G h fun _=>(e j).1
  ·exact Fine.F h (by decide)
 split
 ·split
  ·rename_i k p j
   obtain⟨_,a,A,y,P,z,L⟩:=e j;rw[Xk,L]at p;have q:=X7 p.1
   split
   ·exact Fine.F h (by decide)
   ·have t:=z.a;rw[q]at t;have l:A.c=[k]:=by
     match Q:A.c,t with
     |[c],_=>grind
    exact Fine.J h fun c=>h.N y l c
  ·exact Fine.F h (by decide)
 split
 ·split
  ·rename_i p j
   split
   ·exact Fine.G h fun _=>(e j).1
   ·exact Fine.F h (by decide)
  ·exact Fine.F h (by decide)
 split
 ·exact Fine.I h (Jrt n)
 ·exact Fine.F h (by decide)
section
variable {sg : Tb -> List Nat -> List Nat -> Nat × Int} {s : Sch}
def SgOK (sg:Tb->List Nat->List Nat->Nat×Int)(s:Sch):Prop:=∀tb n ids args,OfF s tb->sigI tb n=some ids->(sg tb ids args).2=0->(sg tb ids args).1<tb.a.length
theorem SgOK.A (h:s.c=[]):SgOK sg s:=fun f n d args e a=>by
 rw[e.l.b n (by grind)]at a;cases a
theorem Fine.M (i:SgOK sg s){c:Tb}(h:OfF s c){args:List Nat}(j:∀a∈args,a<c.a.length)(n:Str):Fine s c (ofK sg c n args):=by
 unfold Eva.ofK
 split
 ·split
  ·exact Fine.F h (by decide)
  ·exact Fine.K h j n
 ·split
  ·exact Fine.F h (by decide)
  ·rename_i d k
   exact Fine.G (e:=(sg c d args).2) h (i c n d args h k)
end
structure EnvK (tb:Tb) (E:EnvS):Prop where
 d:E.c<tb.a.length
 b:∀x∈E.a,x.2<tb.a.length/\x.1≠[]
 c:∀x∈E.b,-1<=x.1/\x.2.1.length<100000/\x.2.2<tb.a.length
 e:E.a.length<100000
 f:E.b.length<100000
theorem EnvK.A {i g:Tb}{E:EnvS}(h:EnvK i E)(k:i.a.length<=g.a.length):EnvK g E:=
 ⟨by have:=h.d;omega,fun x a=>by have:=h.b x a;grind,fun x a=>by have:=h.c x a;omega,h.e,h.f⟩
theorem Jj9 {n:Str}:∀{l:List (Str×Nat)} {i:Nat},Q3 l n=some i->i<l.length
 |[],_,h=>by cases h
 | x::r,i,h=>by
   rw[Q3]at h
   cases a:Q3 r n with
   | some k=>
     rw[a]at h;injection h with h;subst h;have:=Jj9 a
     grind
   | none=>
     grind
theorem qC {E:EnvS}{n:Str}(h:Qh E n=some u):u= -1\/∃i:Nat,u=i/\i<E.a.length:=by
 unfold Qh at h
 split at h
 ·grind
 ·cases b:Q3 E.a n with
  |none=>grind
  |some i=>rw[b]at h;injection h with h;exact .inr ⟨i,h.symm,Jj9 b⟩
theorem JpS {E:EnvS}(h:EnvK f E)(g:u= -1\/∃i:Nat,u=i/\i<E.a.length):kD E u<f.a.length:=by
 unfold kD
 split
 ·exact h.d
 ·rename_i c
  rcases g with rfl|⟨i,rfl,e⟩
  ·omega
  ·rw[Zu,XA,Xg e];exact(h.b _ (Xh e)).1
theorem Jm4 {n:Nat}{v:Int}{b:List Str}:∀(l:List (Int×List Str×Nat)) (a:Nat×Nat),(∀x∈l,x.2.2<n)->a.1<n->a.2<=b.length->(l.foldl (narS v b) a).1<n/\(l.foldl (narS v b) a).2<=b.length
 |[],a,_,h,k=>⟨h,k⟩
 | x::r,a,c,h,k=>by
   rw[Zz];refine Jm4 r _ (fun y d=>c y (Xi _ d)) ?_ ?_
   ·unfold narS;grind
   ·unfold narS;grind
theorem JfQ {E:EnvS}(h:EnvK f E)(e:u= -1\/∃i:Nat,u=i/\i<E.a.length)(d:List Str):(JaJ E u d).1<f.a.length/\(JaJ E u d).2<=d.length:=
 Jm4 E.b _ (fun x a=>(h.c x a).2.2) (JpS h e) (XC _)
theorem JpT (h:OfF o f){id:Nat}{n:Str}(c:id<f.a.length)(b:JbS f id n=some Y):Y<f.a.length:=by
 obtain⟨_,_,_,_,_,d⟩:=h.F c;unfold JbS at b
 split at b
 ·split at b
  ·exact d Y (GE b)
  grind
 grind
theorem Jka {s:Sch}{b:Tb}(h:OfF s b):∀(l:List Str) {id:Nat},id<b.a.length->(YC b id l).2=0->(YC b id l).1<b.a.length
 |[],_,c,_=>c
 | n::r,id,c,e=>by
   rw[YC]at e⊢
   cases d:JbS b id n with
   |none=>grind
   |some k=>rw[d]at e;exact Jka h r (JpT h c d) e
theorem Fine.N {i:Tb}(h:OfF o i){E:EnvS}(k:EnvK i E)(d:Str)(a:List Str):Fine o i (i,Qs i E d a):=by
 refine Fine.G (e:=(Qs i E d a).2) h fun c=> ?_;show(Qs i E d a).1<_;unfold Qs at c⊢
 cases j:Qh E d with
 |none=>grind
 |some v=>rw[j]at c;exact Jka h _ (JfQ k (qC j) a).1 c
section
variable {sg : Tb -> List Nat -> List Nat -> Nat × Int} {s : Sch} (hsg : SgOK sg s)
include hsg
def Jhq (s:Sch)(E:EnvS)(f:Tb->Opn->Ans3)(P:Opn->Prop):Prop:=∀tb o,P o->OfF s tb->EnvK tb E->Fine s tb (f tb o)
omit hsg in
theorem Jhr {E:EnvS}{f:Tb->Opn->Ans3}{P:Opn->Prop}(m:Jhq s E f P):∀(l:List Opn) {tb:Tb},(∀o∈l,P o)->OfF s tb->EnvK tb E->OfF s (QJ f tb l).1/\tb.a.length<=(QJ f tb l).1.a.length/\((QJ f tb l).2.2=0->(∀a∈(QJ f tb l).2.1,a<(QJ f tb l).1.a.length)/\(QJ f tb l).2.1.length=l.length)
 |[],tb,_,h,_=>⟨h,Xb _,fun _=>⟨fun a c=>(by cases c),rfl⟩⟩
 | o::r,tb,n,h,p=>by
   have d:=m tb o (n o (Xu ..)) h p;rw[QJ];generalize f tb o=x at d;obtain⟨i,id,e⟩:=x;simp only;by_cases c:e=0
   ·rw[Xa (fun k=>k c)];have q:=Jhr m r (tb:=i) (fun o v=>n o (Xi _ v)) d.b (p.A d.f);generalize QJ f i r=y at q;obtain⟨w,l,K⟩:=y;obtain⟨J,t,u⟩:=q;refine⟨J,Zb d.f t,fun z=>⟨fun a j=> ?_,by simp[(u z).2]⟩⟩;rcases Xq.1 j with rfl|j
    ·exact Zs (d.g c) t
    ·exact(u z).1 a j
   ·rw[Xe c];exact⟨d.b,d.f,fun z=>absurd z c⟩
theorem Jkb {E:EnvS}{d:Tb->Opn->Ans3}{P:Opn->Prop}(m:Jhq s E d P){i:List Nat}(L:∀a∈i,a<f.a.length)(h:OfF s f)(n:EnvK f E):∀(c:List Opn),(∀o∈c,P o)->Fine s f (cmdS sg d f i c)
 |[],_=>Fine.F h (by decide)
 | o::r,p=>by
   rw[cmdS]
   split
   ·unfold Jj7;have q:=Jhr m r (tb:=f) (fun o v=>p o (Xi _ v)) h n;generalize QJ d f r=y at q;obtain⟨w,l,J⟩:=y;obtain⟨t,u,N⟩:=q;simp only;by_cases c:J=0
    ·rw[Xa (fun k=>k c)];have:=Fine.M hsg t (args:=l++i) (fun a O=>by
      grind) o.s
     exact⟨this.b,Zb u this.f,this.g⟩
    ·rw[Xe c];exact⟨t,u,fun z=>absurd z c⟩
   ·have j:=m f o (p o (Xu ..)) h n;generalize d f o=x at j;obtain⟨K,id,e⟩:=x;simp
    split
    ·exact⟨j.b,j.f,fun z=>by cases z⟩
    omega
theorem JfR {E:EnvS}{f:Tb->Opn->Ans3}{P:Opn->Prop}(l:Jhq s E f P):∀(p:Pipe) {tb:Tb} {last:List Nat},(∀a∈last,a<tb.a.length)->OfF s tb->EnvK tb E->(∀c∈p,∀o∈c,P o)->Fine s tb (pipS sg f tb last p)
 |[],tb,[],_,h,_,_=>Fine.F h (by decide)
 |[],tb,x::_,i,h,_,_=>Fine.G h fun _=>i x (Xu ..)
 | c::r,tb,last,i,h,m,n=>by
   have d:=Jkb hsg l i h m c (n c (Xu ..));rw[pipS];generalize cmdS sg f tb last c=x at d;obtain⟨j,id,e⟩:=x;simp only;by_cases z:e=0
   ·rw[Xa (fun k=>k z)];have:=JfR l r (tb:=j) (last:=[id]) (fun a q=>by rw[Xj.1 q];exact d.g z) d.b (m.A d.f) fun c t=>n c (Xi _ t);exact⟨this.b,Zb d.f this.f,this.g⟩
   ·rw[Xe z];exact⟨d.b,d.f,fun k=>absurd k z⟩
theorem JaN :∀(d:Nat) (E:EnvS),Jhq s E (opnS sg d E) fun _=>True
 |0,E=>fun i o _ h f=>Fine.F h (by decide)
 | d+1,E=>fun i o _ h f=>by
   obtain⟨k,g,e,j,n,b,p⟩:=o;rw[opnS]
   split
   ·exact Fine.I h (by decide)
   split
   ·exact Fine.I h (by decide)
   split
   ·exact Fine.I h (by decide)
   split
   ·exact JfR hsg (JaN d E) p (fun a c=>by cases c) h f fun _ _ _ _=>trivial
   split
   ·exact Fine.M hsg h (fun a c=>by cases c) j
   ·exact Fine.N h f g e
theorem Jru {E:EnvS}(h:OfF s f)(b:EnvK f E)(p:Pipe):Fine s f (ofS sg e E f p):=JfR hsg (JaN hsg e E) p (fun a c=>by cases c) h b fun _ _ _ _=>trivial
end
theorem JpU {st:St}{n c:Nat}(g:n<=c)(h:c<2^20):JlS st 1 [.d .i64 0] (.d .i64 (n:Int)) (.d .i64 (c:Int))=some (.m st.b 0 n 1 c, .b fun t=> .a t (List.replicate c (.d .i64 0))):=by
 have e:(List.replicate c [V.d .i64 0]).flatten=List.replicate c (.d .i64 0):=by simp
 have f:∀c:Nat,QK (.d .i64 (c:Int))=some c:=fun c=>by rfl
 show evOp (fun _=> .e) st (.t 1 [.d .i64 0] (.c (.d .i64 (n:Int))) (.c (.d .i64 (c:Int))))=_;simp[evOp,Opd.A,f]
 grind
theorem Jkc (a:List V)(k:Nat)(z v:V):Jw (a++List.replicate (k+1) z) a.length [v]=(a++[v])++List.replicate k z:=by
 rw[JK,ZR];simp
theorem Jeq {S:St}{v:V}(w:WF S)(b:SlAt t h v e g)(N:∀x,h.A x≠ .none->S.A x=h.A x)(j:okC g){o c:Nat}(q:S.A x= .a Y n)(O:o+c*e<=n.length)(y:g.length<=c)
  {R:V->St->Prop} (k:∀s Q,Ch (fun f=>f=x) S s->s.A x= .a Q (Jw n o g.flatten)->R (.d .i64 g.length) s):wW (copyV S e (.m x o c e c) v) S R:=by
 have K:SlAt t S v e g:=b.D fun x p i=>⟨p,N x i⟩
 have L:=Jp b.1;have W:Nat.min g.length c=g.length:=Zd y;have M:g.length*e<=c*e:=XT _ y;unfold copyV;rw[K.U];simp only[slen,W,K.T];by_cases u:g.length=0
 ·rw[Xe u];have:g=[]:=XD.1 u;subst this;refine k S Y (Ch.G _ w) ?_;rw[q];simp[JK]
 ·rw[Xa u];simp only[jY,JO,q];rw[Xe ⟨by omega,j.A⟩];refine k _ S.t ?_ (Jh _ _ _ _);exact(Ch.G (fun f=>f=x) w).J (by grind) (by rw[q];rfl) (.inl rfl) (Jc _)
def TabU (S:St)(U:Pt->Prop)(rt:Pt)(tb:Tb):Prop:=WF S/\(∃W F,Tab W F S rt tb/\∀r,W r\/F r->U r)/\∀r,U r->S.A r≠ .none
theorem Ch.F {c:Pt->Prop}{a b:St}(h:Ch t a b)(k:∀r,t r->c r):Ch c a b:=⟨h.i,fun r e n=>h.d r e fun w=>n (k r w)⟩
section
variable {U U' U'' : Pt -> Prop} {S S' S'' : St} {rt : Pt} {tb tb' : Tb}
theorem TabU.A (h:TabU S U rt tb)(g:Gr S S'):TabU S' U rt tb:=by
 obtain⟨_,⟨W,F,a,b⟩,c⟩:=h;exact⟨g.D,⟨W,F,a.G g,b⟩,fun r u=>by rw[g.d r (c r u)];grind⟩
theorem TabU.G (h:TabU S U rt tb)(e:S.A x= .none):¬U x:=fun u=>h.2.2 x u e
theorem Qz {lo:Nat}(h:TabU S U rt tb)(b:WF {S with a:=lo}):TabU {S with a:=lo} U rt tb:=by
 obtain⟨_,⟨W,F,c,d⟩,e⟩:=h;exact⟨b,⟨W,F,c.A fun r _ _=>rfl,d⟩,e⟩
theorem TabU.I (f:TabU S U rt tb){F:Pt->Prop}(g:∀r,t r\/F r->U r){a b:Pt->Prop}(c:Ch t S S')(j:∀r,a r->t r\/S.A r= .none)(l:∀r,b r->F r\/S.A r= .none)(d:Tab a b S' rt tb'):
  Ch U S S'/\∃U',TabU S' U' rt tb'/\∀r,U' r->U r\/S.A r= .none:=by
 have i:=d.B;refine⟨c.F fun r w=>g r (.inl w),fun r=>U r\/((a r\/b r)/\S'.A r≠ .none),⟨c.D,⟨a,_,i,fun r h=> ?_⟩,fun r h=> ?_⟩,fun r h=> ?_⟩
 ·rcases h with h|h
  ·refine .inr ⟨.inl h, ?_⟩;obtain⟨_,_,_,_,_,_,k⟩:=d;exact fun e=>k.u r h e
  grind
 ·rcases h with h|h
  ·exact fun e=>f.2.2 r h (c.B e)
  grind
 grind
structure RunA (U:Pt->Prop) (S S':St) (U':Pt->Prop) (rt:Pt) (tb:Tb):Prop where
 ch:Ch U S S'
 tab:TabU S' U' rt tb
 a:∀r,U' r->U r\/S.A r= .none
theorem RunA.I (h:TabU S U rt tb):RunA U S S U rt tb:=⟨Ch.G _ h.1,h,fun r w=> .inl w⟩
theorem RunA.A (h:RunA U S S' U' rt tb)(k:RunA U' S' S'' U'' rt tb'):RunA U S S'' U'' rt tb':=
 ⟨h.ch.A k.ch h.a,k.tab,fun r w=>by
  rcases k.a r w with w|w
  ·exact h.a r w
  ·exact .inr (h.ch.B w)⟩
theorem RunA.K (h:RunA U S S' U' rt tb)(g:Gr S' S''):RunA U S S'' U' rt tb:=h.A ⟨Ch.H _ g,h.tab.A g,fun r w=> .inl w⟩
theorem RunA.G (h:RunA U S S' U' rt tb):Kept S U S' U':=Kept.F h.ch h.a
theorem RunA.J (h:RunA U S S' U' rt tb){p:Pt}(k:S.A p= .none)(g:¬U' p)(c:Ch (fun r=>r=p) S' S''):RunA U S S'' U' rt tb:=by
 obtain⟨l,⟨W,F,i,f⟩,j⟩:=h.tab;have b:∀r,U' r->S''.A r=S'.A r:=fun r u=>c.d r (j r u) fun e=>g (by grind);exact⟨h.ch.A c fun r e=> .inr (by grind),⟨c.D,⟨W,F,i.A fun r w _=>b r (f r w),f⟩,fun r u=>by grind⟩,h.a⟩
end
def KV (st:St)(v:V)(z:Nat)(es:List (List V)):Prop:=(∀e∈es,e.length=z)/\((v= .e/\es=[])\/∃r t,st.A r= .a t es.flatten/\(v= .w r 0 es.length z\/v= .m r 0 es.length z es.length))
section
variable {st S S' : St} {v : V} {z : Nat} {es : List (List V)}
theorem KV.I (st:St)(z:Nat):KV st .e z []:=⟨by simp, .inl ⟨rfl,rfl⟩⟩
theorem KV.J (h:KV st v z es){r:Pt}(b:rowOf v=some r):∃t,st.A r= .a t es.flatten:=by
 rcases h.2 with⟨rfl,_⟩|⟨q,t,d,c⟩
 ·cases b
 ·have:r=q:=by rcases c with rfl|rfl<;>(injection b with b;grind)
  grind
theorem KV.A (h:KV st v z es){r:Pt}(a:rowOf v=Option.some r):st.A r≠ .none:=by
 obtain⟨t,e⟩:=h.J a
 grind
theorem KV.F (h:KV st v z es)(k:∀r,rowOf v=Option.some r->S.A r=st.A r):KV S v z es:=by
 refine⟨h.1, ?_⟩;rcases h.2 with c|⟨r,t,b,a⟩
 ·grind
 ·exact .inr ⟨r,t,by rw[k r (by rcases a with rfl|rfl<;>rfl)];exact b,a⟩
theorem KV.G (h:KV st v z es):SlAt (fun r=>rowOf v=Option.some r) st v z es:=by
 refine⟨h.1, ?_⟩;rcases h.2 with c|⟨r,t,a,b⟩
 ·grind
 ·refine .inr ⟨r,0,by rcases b with rfl|rfl<;>rfl, ?_,es.flatten, .inl ⟨t,a⟩,by rw[Jp h.1];omega,by rw[XP,<-Jp h.1,XE]⟩
  grind
theorem JnH :∀u,(Row.c u).A=u/\Row.c u≠ .none:=fun u=>⟨rfl,fun e=>by cases e⟩
theorem Jrv {l:V}(w:WF st)(h:KV st v z es)(n:SlAt t st l z g)(o:okC g)(q:g≠[])(M:g.length<2^20)(Q:es.length+g.length<=2^24){R:V->St->Prop}
  (k:∀S' s,Ch (fun p=>rowOf v=Option.some p) st S'->KV S' s z (es++g)->rowOf s=Option.some st.b->R s S'):wW (appV st z v l) st R:=by
 have X:¬g.length=0:=fun e=>q (XD.1 e);have f:appV st z v l=JG st z g.length g.flatten v:=by
  unfold appV;rw[n.N];simp only[n.O];rw[Xe ⟨M,o.A⟩]
 have x:∀e∈es++g,e.length=z:=fun e i=>by
  rcases Xs.1 i with i|i
  ·exact h.1 e i
  ·exact n.1 e i
 rw[f];rcases h.2 with⟨rfl,y⟩|⟨r,d,K,S⟩
 ·have j:JG st z g.length g.flatten .e=Option.some (.w st.b 0 g.length z, .b fun d=> .a d g.flatten):=by
   unfold JG
   grind
  rw[j];subst y;exact k (st.B fun d=> .a d g.flatten) _ (Ch.H _ (Gr.G w (Jc _))) ⟨x, .inr ⟨st.b,st.t,by rw[JI];simp, .inl (by simp)⟩⟩ rfl
 ·have T:=Jp h.1;have U:0+es.length*z<=es.flatten.length:=by omega
  have W:(es.flatten.drop 0).take (es.length*z)=es.flatten:=by grind
  rcases S with rfl|rfl
  ·have j:JG st z g.length g.flatten (.w r 0 es.length z)=Option.some (.w st.b 0 (es.length+g.length) z, .e r d fun u=> .a u (es.flatten++g.flatten)):=by
    unfold JG
    grind
   rw[j];have L:Ch (fun p=>rowOf (.w r 0 es.length z)=Option.some p) st (st.D r d .c):=(Ch.G _ w).J (Jb K) (by rw[K];rfl) (.inl rfl) JnH;exact k ((st.D r d .c).B fun u=> .a u (es.flatten++g.flatten)) _ (L.I (Gr.G L.D (Jc _))) ⟨x, .inr ⟨st.b,st.t+1,by rw[XJ];exact JI (st.D r d .c) _, .inl (by simp)⟩⟩ rfl
  ·have j:JG st z g.length g.flatten (.m r 0 es.length z es.length)=Option.some (.w st.b 0 (es.length+g.length) z, .b fun u=> .a u (es.flatten++g.flatten)):=by
    unfold JG
    grind
   rw[j];exact k (st.B fun u=> .a u (es.flatten++g.flatten)) _ (Ch.H _ (Gr.G w (Jc _))) ⟨x, .inr ⟨st.b,st.t,by rw[XJ];exact JI st _, .inl (by simp)⟩⟩ rfl
end
def clsE (cs:Cls):List (List V):=cs.map varE
structure WkU (S:St) (U:Pt->Prop) (w rt:Pt) (tb:Tb) (nv:V) (names:List Str) (cs:Cls) (a:Int):Prop where
 i:∃(U0:Pt->Prop) (cv:V) (t:Nat),TabU S U0 rt tb/\(∀r,U0 r->U r/\r≠w/\rowOf cv≠some r)/\S.A w= .a t [.g rt 0,nv,cv, .d .i64 a]/\KV S cv 2 (clsE cs)/\(∀r,rowOf cv=some r->U r/\r≠w)
 d:U w
 b:∀r,U r->S.A r≠ .none
 j:SlAt (fun r=>¬U r) S nv 1 (strs names)
section
variable {S S' S'' : St} {U U' U'' : Pt -> Prop} {w rt : Pt} {tb tb' : Tb} {nv : V} {names : List Str} {cs cs' : Cls} {a a' : Int}
theorem WkU.I (h:WkU S U w rt tb nv names cs a):WF S:=by
 obtain⟨_,_,_,h,_⟩:=h.i;exact h.1
theorem WkU.A (h:WkU S U w rt tb nv names cs a){r:Pt}(e:S.A r= .none):¬U r:=fun u=>h.b r u e
theorem WkU.G (h:WkU S U w rt tb nv names cs a)(g:Gr S S'):WkU S' U w rt tb nv names cs a:=by
 obtain⟨f,k,t,l,m,n,c,o⟩:=h.i;exact⟨⟨f,k,t,l.A g,m,g.B n,c.F fun r e=>g.d r (c.A e),o⟩,h.d,fun r u=>by rw[g.d r (h.b r u)];exact h.b r u,h.j.I g⟩
theorem WkU.J (h:WkU S U w rt tb nv names cs a){lo:Nat}(c:WF {S with a:=lo}):WkU {S with a:=lo} U w rt tb nv names cs a:=by
 obtain⟨f,g,t,k,l,m,n,o⟩:=h.i;exact⟨⟨f,g,t,Qz k c,l,m,n.F fun r e=>rfl,o⟩,h.d,h.b,h.j.L _⟩
structure RunW (U:Pt->Prop) (S S':St) (U':Pt->Prop):Prop where
 ch:Ch U S S'
 b:∀r,U' r->U r\/S.A r= .none
theorem RunW.I (h:WkU S U w rt tb nv names cs a):RunW U S S U:=⟨Ch.G _ h.I,fun r w=> .inl w⟩
theorem RunW.A (h:RunW U S S' U')(k:RunW U' S' S'' U''):RunW U S S'' U'':=
 ⟨h.ch.A k.ch h.b,fun r w=>by
  rcases k.b r w with w|w
  ·exact h.b r w
  ·exact .inr (h.ch.B w)⟩
theorem RunW.G (g:Gr S S'):RunW U S S' U:=⟨Ch.H _ g,fun r w=> .inl w⟩
theorem RunW.J (h:RunW U S S' U')(g:Gr S' S''):RunW U S S'' U':=h.A (RunW.G g)
theorem RunW.F (h:RunW U S S' U'):Kept S U S' U':=Kept.F h.ch h.b
theorem WkU.N (h:WkU S U w rt tb nv names cs a):∃f,TabU S f rt tb/\(∀r,¬U r->¬f r)/\∀{S':St} {g:Pt->Prop} {tb':Tb},RunA f S S' g rt tb'->∃U',RunW U S S' U'/\WkU S' U' w rt tb' nv names cs a:=by
 obtain⟨f,p,t,q,l,s,m,o⟩:=h.i;refine⟨f,q,fun r n u=>n (l r u).1,fun{S' g tb'} R=> ?_⟩;have k:∀r,g r->f r\/S.A r= .none:=R.a;have c:∀r,S.A r≠ .none->¬f r->S'.A r=S.A r:=R.ch.d;refine⟨fun r=>U r\/g r,⟨R.ch.F fun r u=>(l r u).1,fun r u=> ?_⟩,⟨⟨g,p,t,R.tab,fun r u=>⟨.inr u, ?_, ?_⟩, ?_,m.F fun r e=>c r (m.A e) fun u=>(l r u).2.2 e,fun r e=>⟨.inl (o r e).1,(o r e).2⟩⟩, .inl h.d,fun r u=> ?_, ?_⟩⟩
 ·grind
 ·grind
 ·rcases k r u with u|u
  ·grind
  ·exact fun e=>m.A e u
 ·grind
 ·rcases u with u|u
  ·exact fun e=>h.b r u (R.ch.B e)
  ·exact R.tab.2.2 r u
 ·refine h.j.D fun r n e=>⟨fun u=> ?_,c r e fun u=>n (l r u).1⟩
  grind
end
theorem JcM {v:V}{e:List V}(s:WF h)(u:h.b=up 0 x)(f:KV h v Y g)(J:e.length=Y)(K:Kc e=true)(M:g.length<2^24){R:V->St->Prop}
  (k:∀l n,Ch (fun p=>rowOf v=some p) h l->KV l n Y (g++[e])->(∀r,rowOf n=some r->h.A r= .none)->R n l):wW (appV (h.B fun t=> .a t e) Y v (.m (up 0 x) 0 1 Y 1)) (h.B fun t=> .a t e) R:=by
 have i:=Gr.G s (Jc e);have j:=QE (st:=h) J;rw[u]at j;refine Jrv i.D (f.F fun r e=>i.d r (f.A e)) j (fun y N=>by grind) (by simp) (by simp) (by grind) fun l n c o L=> ?_;refine k l n ((Ch.H _ i).A c fun r w=> .inl w) o fun r q=> ?_;rw[L]at q;injection q with q;exact Ch.B (Ch.H (fun _=>False) i) (by rw[<-q];exact J6 i.D)
theorem WkU.M {X s:St}{L:Pt->Prop}{P:Pt}{Y Q y:V}{names:List Str}{cs cs':Cls}{a':Int}(z:WkU h t x P f Y names cs u)(h1:TabU h L P f)(T:∀r,L r->t r/\r≠x/\rowOf Q≠some r)(h5:∀r,rowOf Q=some r->t r/\r≠x)
  (c:Ch (fun p=>rowOf Q=some p) h X) (o:KV X y 2 (clsE cs')) (hv:∀r,rowOf y=some r->h.A r= .none) (Z:Ch (fun p=>p=x) X s)  (hr:s.A x= .a e [.g P 0,Y,y, .d .i64 a']):
  ∃U',RunW t h s U'/\WkU s U' x P f Y names cs' a':=by
 have lw:=z.b x z.d;have v:Ch t h s:=(c.F fun r k=>(h5 r k).1).A (Z.F fun r k=>by rw[k];exact z.d) fun r k=> .inl k;have sm:∀r,h.A r≠ .none->r≠x->rowOf Q≠some r->s.A r=h.A r:=fun r l n1 n2=>by
  have e1:=c.d r l n2;rw[Z.d r (by grind) n1,e1]
 have nw:∀r,rowOf y=some r->r≠x:=fun r m q=>lw (by grind);have ko:KV s y 2 (clsE cs'):=o.F fun r m=>Z.d r (o.A m) (nw r m);refine⟨fun r=>t r\/rowOf y=some r,⟨v,fun r k=> ?_⟩,⟨⟨L,y,e, ?_,fun r k=>⟨.inl (T r k).1,(T r k).2.1,fun m=>h1.2.2 r k (hv r m)⟩,hr,ko,fun r m=>⟨.inr m,nw r m⟩⟩, .inl z.d,fun r k=> ?_, ?_⟩⟩
 ·grind
 ·obtain⟨_,⟨W,F,k1,k2⟩,k3⟩:=h1;have s0:∀r,L r->s.A r=h.A r:=fun r k=>sm r (k3 r k) (T r k).2.1 (T r k).2.2;exact⟨v.D,⟨W,F,k1.A fun r k _=>s0 r (k2 r k),k2⟩,fun r k=>by grind⟩
 ·rcases k with k|k
  ·exact fun m=>z.b r k (v.B m)
  ·exact ko.A k
 ·refine z.j.D fun r n l=>⟨fun k=> ?_,v.d r l n⟩
  grind
theorem Jln {st:St}{d:List V}{z n:Nat}(e:n<2^20)(f:d.length=z):JlS st z d (.d .i64 (n:Int)) (.d .i64 (n:Int))=some (.m st.b 0 n z n, .b fun t=> .a t (List.replicate n d).flatten):=by
 have g:∀c:Nat,QK (.d .i64 (c:Int))=some c:=fun c=>by rfl
 unfold JlS
 grind
theorem Jrw (k:Nat)(d:List V):(List.replicate k d).flatten.length=k*d.length:=by simp
theorem JcN {es:List (List V)}{d:List V}(a:∀e∈es,e.length=d.length):Jw (List.replicate (es.length+1) d).flatten 0 es.flatten=es.flatten++d:=by
 have b:=Jp a;have c:(List.replicate (es.length+1) d).flatten=(List.replicate es.length d).flatten++d:=by
  rw[Hq,XJ];simp
 rw[JK,c,GO,X0,Zv,b,<-Jrw,Ht]
theorem Jd5 {es:List (List V)}{d e:List V}(a:es.flatten.length=Y)(b:d.length=e.length):Jw (es.flatten++d) Y e=es.flatten++e:=by
 subst a;rw[JK,Hs,<-b,<-XW,Ga,ZL]
theorem Jm5 {st:St}{p:Pt}{t z n:Nat}{es:List (List V)}{e:List V}(h:st.A p= .a t (es.flatten++e))(i:∀x∈es,x.length=z)(d:e.length=z)(f:es.length+1=n):SlAt (fun r=>r=p) st (.m p 0 n z n) z (es++[e]):=by
 subst f;have b:∀x∈es++[e],x.length=z:=fun x j=>by grind
 have c:(es++[e]).length=es.length+1:=by simp
 refine⟨b, .inr ⟨p,0,rfl, .inr ⟨_,Nat.le_of_eq c,by rw[c]⟩,_, .inl ⟨t,h⟩, ?_, ?_⟩⟩
 ·have:=Jp b
  grind
 ·have g:(es++[e]).flatten=es.flatten++e:=by simp
  rw[XP,<-Jp b,g,XE]
theorem nmW {T:Table}{c:C}{f:Fr}{Q:Out->Prop}{g:List V}(j:WF h)(i:h.A x= .a Y n)(b:∀d,Ch (fun r=>r=x) h d->(∃Y,d.A x= .a Y g)->wC T e c f d Q):wC T e c f (h.D x Y fun u=> .a u g) Q:=
 b _ ((Ch.G _ j).J (Jb i) (congrArg _ i) (.inl rfl) (Jc _)) ⟨_,Jh _ _ _ _⟩
theorem JfS (l:List (Str×Nat)):okC (l.map varE):=fun e a=>by
 obtain⟨x,_,rfl⟩:=Xz.1 a;rfl
theorem nm3 {T:Table}{c:C}{o:Fr}{Q:Out->Prop}{p q r:Pt}{s u:List V}(v:WF h)(k:h.b=up 0 x)(w:up 0 x=p)(J:up 1 x=q)(K:up 2 x=r)
  (f:∀j,Gr h j->(h.A p= .none/\h.A q= .none/\h.A r= .none)->(p≠q/\p≠r/\q≠r)->(∃t,j.A p= .a t n)->(∃t,j.A q= .a t s)->(∃t,j.A r= .a t u)->wC T e c o j Q):wC T e c o (((h.B fun t=> .a t n).B fun t=> .a t s).B fun t=> .a t u) Q:=by
 have l:=Gr.G v (Jc n);have m:(h.B fun t=> .a t n).A p= .a h.t n:=by rw[<-w];exact Qi k _
 have L:(h.B fun t=> .a t n).b=up 0 (up 1 x):=by
  show up 1 h.b=_;rw[k];rfl
 have z:=Ch.H (fun _=>False) l;refine nm2 (p:=q) (q:=r) l.D L (by rw[<-J];rfl) (by rw[<-K];rfl) fun j G a b d g y=> ?_;exact f j (l.A G) ⟨by rw[<-w];exact nx0 v k 0,z.B a,z.B b⟩ ⟨fun i=>Jb m (by grind),fun i=>Jb m (by grind),d⟩ ⟨_,G.B m⟩ g y
def dotI :List (Int×List Str×Nat)->Option Nat
 |[]=>none
 |x::r=>if x.1= -1 then some 0 else(dotI r).map (·+1)
def offD (l:List (Int×List Str×Nat)):List (Int×List Str×Nat):=l.filter fun x=>decide (x.1≠-1)
theorem Jhs :∀{l:List (Int×List Str×Nat)},dotI l=none->offD l=l
 |[],_=>rfl
 | x::r,h=>by
   rw[dotI]at h;by_cases c:x.1= -1
   ·grind
   ·rw[Xa c,Option.map_eq_none_iff]at h;have:=Jhs h;unfold offD at this⊢
    grind
theorem Jht :∀{l:List (Int×List Str×Nat)} {i:Nat},dotI l=some i->i<l.length/\offD (l.take (i+1))=l.take i
 |[],_,h=>by cases h
 | x::r,i,h=>by
   rw[dotI]at h;by_cases c:x.1= -1
   ·rw[Xe c]at h;injection h with h;subst h;exact⟨by simp,by simp[offD,c]⟩
   ·rw[Xa c]at h
    cases a:dotI r with
    |none=>grind
    | some j=>
      rw[a]at h;injection h with h;subst h;obtain⟨d,b⟩:=Jht a;refine⟨by grind, ?_⟩;unfold offD at b⊢
      grind
theorem JpV (T:Table)(d:Bool)(e:Option (List Nat))(z:Nat)(b:List V)(x:Opd)(c:Fr)(a:St)(R:V->St->Prop):wO T d e (.clear z b x) c a R=wW (JhY a z b (x.A c)) a R:=propext Iff.rfl
theorem JpW {S:St}{v:V}{k:Nat}{d:List V}(O:WF S)(f:SlF h S v e g)(P:d.length=e)(Q:Kc d=true)(L:k<g.length):
  ∃l r,rowOf v=some r/\h.A r= .none/\(∀j:St,QG j e v (some (.d .i64 (k:Int))) none none=some (l, .a))/\
   ∀{R:V->St->Prop},(∀j,Ch (fun p=>p=r) S j->SlF h j v e (g.take k++List.replicate (g.length-k) d)->R JY j)->wW (JhY S e d l) S R:=by
 have M:=f.1;rcases f.2 with⟨_,rfl⟩|⟨r,t,q,s,T⟩
 ·grind
 have U:=Jp M;have Z:(g.take k).flatten.length=k*e:=by rw[Jp fun i x=>M i (Zj x),XS,Zd (Nat.le_of_lt L)]
 have N:(g.length-k)*e=g.length*e-k*e:=Nat.sub_mul _ _ _;have W:k*e<=g.length*e:=XT _ (Nat.le_of_lt L);have X:(List.replicate (g.length-k) d).flatten.length=(g.length-k)*e:=by simp_all
 have y:Jw g.flatten (0+k*e) (List.replicate (g.length-k) d).flatten=(g.take k++List.replicate (g.length-k) d).flatten:=by
  have Y:g.flatten.take (k*e)=(g.take k).flatten:=by
   conv=>lhs;rw[<-X4 k g,XJ]
   grind
  rw[JK,Zv,Y,X,XB (by omega),ZL,XJ]
 have n:Kc (List.replicate (g.length-k) d).flatten=true:=okC.A fun i x=>by grind
 have o:∀l,slen l=some (g.length-k)->jY l=some (.g r (0+k*e))->∀{R:V->St->Prop},(∀j,Ch (fun p=>p=r) S j->SlF h j v e (g.take k++List.replicate (g.length-k) d)->R JY j)->wW (JhY S e d l) S R:=fun l a b R K=>by
  unfold JhY;rw[a];simp;rw[Xa (by omega),b];simp only;rw[Xe P];simp only[JO,s];rw[Xe ⟨by omega,n⟩,y];have hl:(g.take k++List.replicate (g.length-k) d).length=g.length:=by grind
  have c:Ch (fun p=>p=r) S (S.D r t fun u=>Row.a u (List.take k g++List.replicate (g.length-k) d).flatten):=(Ch.G _ O).J (Jb s) (by rw[s];rfl) (.inl rfl) (Jc _);refine K _ c ⟨fun i x=> ?_, .inr ⟨r,S.t,q,Jh _ _ _ _,by grind⟩⟩
  grind
 rcases T with rfl|rfl
 ·refine⟨.w r (0+k*e) (g.length-k) e,r,rfl,q,fun j=> ?_,o _ rfl rfl⟩;simp[QG,Y0,JZ,Qw]
  grind
 ·refine⟨.m r (0+k*e) (g.length-k) e (g.length-k),r,rfl,q,fun j=> ?_,o _ rfl rfl⟩;simp[QG,Y0,JZ,Qw]
  grind
def sizN :Nat->Nod->Nat
 |0,_=>0
 |d+1, .mk _ _ _ _ _ body els _ cases=>1+(body.map (sizN d)).sum+(els.map (sizN d)).sum+(cases.map fun c=>(c.2.map (sizN d)).sum).sum
def sizL (d:Nat)(l:List Nod):Nat:=(l.map (sizN d)).sum
structure EnvR (tb:Tb) (E:EnvS) (b:Nat):Prop where
 k:EnvK tb E
 v:E.a.length+b<100000
 n:E.b.length+b<100000
section
variable {tb tb' : Tb} {E : EnvS} {b b' : Nat}
theorem EnvR.A (h:EnvR tb E b)(k:tb.a.length<=tb'.a.length)(c:b'<=b):EnvR tb' E b':=⟨h.k.A k,by have:=h.v;omega,by have:=h.n;omega⟩
theorem EnvR.F (h:EnvR tb E b){id:Nat}(d:id<tb.a.length):EnvR tb (Q4 E id) b:=by
 have g:(Q4 E id).b.length<=E.b.length:=Z2 _ _;exact⟨⟨d,h.k.b,fun x a=>h.k.c x ((Hp.1 a).1),h.k.e,by have:=h.k.f;omega⟩,h.v,by have:=h.n;omega⟩
theorem EnvR.I (h:EnvR tb E (b+1)){n:Str}{id:Nat}(i:id<tb.a.length)(j:n≠[]):EnvR tb (varS E n id) b:=by
 have l:=h.v;have g:=h.n;have e:(varS E n id).a.length=E.a.length+1:=by simp[varS]
 refine⟨⟨h.k.d,fun x a=> ?_,h.k.c,by omega,h.k.f⟩,by omega,by show E.b.length+b<_;omega⟩;rcases Xs.1 a with a|a
 ·exact h.k.b x a
 grind
theorem EnvR.G (h:EnvR tb E (b+1)){x:Int×List Str×Nat}(g: -1<=x.1/\x.2.1.length<100000/\x.2.2<tb.a.length):EnvR tb (Qe E x) b:=by
 have i:=h.v;have f:=h.n;have e:(Qe E x).b.length=E.b.length+1:=by simp[Qe]
 refine⟨⟨h.k.d,h.k.b,fun y a=> ?_,h.k.e,by omega⟩,by show E.a.length+b<_;omega,by omega⟩;rcases Xs.1 a with a|a
 ·exact h.k.c y a
 grind
end
structure KT (s:Sch) (tb:Tb) (cs:Cls) (b:Nat) (x:AnsR):Prop where
 d:OfF s x.1
 g:tb.a.length<=x.1.a.length
 f:x.2.1.length<=cs.length+b
 i:∀c∈x.2.1,c∈cs\/c.2<x.1.a.length
section
variable {s : Sch} {tb : Tb} {cs : Cls} {b b' : Nat}
theorem KT.A (h:OfF s tb)(e a:Int):KT s tb cs b (tb,cs,e,a):=⟨h,Xb _,by simp,fun _ h=> .inl h⟩
theorem KT.G {x:AnsR}{y:AnsR}(h:KT s tb cs b x)(k:KT s x.1 x.2.1 b' y):KT s tb cs (b+b') y:=⟨k.d,by have:=h.g;have:=k.g;omega,by have:=h.f;have:=k.f;omega,fun c a=>(k.i c a).elim (fun e=>(h.i c e).imp id fun j=>Zs j k.g) .inr⟩
theorem KT.F {x:AnsR}(h:KT s tb cs b x)(k:b<=b'):KT s tb cs b' x:=⟨h.d,h.g,by have:=h.f;omega,h.i⟩
end
def fitN (q:Pipe->Prop):Nat->Nod->Prop
 |0,_=>True
 |d+1, .mk k a _ name p body els _ cases=>q p/\(k=3->name≠[])/\(body.length<100000/\∀n∈body,fitN q d n)/\(els.length<100000/\∀n∈els,fitN q d n)/\(cases.length<100000/\∀c∈cases,c.2.length<100000/\∀n∈c.2,fitN q d n)
def fitL (q:Pipe->Prop)(d:Nat)(l:List Nod):Prop:=l.length<100000/\∀n∈l,fitN q d n
def RowF (s:Sch)(q:Pipe->Prop)(d:Nat)(row:Tb->Cls->EnvS->List Nod->AnsR):Prop:=∀tb cs E l,OfF s tb->EnvR tb E (sizL d l)->fitL q d l->KT s tb cs (sizL d l) (row tb cs E l)
section
variable {s : Sch} {q : Pipe -> Prop} {d : Nat} {row : Tb -> Cls -> EnvS -> List Nod -> AnsR} (H : RowF s q d row)
include H
theorem JnI {i:Cls}{j l:EnvS}{b o:List Nod}(h:OfF s f)(p:EnvR f j (sizL d b))(r:EnvR f l (sizL d o))(t:fitL q d b)(u:fitL q d o):KT s f i (sizL d b+sizL d o) (Q6 row f i j b l o):=by
 have k:=H f i j b h p t;unfold Q6;generalize row f i j b=x at k;obtain⟨m,n,e,a⟩:=x;simp only;by_cases c:e=0
 ·rw[Xa (fun k=>k c)];exact k.G (H m n l o k.d (r.A k.g (Xb _)) u)
 ·rw[Xe c];exact k.F (by omega)
theorem Jhu {E:EnvS}{nd:Nd}{b:Nat}:∀(l:List (Str×List Nod)) {tb:Tb} {cs:Cls} {was:List Nat},OfF s tb->(∀k∈nd.c,k<tb.a.length)->nd.c.length=nd.b.length->EnvR tb E b->(l.map fun c=>sizL d c.2).sum<=b->(∀c∈l,fitL q d c.2)->KT s tb cs (l.map fun c=>sizL d c.2).sum (Jam row E nd tb cs was l).1
 |[],tb,cs,was,h,_,_,_,_,_=>KT.A h _ _
 | (t,m)::r,tb,cs,was,h,p,u,n,v,o=>by
   rw[Jam];simp only[XK,Z0]at v⊢
   cases M:fstN t nd.b with
   |none=>exact KT.A h _ _
   | some i=>
     simp only;by_cases c:i∈was
     ·rw[Xe c];exact KT.A h _ _
     rw[Xa c];have w:i<nd.c.length:=by
      have J:∀(l:List Str) {i:Nat},fstN t l=some i->i<l.length:=by
       intro l
       induction l with
       |nil=>intro i h;cases h
       | cons a r N=>
         intro i h;rw[fstN]at h;by_cases z:a=t
         ·grind
         ·rw[Xa z]at h
          cases O:fstN t r with
          |none=>grind
          |some j=>grind
      grind
     have f:nd.c.getD i 0<tb.a.length:=by simp_all
     have k:=H tb cs (Q4 E (nd.c.getD i 0)) m h ((n.F f).A (Xb _) (by omega)) (o _ (Xu ..));generalize row tb cs (Q4 E (nd.c.getD i 0)) m=x at k;obtain⟨K,L,e,a⟩:=x;simp only;by_cases z:e=0
     ·rw[Xa (fun k=>k z)];exact k.G (Jhu r k.d (fun y a=>Zs (p y a) k.g) u (n.A k.g (Xb _)) (by omega) fun c a=>o c (Xi _ a))
     ·rw[Xe z];exact k.F (by omega)
set_option maxHeartbeats 2000000 in
theorem Jkd {names:List Str}(hq:∀p E v t,q p->Yo E p=some (v,t)->t.length<100000){cs:Cls}{E:EnvS}{id:Nat}(h:OfF s f)(hid:id<f.a.length):∀{n:Nod},EnvR f E (sizN (d+1) n)->fitN q (d+1) n->KT s f cs (sizN (d+1) n) (oneS row names f cs E id n)
 | .mk k a sx name p l m he cases,w,hf=>by
   obtain⟨_,_,_,_,o5,X⟩:=h.F hid;have hs:sizN (d+1) (.mk k a sx name p l m he cases)=1+sizL d l+sizL d m+(cases.map fun c=>sizL d c.2).sum:=rfl;obtain⟨f1,f2,P,O,f5⟩:=hf;have P:fitL q d l:=P;have O:fitL q d m:=O;rw[hs]at w⊢;generalize Q:(cases.map fun c=>sizL d c.2).sum=Y at w⊢;generalize hB:sizL d l=B at w⊢;generalize L:sizL d m=Z at w⊢;have J:∀S,EnvR f S B->KT s f cs (1+B+Z+Y) (Q6 row f cs S l E m):=fun S h1=>(JnI H h (by grind) (by rw[L];exact w.A (Xb _) (by omega)) P O).F (by omega);have x:=w.A (Xb _) (b':=B) (by omega);have k0:(Jm f id).c≠[]->(Jm f id).c.getD 0 0<f.a.length:=fun hk=>by
    cases hx:(Jm f id).c with
    |nil=>grind
    |cons c r=>exact X c (by grind)
   have kl:=o5.a;have M:(Jm f id).a=4\/(Jm f id).a=5\/(Jm f id).a=6->(Jm f id).c≠[]:=fun c e=>by
    rw[e,JaI,Xe c]at kl
    grind
   unfold oneS;simp only;by_cases j:k=2
   ·rw[Xe j];exact KT.A h _ _
   rw[Xa j];clear j;by_cases j:k=4
   ·rw[Xe j];exact KT.A h _ _
   rw[Xa j];clear j;by_cases j:k=5
   ·rw[Xe j];clear j
    split
    ·rename_i c6
     cases o:Yo E p with
     |none=>grind
     | some y=>
       obtain⟨v,t⟩:=y;refine J _ ((w.A (Xb _) (b':=B+1) (by omega)).G ⟨?_,hq _ _ _ _ f1 o,k0 (M (.inr (.inr c6)))⟩);unfold Yo at o
       split at o
       ·split at o
        ·cases K:Qh E _ with
         |none=>rw[K]at o;cases o
         | some z=>
           rw[K]at o;injection o with o;injection o with o _;subst o;rcases qC K with e|⟨i,e,_⟩<;>(omega)
        grind
       grind
    ·split
     ·grind
     ·exact KT.A h _ _
   rw[Xa j];clear j;by_cases j:k=6
   ·rw[Xe j];clear j;refine J _ (x.F ?_)
    grind
   rw[Xa j];clear j;by_cases j:k=7
   ·rw[Xe j];clear j
    split
    ·rename_i c6
     exact J _ (x.F (k0 (M (by omega))))
    ·exact KT.A h _ _
   rw[Xa j];clear j;by_cases j:k=8
   ·rw[Xe j];clear j
    split
    ·rename_i c8
     have T:(Jm f id).c.length=(Jm f id).b.length:=by
      rw[kl,JaI,c8];rfl
     have u:=Jhu H (E:=E) (nd:=Jm f id) cases (tb:=f) (cs:=cs) (was:=[]) h X T w (by omega) f5.2;rw[Q]at u;generalize Jam row E (Jm f id) f cs [] cases=y at u;obtain⟨⟨U,W,e,a'⟩,aa⟩:=y;simp only at u⊢
     split
     ·exact u.F (by omega)
     split
     ·exact KT.F (b:=Y) ⟨u.d,u.g,u.f,u.i⟩ (by omega)
     ·have kk:=u.G (H U W E m u.d (w.A u.g (by omega)) O)
      rw[L]at kk;exact kk.F (by omega)
    ·exact KT.A h _ _
   rw[Xa j];clear j;by_cases j:k=9
   ·rw[Xe j];clear j
    split
    ·exact⟨h,Xb _,by grind,fun c N=>by
      rcases Xs.1 N with N|N
      ·exact .inl N
      ·rw[Xj.1 N];right;simp only
       split
       ·exact w.k.d
       ·exact hid⟩
    ·exact KT.A h _ _
   ·rw[Xa j];exact KT.A h _ _
end
section
variable {sg : Tb -> List Nat -> List Nat -> Nat × Int} {s : Sch} (hsg : SgOK sg s) {q : Pipe -> Prop}
include hsg
theorem Jke {m:Nat}{E:EnvS}(h:OfF s f)(a:EnvK f E)(n:Nod):Fine s f (typS sg m E f n):=by
 unfold typS
 split
 ·exact Jru hsg h a _
 ·exact Fine.G h fun _=>by have:=a.d;omega
omit hsg in
theorem JpX {d:Nat}:∀(n:Nod),1<=sizN (d+1) n
 | .mk _ _ _ _ _ _ _ _ _=>by unfold sizN;omega
omit hsg in
theorem JnJ :∀{n:Nod},fitN q (e+1) n->n.k=3->n.A≠[]
 | .mk _ _ _ _ _ _ _ _ _,a,b=>a.2.1 b
omit hsg in
theorem Jkf {E:EnvS}{n:Nod}{id:Nat}(g:EnvR f E (sizN (e+1) n+Y))(h:fitN q (e+1) n)(hid:id<f.a.length):EnvR f (if n.k=3 then varS E n.A id else E) Y:=by
 have:=JpX (d:=e) n
 split
 ·rename_i c
  exact(g.A (Xb _) (b':=Y+1) (by omega)).I hid (JnJ h c)
 ·exact g.A (Xb _) (by omega)
theorem Jhv {t:Tb->Cls->EnvS->Nat->Nod->AnsR}{m d:Nat}(M:∀j cs E id n,OfF s j->id<j.a.length->EnvR j E (sizN (d+1) n)->fitN q (d+1) n->KT s j cs (sizN (d+1) n) (t j cs E id n)):∀(l:List Nod) {j:Tb} {cs:Cls} {E:EnvS},OfF s j->EnvR j E (sizL (d+1) l)->(∀n∈l,fitN q (d+1) n)->KT s j cs (sizL (d+1) l) (JaL sg t m j cs E l)
 |[],j,cs,E,h,_,_=>KT.A h _ _
 | n::r,j,cs,E,h,z,N=>by
   have Q:sizL (d+1) (n::r)=sizN (d+1) n+sizL (d+1) r:=rfl;rw[Q]at z⊢;have J:=Jke hsg (m:=m) h z.k n;have O:=N n (Xu ..);rw[JaL];generalize typS sg m E j n=x at J;obtain⟨o,id,e⟩:=x;have v:OfF s o:=J.b;have p:j.a.length<=o.a.length:=J.f;simp only;by_cases c:e=0;rotate_left
   ·rw[Xe c];exact⟨v,p,by simp,fun _ h=> .inl h⟩
   rw[Xa fun k=>k c];have hid:id<o.a.length:=J.g c;have u:=M o cs E id n v hid (z.A p (by omega)) O;generalize t o cs E id n=y at u;obtain⟨K,L,S,U⟩:=y;have w:o.a.length<=K.a.length:=u.g;simp only;by_cases P:S=0;rotate_left
   ·rw[Xe P];exact⟨u.d,by grind,by have:=u.f;grind,u.i⟩
   rw[Xa fun k=>k P];have T:=Jhv (m:=m) M r (cs:=L) u.d (Jkf (z.A (Zb p w) (Xb _)) O (Zs hid w)) fun n a=>N n (Xi _ a);have:=u.G T;exact⟨this.d,Zb p this.g,this.f,this.i⟩
theorem JfT {names:List Str}{m:Nat}(e:∀p E v a,q p->Yo E p=some (v,a)->a.length<100000):∀d,RowF s q d (rowS sg names m d)
 |0=>fun f g E l h _ _=>KT.A h _ _
 |d+1=>fun f g E l h b c=>Jhv hsg (fun f g E id n h hid b c=>Jkd (JfT e d) e h hid b c) l h b c.2
end
abbrev Ch0 (S S':St):Prop:=Ch (fun _=>False) S S'
section
variable {S S' S'' : St} {U : Pt -> Prop} {w rt : Pt} {tb : Tb} {nv : V} {names : List Str} {cs : Cls} {a : Int}
theorem Ch0.s (c:Ch0 S S')(e:S.A x≠ .none):S'.A x=S.A x:=c.d x e fun h=>h
theorem Ch0.A (c:Ch0 S S'){p:Pt}(b:S.A p= .none)(a:Ch (fun r=>r=p) S' S''):Ch0 S S'':=Ch.A c a fun r e=> .inr (by grind)
theorem TabU.K (h:TabU S t rt tb)(c:Ch0 S S'):TabU S' t rt tb:=by
 obtain⟨_,⟨W,F,d,a⟩,b⟩:=h;exact⟨c.D,⟨W,F,d.A fun r u _=>c.s (b r (a r u)),a⟩,fun r u=>by rw[c.s (b r u)];grind⟩
theorem WkU.O (h:WkU S U w rt tb nv names cs a)(c:Ch0 S S'):WkU S' U w rt tb nv names cs a:=by
 obtain⟨k,l,t,m,n,f,g,o⟩:=h.i;exact⟨⟨k,l,t,m.K c,n,(c.s (Jb f)).trans f,g.F fun r e=>c.s (g.A e),o⟩,h.d,fun r u=>by rw[c.s (h.b r u)];exact h.b r u,h.j.D fun r p e=>⟨p,c.s e⟩⟩
theorem RunW.K (c:Ch0 S S'):RunW U S S' U:=⟨c.F fun r h=>h.elim,fun r w=> .inl w⟩
end
theorem JpY {E:EnvS}:∀{p:Pipe} {v:Int} {b:List Str},Yo E p=some (v,b)-> -1<=v:=fun{p v b} a=>by
 unfold Yo at a
 split at a
 ·split at a
  ·cases c:Qh E _ with
   |none=>rw[c]at a;cases a
   | some z=>
     rw[c]at a;injection a with a;injection a with a _;subst a;rcases qC c with e|⟨i,e,_⟩<;>omega
  grind
 grind
theorem JfU :∀{l m:List Nat},l.Nodup->(∀x∈l,x∈m)->l.length<=m.length
 |[],m,_,_=>XC _
 | x::r,m,h,k=>by
   obtain⟨a,b⟩:=ZK.1 h;have d:=k x (Xu ..);have f:=JfU (l:=r) (m:=m.erase x) b fun y c=>(Hr fun e=>a (by grind)).2 (k y (Xi _ c))
   grind
def wasB (n:Nat)(was:List Nat):List Bool:=(List.range n).map fun i=>decide (i∈was)
theorem qD (n:Nat)(a:List Nat):(wasB n a).length=n:=by simp[wasB]
theorem Jig {a:List Nat}(h:Y<(wasB e a).length):(wasB e a)[Y]=decide (Y∈a):=by simp[wasB]
theorem JpZ (n:Nat):wasB n []=List.replicate n false:=by
 refine ZT (by simp[wasB]) fun i a b=>by simp[wasB]
theorem Jp0 {a:List Nat}:(wasB e a).set Y true=wasB e (Y::a):=by
 refine ZT (by simp[wasB]) fun k b c=> ?_;rw[List.getElem_set,Jig,Jig]
 grind
theorem Jlo {b:List Nat}(g:b.Nodup)(k:∀i∈b,i<e):decide (false∈wasB e b)=decide (b.length<e):=by
 have a:false∈wasB e b<->b.length<e:=by
  constructor
  ·intro h;obtain⟨i,d,h⟩:=Xz.1 h;have d:=Zh.1 d;have h:i∉b:=HF h;have:=JfU (l:=i::b) (m:=List.range e) (ZK.2 ⟨h,g⟩) fun y f=>by grind
   grind
  ·intro h;refine Xd fun j=> ?_;have:=JfU (l:=List.range e) (m:=b) HP fun y f=>Xd fun c=>j (Xz.2 ⟨y,f,Xv c⟩)
   grind
 grind
theorem Jih {t:Str}:∀{l:List Str} {i:Nat},fstN t l=some i->i<l.length
 |[],i,h=>by cases h
 | a::r,i,h=>by
   rw[fstN]at h;by_cases z:a=t
   ·grind
   ·rw[Xa z]at h
    cases b:fstN t r with
    |none=>grind
    |some j=>rw[b]at h;injection h with h;subst h;have:=Jih b;grind
end Eva
namespace Eva
variable {e Y:Nat}{n:List V}{t:Pt->Prop}{f:Tb}{h:St}{g:List (List V)}{j:List Str}{u:Int}{x:Pt}{o:Sch}
theorem Jii {was:List Nat}(h:Y<e):Jw (((wasB e was).map V.h).map fun x=>[x]).flatten Y [V.h true]=(((wasB e (Y::was)).map V.h).map fun x=>[x]).flatten:=by
 have b:∀l:List V,(l.map fun x=>[x]).flatten=l:=fun l=>by
  induction l with
  |nil=>rfl
  |cons a r d=>grind
 rw[b,b,<-Jp0,List.map_set,JK];have c:Y<((wasB e was).map V.h).length:=by rw[Xr,qD];exact h
 rw[List.set_eq_take_append_cons_drop,Xe c];simp
end Eva
namespace Eva
open Go Go.RowKit
variable {e Y:Nat}{n:List V}{t:Pt->Prop}{f:Tb}{h:St}{g:List (List V)}{j:List Str}{u:Int}{x:Pt}{o:Sch}
theorem WkU.K {m:St}{o:Pt}{n:V}{names:List Str}{q:Cls}{p:Pt}(g:WkU h t x o f n names q u)(c:Ch (fun r=>r=p) h m)(L:¬t p)(P:SlAt (fun r=>¬t r) m n 1 (strs names)):WkU m t x o f n names q u:=by
 obtain⟨Q,T,k,X,v,Y,Z,y⟩:=g.i;have s:∀r,t r->m.A r=h.A r:=fun r l=>c.d r (g.b r l) fun e=>L (by grind);obtain⟨_,⟨W,F,k1,z⟩,k3⟩:=X;exact⟨⟨Q,T,k,⟨c.D,⟨W,F,k1.A fun r l _=>s r (v r (z r l)).1,z⟩,fun r l=>by grind⟩,v,(s x g.d).trans Y,Z.F fun r e=>s r (y r e).1,y⟩,g.d,fun r l=>by rw[s r l];exact g.b r l,P⟩
end Eva
namespace Eva
variable {e Y:Nat}{n:List V}{t:Pt->Prop}{f:Tb}{h:St}{g:List (List V)}{j:List Str}{u:Int}{x:Pt}{o:Sch}
theorem Jp1 {α:Type}(f:α->Nat):∀{l:List α} {c:α},c∈l->f c<=(l.map f).sum
 | x::r,c,h=>by
   rw[XK,Z0];rcases Xq.1 h with h|h
   ·grind
   ·have:=Jp1 f h;omega
end Eva
namespace Eva
open Go Go.RowKit
variable {e Y:Nat}{n:List V}{t:Pt->Prop}{f:Tb}{h:St}{g:List (List V)}{j:List Str}{u:Int}{x:Pt}{o:Sch}
open Classical in
def Tr.I :(Pt->Prop)->Tr->Tr
 |_, .e=> .e
 |P, .n v a b c d=> .n (if P .h then v else .none) (Tr.I (fun p=>P (.a p)) a) (Tr.I (fun p=>P (.b p)) b) (Tr.I (fun p=>P (.c p)) c) (Tr.I (fun p=>P (.d p)) d)
open Classical in
theorem JaO :∀(t:Tr) (P:Pt->Prop) (p:Pt),(t.I P).A p=if P p then t.A p else .none
 | .e,P,p=>by
   rw[Tr.I];have:Tr.A p .e= .none:=by cases p<;>rfl
   rw[this,ite_self]
 | .n v a b c d,P,p=>by
   rw[Tr.I]
   cases p with
   |h=>rfl
   |a p=>exact JaO a _ p
   |b p=>exact JaO b _ p
   |c p=>exact JaO c _ p
   |d p=>exact JaO d _ p
def bs (T:Pt->Prop)(S:St):St:=⟨S.h.I T, .h,0,S.a+1⟩
section
variable {T T' : Pt -> Prop} {S S' Sb : St} {r : Pt}
open Classical in
theorem Jlp (T:Pt->Prop)(S:St)(r:Pt):(bs T S).A r=if T r then S.A r else .none:=JaO S.h T r
theorem Jdl (h:¬T r):(bs T S).A r= .none:=by rw[Jlp,Xa h]
theorem Jhw (h:T r):(bs T S).A r=S.A r:=by rw[Jlp,Xe h]
theorem Jd6 (h:(bs T S).A r≠ .none):T r/\S.A r≠ .none:=by
 rw[Jlp]at h
 grind
theorem Jp2 (w:WF S):Gr (bs T S) S:=by
 have e:∀r,(bs T S).A r≠ .none->S.A r=(bs T S).A r:=fun r h=>(Jhw (Jd6 h).1).symm;refine⟨⟨w,XC _,XC _,fun r h=>⟨XC _,fun c=>h ?_⟩,Nat.le_succ _,fun r h k=>absurd (e r h) k,fun _ _ _=>XC _⟩,e,fun h=>absurd h (Nat.not_succ_le_zero _)⟩
 grind
theorem SlF.F {v:V}{c b:St}(h:SlF c S v e g)(k:∀r,rowOf v=Option.some r->b.A r= .none/\S'.A r=S.A r):SlF b S' v e g:=by
 refine⟨h.1, ?_⟩;rcases h.2 with a|⟨r,t,f,i,d⟩
 ·grind
 ·have:=k r (by rcases d with rfl|rfl<;>rfl)
  grind
theorem RT.F {u:Pt}{v x:V}{n:List V}{O:Pt->Prop}{g:List Nd}{k:List Ty}(h:RT Sb S u v x n O g k)(w:WF S')(z:∀r,Sb.A r≠ .none->T r)(s:∀r,Bt u v x O r->¬T r/\S'.A r=S.A r)(y:∀r,Sb.A r≠ .none->S'.A r=S.A r):RT (bs T S') S' u v x n O g k:=by
 obtain⟨J,K,L,M⟩:=h.l;obtain⟨N,P,Q,U⟩:=h.t;obtain⟨t,c⟩:=h.d;refine⟨Jp2 w,Jdl (s u (.inl rfl)).1,⟨t,by rw[(s u (.inl rfl)).2,c]⟩,⟨J,K.F fun r e=>⟨Jdl (s r (.inr (.inl e))).1,(s r (.inr (.inl e))).2⟩,L,fun i a b=>(M i a b).A fun r p _=>⟨p,(s r (.inr (.inr (.inr p)))).2⟩⟩,⟨N,P.F fun r e=>⟨Jdl (s r (.inr (.inr (.inl e)))).1,(s r (.inr (.inr (.inl e)))).2⟩,Q,fun i a b=>(U i a b).A fun r p q=>⟨?_,y r p⟩⟩,h.f,h.j,fun r p=> ?_⟩
 ·rw[Jhw (z r p),y r p];exact q
 ·obtain⟨a,b⟩:=h.o r p;have e:=s r (.inr (.inr (.inr p)));exact⟨by grind,Jdl e.1,b.2⟩
end
end Eva
namespace Eva
open Go Go.RowKit
variable {e Y:Nat}{n:List V}{t:Pt->Prop}{f:Tb}{h:St}{g:List (List V)}{j:List Str}{u:Int}{x:Pt}{o:Sch}
def docO :Nat->Opn->Prop
 |0,_=>True
 |d+1, .mk k _ _ _ _ _ p=>k=5->p≠[]/\∀c∈p,c≠[]/\(∀o∈c,docO d o)/\∀o∈c.tail,o.k≠6
def docP (d:Nat)(p:Pipe):Prop:=p≠[]/\∀c∈p,c≠[]/\(∀o∈c,docO d o)/\∀o∈c.tail,o.k≠6
theorem Jkg (n:Str):∀(l:List Str) (k:Nat),idxN n l k=(fstN n l).map (·+k)
 |[],k=>rfl
 | a::r,k=>by
   rw[idxN,fstN,Jkg n r];by_cases h:n=a
   ·grind
   ·rw[Xa h,Xa fun e=>h e.symm,Hu];congr 1
    grind
def narB (v:Int)(path:List Str)(n:Nat)(a:Nat×Nat)(x:Int×List Str×Nat):Nat×Nat:=if x.1=v/\a.2<=x.2.1.length/\x.2.1.length<n/\x.2.1=path.take x.2.1.length then(x.2.2,x.2.1.length)else a
def narE (v:Int)(path:List Str)(n:Nat)(a:Nat×Nat)(x:Int×List Str×Nat):Nat×Nat:=if x.1=v/\x.2.1=path.take n/\x.2.1.length=n then(x.2.2,n)else a
theorem Jm6 (v:Int)(a:List Str)(n:Nat):∀l:List (Int×List Str×Nat),(∀C,l.foldl (narE v a n) C=C)\/∃K:Nat×Nat,K.2=n/\∀C,l.foldl (narE v a n) C=K
 |[]=> .inl fun C=>rfl
 | x::r=>by
   rcases Jm6 v a n r with h|⟨K,b,d⟩
   ·by_cases c:x.1=v/\x.2.1=a.take n/\x.2.1.length=n
    ·exact .inr ⟨(x.2.2,n),rfl,fun C=>by rw[Zz,h,narE,Xe c]⟩
    ·exact .inl fun C=>by rw[Zz,h,narE,Xa c]
   grind
theorem Jm7 {v:Int}{path:List Str}{n:Nat}:∀{l:List (Int×List Str×Nat)} {a:Nat×Nat},a.2<=n->(l.foldl (narB v path (n+1)) a).2<=n
 |[],a,h=>h
 | x::r,a,h=>by
   rw[Zz];refine Jm7 ?_;unfold narB
   grind
theorem Jp3 {a:Nat×Nat}(m:a.2<=e):∀k (l:List (Int×List Str×Nat)),l.length=k->l.foldl (narB u j (e+1)) a=l.foldl (narE u j e) (l.foldl (narB u j e) a):=by
 intro k
 induction k with
 |zero=>simp
 | succ k b=>
   intro l h;obtain⟨l,x,rfl⟩:∃o x,l=o++[x]:=⟨l.dropLast,l.getLast (by grind),(List.dropLast_concat_getLast _).symm⟩
   have h:l.length=k:=by grind
   have b:=b l h;have f:=Jm7 (v:=u) (path:=j) (l:=l) m;rw[b]at f;simp[b];generalize p:l.foldl (narB u j e) a=A at f;by_cases c:x.1=u/\x.2.1=j.take x.2.1.length;rotate_left
   ·have q:∀V,narB u j (e+1) V x=V:=fun V=>Xa fun h=>c ⟨h.1,h.2.2.2⟩;have r:narB u j e A x=A:=Xa fun h=>c ⟨h.1,h.2.2.2⟩;have d:∀V,narE u j e V x=V:=fun V=>Xa fun h=>c ⟨h.1,by grind⟩
    grind
   by_cases g:x.2.1.length=e
   ·have d:∀V,narE u j e V x=(x.2.2,e):=fun V=>Xe ⟨c.1,by grind,g⟩;rw[d];unfold narB
    grind
   ·have d:∀V,narE u j e V x=V:=fun V=>Xa fun h=>g h.2.2;rw[d];rcases Jm6 u j e l with h|⟨K,s,i⟩
    ·rw[h,h];unfold narB
     grind
    ·rw[i,i];unfold narB
     grind
theorem JfV {v:Int}{b:List Str}{a:Nat×Nat}:∀l:List (Int×List Str×Nat),l.foldl (narB v b 0) a=a
 |[]=>rfl
 | x::r=>by
   rw[Zz];have:narB v b 0 a x=a:=Xa fun h=>absurd h.2.2.1 (XH _);rw[this,JfV r]
theorem Jrx :narB u j (j.length+1)=narS u j:=by
 funext a x;unfold narB narS
 grind
end Eva
namespace Eva
variable {e Y:Nat}{n:List V}{t:Pt->Prop}{f:Tb}{h:St}{g:List (List V)}{j:List Str}{u:Int}{x:Pt}{o:Sch}
def kE (E:EnvS)(n:Str):Int:=match Qh E n with
 |some z=>z
 |none=> -2
theorem JfW (n:Str)(x:Str×Nat):∀l:List (Str×Nat),Q3 (l++[x]) n=if x.1=n then some l.length else Q3 l n
 |[]=>by rfl
 | y::r=>by
   rw[X2,Q3,JfW n x r,Q3]
   grind
end Eva
namespace Eva
open Go Go.RowKit
variable {e Y:Nat}{n:List V}{t:Pt->Prop}{f:Tb}{h:St}{g:List (List V)}{j:List Str}{u:Int}{x:Pt}{o:Sch}
def docN (m:Nat):Nat->Nod->Prop
 |0,_=>True
 |d+1, .mk k a _ _ p body els _ cases=>0<=a/\(p=[]->k=1\/k=9)/\(k=1->p=[])/\(p≠[]->docP m p)/\(k=8->body=[])/\(∀n∈body,docN m d n)/\(∀n∈els,docN m d n)/\∀c∈cases,∀n∈c.2,docN m d n
def docL (m d:Nat)(l:List Nod):Prop:=∀n∈l,docN m d n
section
variable {sg : Tb -> List Nat -> List Nat -> Nat × Int}
end
def jI (P:Pt->Prop)(st:St)(e:List V)(c:Opn×Nat):Prop:=∃e1,e=e1++[.d .i64 (c.2:Nat)]/\OprC P st 1 e1 c.1
theorem jI.A {P Q:Pt->Prop}{st st':St}{e:List V}{c:Opn×Nat}(h:jI P st e c)(k:∀r,P r->st.A r≠ .none->Q r/\st'.A r=st.A r):jI Q st' e c:=by
 obtain⟨a,b,d⟩:=h;exact⟨a,b,OprC.A k d⟩
structure jq (tb:Tb) (E:EnvS) (c:Opn×Nat):Prop where
 k:c.1.k=1
 a:c.2<tb.a.length
 d:∃v,Qh E (match c.1 with| .mk _ var _ _ _ _ _=>var)=some v
 b:(match c.1 with| .mk _ _ path _ _ _ _=>path).length<90000
 e:(match c.1 with| .mk _ _ _ _ _ _ p=>p)=[]
end Eva
namespace Eva
variable {e Y:Nat}{n:List V}{t:Pt->Prop}{f:Tb}{h:St}{g:List (List V)}{j:List Str}{u:Int}{x:Pt}{o:Sch}
theorem Jd7 {a:Tb}:∀(l:List Str) (id:Nat),(YC a id l).2≠0->(YC a id l).1=0
 |[],_,h=>absurd rfl h
 | n::r,id,h=>by
   rw[YC]at h⊢
   split at h
   ·exact Jd7 r _ h
   ·rfl
theorem Jlq {E:EnvS}{v:Str}(h:(Qs f E v j).2≠0):(Qs f E v j).1=0:=by
 unfold Qs at h⊢
 split
 ·rfl
 ·rename_i e
  rw[e]at h;exact Jd7 _ _ h
end Eva
namespace Eva
open Go Go.RowKit
variable {e Y:Nat}{n:List V}{t:Pt->Prop}{f:Tb}{h:St}{g:List (List V)}{j:List Str}{u:Int}{x:Pt}{o:Sch}
def sz10 :R10->Nat
 | .mk _ _ _ ks=>1+(ks.map sz10).sum
def KA (l:List R10):Nat:=(l.map sz10).sum
theorem Jij (k n:Int)(w:R9)(a:List R10):sz10 (.mk k n w a)=1+KA a:=by rw[sz10,KA]
theorem Jdm (a b:List R10):KA (a++b)=KA a+KA b:=by simp[KA]
theorem Jlr (a:R10)(b:List R10):KA (a::b)=sz10 a+KA b:=rfl
theorem Jan {l:List R10}{i:Nat}(h:i<l.length):KA (l.take (i+1))=KA (l.take i)+sz10 l[i]:=by
 rw[Xn h,Jdm,Jlr];simp[KA]
theorem Jgc (l:List R10)(i:Nat):KA (l.take i)<=KA l:=by
 have:=Jdm (l.take i) (l.drop i);rw[X4]at this;omega
abbrev few4 (ns:List Str):Prop:=ns.length<=4
theorem Jls (n:Str):∀l:List Str,(l.take (KN n l)).length+(l.drop (KN n l)).length=l.length:=fun l=>by grind
theorem Jp4 {t x:Ty}{m:Str}(g:t.D.length<=e/\QI few4 t.G)(h:noNm few4 x):(putS t m x).D.length<=e+1/\QI few4 (putS t m x).G:=by
 unfold putS
 split
 ·grind
 obtain⟨k,j,c,i⟩:=t;obtain⟨f,d⟩:=g;have f:c.length<=e:=f;have d:QI few4 i:=d;refine⟨?_,JfL fun y a=> ?_⟩
 ·have:=Jls m c;show(c.take (KN m c)++m::c.drop (KN m c)).length<=e+1
  grind
 ·rcases Xs.1 a with a|a
  ·exact Jdj d y (Zj a)
  ·rcases Xq.1 a with rfl|a
   ·exact h
   ·exact Jdj d y (ZO a)
theorem Jhx {f:Nat->Str}{g:Nat->Ty}(a:∀i,noNm few4 (g i)):∀(l:List Nat) (t:Ty) (b:Nat),(t.D.length<=b/\QI few4 t.G)->((l.foldl (fun t i=>putS t (f i) (g i)) t).D.length<=b+l.length/\QI few4 (l.foldl (fun t i=>putS t (f i) (g i)) t).G)
 |[],t,b,h=>h
 | i::r,t,b,h=>by
   have k:=Jhx (f:=f) a r _ (b+1) (Jp4 (m:=f i) h (a i))
   grind
theorem Jdn (a:List Str):∀(d:Nat) (r:Rw),noNm few4 (JJ a d r)
 |0,r=>by rw[JJ];exact Ja8.2 ⟨by simp,by rw[QI];trivial⟩
 | d+1,r=>by
   have z:∀(k:Int) (m:Str),noNm few4 (.mk k m [] []):=fun k m=>Ja8.2 ⟨by simp,by rw[QI];trivial⟩;have b:=fun r=>Jdn a d r;rw[JJ]
   split
   ·grind
   split
   ·split
    ·grind
    ·exact Ja8.2 ⟨by simp,JfL fun t e=>by grind⟩
   split
   ·have:=Jhx (f:=nameAt r) (g:=fun i=>JJ a d (kidS r i)) (fun i=>b _) (List.range (JbP (QU a (d+1) r) r)) (.mk (QU a (d+1) r) [] [] []) 0 ⟨Xb _,by show QI few4 [];rw[QI];trivial⟩;have j:JbP (QU a (d+1) r) r<=4:=by unfold JbP;grind
    rw[List.length_range]at this;generalize (List.range (JbP (QU a (d+1) r) r)).foldl _ _=T at*;obtain⟨k,l,c,n⟩:=T;exact Ja8.2 ⟨by have h:c.length<=0+JbP (QU a (d+1) r) r:=this.1;omega,this.2⟩
   grind
theorem Jtt {q:Rw}{d:List Rw}(h:newS (jH q d [])=(some f,u)):∀g∈f.a,g.b.length<=4:=by
 refine JpG (Q:=few4) rfl h (Jdn _ _ _) fun p c=> ?_;unfold jH typesOf at c;obtain⟨x,_,rfl⟩:=Xz.1 c;exact Jdn _ _ _
section
variable {S S' : St} {W Z : Pt -> Prop} {rt : Pt} {tb : Tb}
theorem TabZ.G (h:TabZ S W Z rt tb)(id:Nat):∃t g a b c,S.A rt= .a t [g, .q a, .q b, .d .i64 tb.b, .q c]/\TabZ (S.D rt t fun u=> .a u [g, .q a, .q b, .d .i64 id, .q c]) W Z rt {tb with b:=id}/\Kept S W (S.D rt t fun u=> .a u [g, .q a, .q b, .d .i64 id, .q c]) W:=by
 obtain⟨m,F,h,hF⟩:=h;obtain⟨t,l,e,_,n⟩:=Tab.D h id;obtain⟨g,i,j,k,es,v,h⟩:=h;obtain⟨x,c⟩:=h.s;rw[e]at c;injection c with o r;subst o;subst r;refine⟨t,g,i,j,k,e,⟨?_,F,n,hF⟩,Kept.G h.w.1⟩;exact((Ch.G W m).J (p:=rt) (t:=t) (f:=fun u=> .a u [g, .q i, .q j, .d .i64 id, .q k]) (Jb e) (by rw[e];rfl) (.inl h.w.1) (Jc _)).D
theorem TabZ.A (h:TabZ S W Z rt tb)(n:Str)(id:Nat):∃t x a b c,S.A rt= .a t [x, .q a, .q b, .d .i64 tb.b, .q c]/\∃j z,(∀S':St,S'.A b=S.A b->JdK S' (.a .s) (.q b) (ofL n) (.d .i64 id)=some (JY, .d b j fun u=> .b u z))/\TabZ (S.D b j fun u=> .b u z) W Z rt {tb with c:=setI n id tb.c}/\Kept S W (S.D b j fun u=> .b u z) W:=by
 obtain⟨O,F,⟨x,K,g,L,P,Q,h⟩,hF⟩:=h;obtain⟨t,c⟩:=h.s;obtain⟨j,N⟩:=h.o;have m:=fun(S':St) (T:S'.A g=S.A g)=>jD (enc:=ofL) (e:= .a .s) (T.trans N) n (.d .i64 (id:Int)) (YV n _) rfl;rw[Jfs]at m;have f:∀r,r≠g->(S.D g j fun u=> .b u (((setI n id tb.c).map fun p=>(p.1,V.d .i64 (p.2:Int))).map fun p=>(ofL p.1,p.2))).A r=S.A r:=fun r e=>Jj _ _ _ e;have U:rt≠g:=fun e=>by grind
 refine⟨t,x,K,g,L,c,j,_,m,⟨?_,F,⟨x,K,g,L,P,Q,{h with s:=⟨t,by grind⟩,u:=fun r w=> ?_,l:= ?_,H:=fun i a b=>(h.H i a b).A fun r p e=>⟨p,f r fun k=>h.M r p (by rw[k];exact h.w.2.2.1)⟩,y:=h.y.B (f K h.G.1),o:=⟨_,Jh _ _ _ _⟩,v:=h.v.B (f L fun e=>h.G.2.2 e.symm),A:=fun i a b=>⟨(h.A i a b).1,(h.A i a b).2.D fun r p e=>⟨p,f r fun k=>h.M r p (by rw[k];exact h.w.2.2.1)⟩⟩}⟩,hF⟩,Kept.G h.w.2.2.1⟩
 ·exact((Ch.G W O).J (p:=g) (t:=j) (by grind) (by rw[N];rfl) (.inl h.w.2.2.1) (Qb _)).D
 ·by_cases e:r=g
  ·rw[e,Jh];simp
  ·rw[f r e];exact h.u r w
 ·exact h.l.D fun r t _ n e=>f r fun k=>by grind
end
def NewY (st:St)(v:V)(S:St)(r:Option Tb×Int):Prop:=match r.1 with
 |none=>v= .p [.s, .d .i64 r.2]
 |some tb=>∃rt U,v= .p [.g rt 0, .d .i64 0]/\TabU S U rt tb/\∀r,U r->st.A r= .none
def Jkh {β:Type}(D:(Pt->Prop)->St->List V->β->Prop):Prop:=∀(P Q:Pt->Prop) (st st':St) (e:List V) (x:β),D P st e x->(∀r,P r->st.A r≠ .none->Q r/\st'.A r=st.A r)->D Q st' e x
section
variable {α β : Type} {C : List V -> α -> Prop} {D : (Pt -> Prop) -> St -> List V -> β -> Prop} {S0 S S' : St} {v : V} {z i : Nat} {l : List α} {out : List β} {es : List (List V)} {W B : Pt -> Prop}
structure TrnS (C:List V->α->Prop) (D:(Pt->Prop)->St->List V->β->Prop) (W B:Pt->Prop) (S0 S:St) (v:V) (z:Nat) (l:List α) (out:List β) (i:Nat) (es:List (List V)):Prop where
 g:Ch W S0 S
 u:SlF S0 S v z es
 s:es.length=l.length
 H:out.length<=i
 done:∀j (h:j<es.length) (h':j<out.length),D (fun r=>B r/\S0.A r≠ .none\/S0.A r= .none/\rowOf v≠some r) S es[j] out[j]
 m:∀j (h:j<es.length) (h':j<l.length),i<=j->C es[j] l[j]
theorem TrnS.G (g:Ch W S0 S)(h:SlF S0 S v z es)(c:es.length=l.length)(d:∀j (h:j<es.length) (e:j<l.length),C es[j] l[j]):TrnS C D W B S0 S v z l [] 0 es:=
 ⟨g,h,c,Xb _,fun j _ h=>absurd h (XH j),fun j a b _=>d j a b⟩
theorem TrnS.I (h:TrnS C D W B S0 S v z l out i es):TrnS C D W B S0 S v z l out (i+1) es:={h with H:=Nat.le_succ_of_le h.H,m:=fun j a b k=>h.m j a b (by omega)}
theorem TrnS.J (h:TrnS C D W B S0 S v z l out (out.length+1) es){x:β}(e:out.length<es.length)(d:D (fun r=>B r/\S0.A r≠ .none\/S0.A r= .none/\rowOf v≠some r) S es[out.length] x):TrnS C D W B S0 S v z l (out++[x]) (out.length+1) es:=by
 refine{h with H:=by simp,done:=fun j a b=> ?_};by_cases c:j<out.length
 ·rw[Xw c];exact h.done j a c
 ·have:j=out.length:=by simp at b;omega
  subst this;simpa using d
variable (hD : Jkh D)
include hD
theorem TrnS.X (h:TrnS C D W B S0 S v z l out i es)(g:Ch (fun _=>False) S S'):TrnS C D W B S0 S' v z l out i es:=
 ⟨h.g.A g fun r f=>f.elim,h.u.B fun r c=>g.d r (h.u.A c) id,h.s,h.H,fun j a b=>hD _ _ _ _ _ _ (h.done j a b) fun r p e=>⟨p,g.d r e id⟩,h.m⟩
theorem TrnS.N (h:TrnS C D W B S0 S v z l out i es)(g:Gr S S'):TrnS C D W B S0 S' v z l out i es:=h.X hD (Ch.H _ g)
theorem TrnS.M (h:TrnS C D W B S0 S v z l out i es)(c:out.length=l.length):LstAt (D (fun r=>B r\/S0.A r= .none) S) (fun r=>B r\/S0.A r= .none) S v z out:=
 ⟨es,h.u.D.D fun r p _=>⟨.inr p,rfl⟩,by rw[h.s,c],fun j a b=>hD _ _ _ _ _ _ (h.done j a b) fun r p _=>⟨p.elim (fun p=> .inl p.1) fun p=> .inr p.1,rfl⟩⟩
theorem TrnS.O (h:TrnS C D W B S0 S v z l out i es)(Z:e<es.length):∃q t,rowOf v=some q/\S0.A q= .none/\S.A q= .a t es.flatten/\Js z v (.d .i64 (e:Int))=some (.g q (e*z), .a)/\es[e].length=z/\ldn (S.A q) (e*z) z=some (.j es[e], .a)/\(∀o (Q:o<es[e].length),ld1 (S.A q) (e*z+o)=some (es[e][o], .a))/\
  ∀(S':St) (L:Nat) (T:List V),L+T.length<=z->out.length<=e->e<i->Ch (fun p=>p=q) S S'->(∃t,S'.A q= .a t (Jw es.flatten (e*z+L) T))->TrnS C D W B S0 S' v z l out i (es.set e (Jw es[e] L T)):=by
 obtain⟨q,t,h1,h2,h3,h4,h5,h6⟩:=Jie h.u Z;have U:=Jp h.u.1;have Y:e*z+z<=es.flatten.length:=by
  rw[U,<-Zm];exact XT z Z
 have P:∀o,o<z->es.flatten[e*z+o]? =es[e][o]? :=fun o Q=>by
  clear Y U h6 h4 h3;have hz:=h.u.1;clear h
  induction es generalizing e with
  |nil=>exact absurd Z (by simp)
  | cons f r ih=>
    have he:=hz f (by simp);rw[Zf]
    cases e with
    |zero=>rw[He,Zv,XG (by omega)];rfl
    | succ e=>
      rw[X3 (by rw[he,Zm];omega),show(e+1)*z+o-f.length=e*z+o by rw[he,Zm];omega];exact ih (by simpa using Z) (by simpa using h5) fun x hx=>hz x (Xi _ hx)
 refine⟨q,t,h1,h2,h3,h4,h5, ?_,fun o Q=> ?_,fun S' L T Q a b c ⟨t',hr⟩=> ?_⟩
 ·rw[h3,Ym,Xe Y];congr 3;apply Z3;intro o;by_cases c:o<z
  ·rw[GV c,ZY,P o c]
  ·rw[ZJ (by simp;omega),ZJ (by omega)]
 ·rw[h3,Ja1,P o (by omega),Xg Q];rfl
 ·have keep:∀r,S.A r≠ .none->r≠q->S'.A r=S.A r:=fun r f n=>c.d r f n;refine⟨h.g.A c fun r f=> .inr (by rw[f];exact h2),h6 S' t' L T Q hr,by rw[Hn];exact h.s,h.H,fun j x y=> ?_,fun j x y w=> ?_⟩
  ·have hj:j≠e:=by omega
   rw[Hy (Ne.symm hj)];exact hD _ _ _ _ _ _ (h.done j (by simpa using x) y) fun r p f=>⟨p,keep r f fun e2=>p.elim (fun p=>p.2 (e2▸h2)) fun p=>p.2 (by rw[h1,e2])⟩
  ·rw[Hy (by omega)];exact h.m j (by simpa using x) y w
theorem TrnS.A {k:Nat}{e:List V}(h:TrnS C D W B S0 S v z l out i (es.set k e))(L:k<es.length):∃q t F,rowOf v=some q/\S0.A q= .none/\S.A q= .a t F/\Js z v (.d .i64 (k:Int))=some (.g q (k*z), .a)/\ldn (S.A q) (k*z) z=some (.j e, .a)/\(∀o (y:o<e.length),ld1 (S.A q) (k*z+o)=some (e[o], .a))/\(∀o,o<=z->k*z+o<=F.length)/\
  ∀(S':St) (f:Nat) (n:List V),f+n.length<=z->out.length<=k->k<i->Ch (fun p=>p=q) S S'->(∃t,S'.A q= .a t (Jw F (k*z+f) n))->TrnS C D W B S0 S' v z l out i (es.set k (Jw e f n)):=by
 have w:k<(es.set k e).length:=by rw[Hn];exact L
 obtain⟨q,t,P,Q,T,U,h5,Y,Z,h8⟩:=h.O hD w;have x:(es.set k e)[k]=e:=X9 ..;have aa:k*z+z<=(es.set k e).flatten.length:=by
  rw[Jp h.u.1,<-Zm];exact XT z w
 refine⟨q,t,_,P,Q,T,U,by rw[Y,x],fun o y=> ?_,fun o y=>by omega,fun S' f n a b c d r=> ?_⟩
 ·have:=Z o (by rw[x];exact y);simp only[x]at this;exact this
 ·have:=h8 S' f n a b c d r;rw[x,List.set_set]at this;exact this
omit hD in
theorem TrnS.K (h:TrnS C D W B S0 S v z l out i es):J8 v=some (.d .i64 (l.length:Nat), .a):=by rw[h.u.D.G,h.s]
end
theorem OprC.J {P:Pt->Prop}{st:St}:∀{d:Nat} {e:List V} {x:Opn},OprC P st d e x->Kc e=true
 | d+1,_, .mk _ _ _ _ _ _ _,⟨f,g,a,b,c⟩=>by
   subst a;simp[J9,Kv,jS,jT,Ja2,b.B,(LstAt.B c).1]
theorem Jbt.F {α:Type}{C:List V->α->Prop}{a:St}{x:List α}(h:Jbt C t a e n x):Kc n=true:=by
 obtain⟨v,rfl,b⟩:=h;simp[J9,Kv,(LstAt.B b).1]
theorem NodC.F {m:Nat}:∀{d:Nat} {e:List V} {x:Nod},NodC t h m d e x->Kc e=true
 | d+1,_, .mk _ _ _ _ _ _ _ _ _,⟨i,j,k,l,a,b,c,f,g⟩=>by
   subst a;simp[J9,Kv,jS,jT,Ja2,(LstAt.B b).1,(LstAt.B c).1,(LstAt.B f).1,(LstAt.B g).1]
theorem CasC.F {C:List V->Nod->Prop}{a:St}{x:Str×List Nod}(h:CasC C t a n x):Kc n=true:=by
 obtain⟨v,rfl,b⟩:=h;simp[J9,Kv,jT,(LstAt.B b).1]
theorem Ch.K {b:St}{g:List V}(c:Ch t h b)(f:b.A x= .a e n)(j:t x):Ch t h (b.D x e fun u=> .a u g):=c.J (Jb f) (by rw[f];rfl) (.inl j) (Jc _)
theorem nm22 {g:St}{p q:Pt}{i j r:List V}(l:WF h)(k:h.b=up 0 x)(s:up 0 x=p)(m:up 1 x=q)
  (c:g=(((h.B fun t=> .a t n).B fun t=> .a t i).D p h.t fun u=> .a u j).D q (h.B fun t=> .a t n).t fun u=> .a u r):
  Ch (fun _=>False) h g/\(∃t,g.A p= .a t j)/\∃t,g.A q= .a t r:=by
 have o:=Gr.G l (Jc n);have v:(h.B fun t=> .a t n).A p= .a h.t n:=by rw[<-s];exact Qi k _
 have d:(h.B fun t=> .a t n).b=up 1 x:=by
  show up 1 h.b=_;rw[k];rfl
 have w:=Gr.G o.D (Jc i);have y:=Qi d (fun t=>Row.a t i);rw[m]at y;have N:h.A p= .none:=by rw[<-s];exact nx0 l k 0
 have O:h.A q= .none:=by rw[<-m];exact nx0 l k 1
 have K:=w.B v;have L:q≠p:=fun e=>by
  have:(h.B fun t=> .a t n).A (up 1 x)= .none:=nx0 o.D d 0;rw[m,e,v]at this
  cases this
 subst c;have P:=((Ch.H (fun _=>False) (o.A w)).J (t:=h.t) (f:=fun u=> .a u j) (Jb K) (congrArg Row.A K) (.inr N) (Jc _))
 have M:(((h.B fun t=> .a t n).B fun t=> .a t i).D p h.t fun u=> .a u j).A q=_:=(Jj _ _ _ L).trans y;exact⟨P.J (Jb M) (congrArg Row.A M) (.inr O) (Jc _),⟨_,(Jj _ _ _ (Ne.symm L)).trans (Jh _ _ _ _)⟩,_,Jh _ _ _ _⟩
theorem nmAW {p:Pt}{e:List V}{R:St->Prop}(f:WF h)(g:h.b=up 0 x)(i:up 0 x=p)(c:∀d,Gr h d->h.A p= .none->(∃t,d.A p= .a t e)->R d):R ((h.B fun t=> .a t n).D p h.t fun t=> .a t e):=by
 subst i;exact c _ ((Gr.F f).M g (Jc _) (Jc _)) (nx0 f g 0) ⟨_,Jh _ _ _ _⟩
mutual
def plcN :Nod->Int->Nod×Int
 | .mk k _ s nm p body els he cases,a=>
   let a1:=IntKind.i64.wrap (a+3)
   (.mk k a1 s nm p (plcL body a1).1 (plcL els (plcC cases (plcL body a1).2).2).1 he (plcC cases (plcL body a1).2).1,(plcL els (plcC cases (plcL body a1).2).2).2)
def plcL :List Nod->Int->List Nod×Int
 |[],a=>([],a)
 |n::r,a=>((plcN n a).1::(plcL r (plcN n a).2).1,(plcL r (plcN n a).2).2)
def plcC :List (Str×List Nod)->Int->List (Str×List Nod)×Int
 |[],a=>([],a)
 |(t,l)::r,a=>((t,(plcL l a).1)::(plcC r (plcL l a).2).1,(plcC r (plcL l a).2).2)
end
theorem Jhy :∀(l:List Nod) (n:Nod) (a:Int),plcL (l++[n]) a=((plcL l a).1++[(plcN n (plcL l a).2).1],(plcN n (plcL l a).2).2)
 |[],n,a=>by simp[plcL]
 |x::r,n,a=>by simp[plcL,Jhy r]
theorem Jhz :∀(l:List (Str×List Nod)) (c:Str×List Nod) (a:Int),plcC (l++[c]) a=((plcC l a).1++[(c.1,(plcL c.2 (plcC l a).2).1)],(plcL c.2 (plcC l a).2).2)
 |[],c,a=>by simp[plcC]
 |x::r,c,a=>by simp[plcC,Jhz r]
theorem jr :∀(l:List Nod) (a:Int),(plcL l a).1.length=l.length
 |[],_=>rfl
 |x::r,a=>by simp[plcL,jr r]
theorem JcO :∀(l:List (Str×List Nod)) (a:Int),(plcC l a).1.length=l.length
 |[],_=>rfl
 |x::r,a=>by simp[plcC,JcO r]
section
variable {q : Pipe -> Prop}
theorem JcP {p c:Nod->Prop}:∀(l:List Nod) (a:Int),(∀n∈l,p n)->(∀n a,n∈l->p n->c (plcN n a).1)->∀n∈(plcL l a).1,c n
 |[],_,_,_,n,b=>by simp[plcL]at b
 | x::r,a,h,k,n,b=>by
   rw[plcL]at b;rcases Xq.1 b with rfl|b
   ·exact k x a (Xu ..) (h x (Xu ..))
   ·exact JcP r _ (fun n b=>h n (Xi _ b)) (fun n a b=>k n a (Xi _ b)) n b
theorem JhA {p p':List Nod->Prop}:∀(l:List (Str×List Nod)) (a:Int),(∀c∈l,p c.2)->(∀c a,c∈l->p c.2->p' (plcL c.2 a).1)->∀c∈(plcC l a).1,p' c.2
 |[],_,_,_,n,b=>by simp[plcC]at b
 | x::r,a,h,k,n,b=>by
   rw[plcC]at b;rcases Xq.1 b with rfl|b
   ·exact k x a (Xu ..) (h x (Xu ..))
   ·exact JhA r _ (fun n b=>h n (Xi _ b)) (fun n a b=>k n a (Xi _ b)) n b
theorem JcQ :∀(d:Nat) (n:Nod) (a:Int),fitN q d n->fitN q d (plcN n a).1
 |0,_,_,_=>trivial
 | d+1, .mk k _ s o p b e r cases,a,⟨j,m,f,g,i⟩=>by
   rw[plcN];refine⟨j,m,⟨by rw[jr];exact f.1,JcP b _ f.2 fun n a _ h=>JcQ d n a h⟩,⟨by rw[jr];exact g.1,JcP e _ g.2 fun n a _ h=>JcQ d n a h⟩,by rw[JcO];exact i.1, ?_⟩;exact JhA (p:=fun l=>l.length<100000/\∀n∈l,fitN q d n) (p':=fun l=>l.length<100000/\∀n∈l,fitN q d n) cases _ i.2 fun c a _ h=>⟨by rw[jr];exact h.1,JcP c.2 _ h.2 fun n a _ h=>JcQ d n a h⟩
theorem Jp5 {l:List Nod}(h:fitL q e l):fitL q e (plcL l u).1:=⟨by rw[jr];exact h.1,JcP l u h.2 fun n u _ h=>JcQ e n u h⟩
end
theorem JcR {f:Nod->Nat}:∀(l:List Nod) (a:Int),(∀n a,n∈l->f (plcN n a).1=f n)->((plcL l a).1.map f).sum=(l.map f).sum
 |[],_,_=>rfl
 | x::r,a,h=>by
   rw[plcL];simp only[XK,Z0];rw[h x a (Xu ..),JcR r _ fun n a b=>h n a (Xi _ b)]
theorem Jki {f:List Nod->Nat}:∀(l:List (Str×List Nod)) (a:Int),(∀c a,c∈l->f (plcL c.2 a).1=f c.2)->((plcC l a).1.map fun c=>f c.2).sum=(l.map fun c=>f c.2).sum
 |[],_,_=>rfl
 | x::r,a,h=>by
   rw[plcC];simp only[XK,Z0];rw[h x a (Xu ..),Jki r _ fun n a b=>h n a (Xi _ b)]
theorem JcS :∀(d:Nat) (n:Nod) (a:Int),sizN d (plcN n a).1=sizN d n
 |0,_,_=>rfl
 | d+1, .mk k _ s g p b e h cases,a=>by
   rw[plcN];simp only[sizN];rw[JcR b _ fun n a _=>JcS d n a,JcR e _ fun n a _=>JcS d n a,Jki (f:=fun l=>(l.map (sizN d)).sum) cases _ fun c a _=>JcR c.2 a fun n a _=>JcS d n a]
theorem Jp6 (l:List Nod)(a:Int):sizL e (plcL l a).1=sizL e l:=JcR l a fun n a _=>JcS e n a
end Eva
namespace Eva
open Go Go.RowKit
variable {e Y:Nat}{n:List V}{t:Pt->Prop}{f:Tb}{h:St}{g:List (List V)}{j:List Str}{u:Int}{x:Pt}{o:Sch}
inductive ChkR (row:Tb->Str->Nat->AnsR):Tb->Cls->Nat->Tb×Cls⊕Int×Str×Int->Prop
 |done {tb:Tb} {ps:Cls} {k:Nat} (h:ps.length<=k):ChkR row tb ps k (.inl (tb,ps))
 |b {tb:Tb} {ps:Cls} {k:Nat} {c:Str×Nat} (h:ps[k]? =some c) (e:(row tb c.1 c.2).2.2.1≠0):ChkR row tb ps k (.inr ((row tb c.1 c.2).2.2.1,c.1,(row tb c.1 c.2).2.2.2))
 |a {tb:Tb} {ps:Cls} {k:Nat} {c:Str×Nat} {r:Tb×Cls⊕Int×Str×Int} (h:ps[k]? =some c) (e:(row tb c.1 c.2).2.2.1=0) (n:ChkR row (row tb c.1 c.2).1 (dedS ps (row tb c.1 c.2).2.1) (k+1) r):ChkR row tb ps k r
theorem ChkR.A {g:Tb->Str->Nat->AnsR}{i:Cls}{r j:Tb×Cls⊕Int×Str×Int}(h:ChkR g f i e r):ChkR g f i e j->r=j:=by
 induction h with
 |done h=>intro d;cases d<;>grind
 |b h c=>intro d;cases d<;>grind
 | a h c n l=>
   intro d
   cases d with
   |done d=>grind
   |b d m=>grind
   |a d m o=>rw[h]at d;injection d with d;subst d;exact l o
theorem Jbb {α:Type}[DecidableEq α]:∀(l e:List α),∃t,dedS e l=e++t/\(∀y∈t,y∈l)/\t.length<=l.length/\(e.Nodup->(dedS e l).Nodup)
 |[],e=>⟨[],by simp[dedS],by simp,by simp,id⟩
 | x::r,e=>by
   rw[dedS]
   split
   ·rename_i h
    obtain⟨t,a,b,c,d⟩:=Jbb r e;exact⟨t,a,by grind,by grind,d⟩
   ·rename_i h
    obtain⟨t,a,b,c,d⟩:=Jbb r (e++[x]);exact⟨x::t,by grind,by grind,by grind,fun k=>d (by grind)⟩
theorem JnK {names:List Str}{d:Cls}(h:d.Nodup)(k:∀c∈d,c.1∈names/\c.2<e):d.length<=names.length*e:=by
 have:=List.Nodup.length_le_of_subset (l₂:=names.flatMap fun n=>(List.range e).map fun i=>(n,i)) h fun c f=>by
  have:=k c f;simp only[List.mem_flatMap,Xz,Zh];exact⟨c.1,this.1,c.2,this.2,rfl⟩
 have b:∀l:List Str,(l.map fun _=>e).sum=l.length*e:=fun l=>by
  induction l with
  |nil=>simp
  |cons a r g=>rw[XK,Z0,g,XF,Zm];omega
 rw[<-b];simpa[List.length_flatMap]using this
section
variable {sg : Tb -> List Nat -> List Nat -> Nat × Int}
theorem Jp7 (a:Tb)(n:Nd):(layS a n).1.b=a.b:=by
 unfold layS
 repeat' split
 all_goals rfl
theorem Jry (a:Tb)(n:Str)(args:List Nat)(l:List Nd):(Qt a n args l).1.b=a.b:=by
 unfold Qt
 repeat' split
 all_goals first|rfl|exact Jp7 _ _
theorem JsC (a:Tb)(n:Str)(args:List Nat):(ofK sg a n args).1.b=a.b:=by
 unfold ofK
 repeat' split
 all_goals first|rfl|exact Jry _ _ _ _
theorem Jp8 {f:Tb->Opn->Ans3}(H:∀a o,(f a o).1.b=a.b):∀l a,(QJ f a l).1.b=a.b
 |[],_=>rfl
 | o::r,a=>by
   have k:=H a o;have n:=Jp8 H r (f a o).1;rw[QJ];generalize f a o=x at k n;simp only
   split
   ·exact k
   ·exact n.trans k
theorem Jp9 {f:Tb->Opn->Ans3}(H:∀d o,(f d o).1.b=d.b):∀p d a,(pipS sg f d a p).1.b=d.b
 |[],_,[]=>rfl
 |[],_,_::_=>rfl
 | c::r,d,a=>by
   have k:(cmdS sg f d a c).1.b=d.b:=by
    cases c with
    |nil=>rfl
    | cons o l=>
      have g:=H d o;have e:=Jp8 H l d;rw[cmdS]
      split
      ·unfold Jj7;generalize QJ f d l=x at e;simp only
       split
       ·exact e
       ·exact(JsC _ _ _).trans e
      ·generalize f d o=x at g;simp only
       split<;>exact g
   have n:=Jp9 H r (cmdS sg f d a c).1 [(cmdS sg f d a c).2.1];rw[pipS];generalize cmdS sg f d a c=x at k n;simp only
   split
   ·exact k
   ·exact n.trans k
theorem JsD {E:EnvS}:∀d a o,(opnS sg d E a o).1.b=a.b
 |0,_,_=>rfl
 | d+1,a, .mk k e c s _ _ p=>by
   rw[opnS]
   repeat' split
   all_goals first|rfl|exact Jp7 _ _|exact Jp9 (JsD d) _ _ _|exact JsC _ _ []
theorem Jum {m:Nat}{E:EnvS}(a:Tb)(n:Nod):(typS sg m E a n).1.b=a.b:=by
 unfold typS
 split
 ·exact Jp9 (JsD m) _ _ _
 ·rfl
end
section
variable {names : List Str} {i0 : Nat}
def NamR (names:List Str)(i0:Nat)(tb:Tb)(cs:Cls):Prop:=tb.b=i0/\∀c∈cs,c.1∈names
abbrev NamA (names:List Str)(i0:Nat)(x:AnsR):Prop:=NamR names i0 x.1 x.2.1
theorem Jkj {f:Tb->Cls->EnvS->List Nod->AnsR}(H:∀a d E l,NamR names i0 a d->NamA names i0 (f a d E l)){E:EnvS}{g:Nd}:∀(l:List (Str×List Nod)) (a:Tb) (d:Cls) (e:List Nat),NamR names i0 a d->NamA names i0 (Jam f E g a d e l).1
 |[],a,d,e,h=>h
 | (t,b)::r,a,d,e,h=>by
   rw[Jam]
   cases fstN t g.b with
   |none=>exact h
   | some i=>
     simp only
     split
     ·exact h
     ·have k:=H a d (Q4 E (g.c.getD i 0)) b h
      split
      ·exact k
      ·exact Jkj H r _ _ _ k
theorem Jqa {a:Tb->Cls->EnvS->List Nod->AnsR}(H:∀f c E l,NamR names i0 f c->NamA names i0 (a f c E l)){c:Cls}{E d:EnvS}{b o:List Nod}(h:NamR names i0 f c):NamA names i0 (Q6 a f c E b d o):=by
 have k:=H f c E b h;unfold Q6;generalize a f c E b=x at k;simp only
 split
 ·exact k
 ·exact H _ _ _ _ k
theorem Jrz {d:Tb->Cls->EnvS->List Nod->AnsR}(H:∀f e E l,NamR names i0 f e->NamA names i0 (d f e E l)){e:Cls}{E:EnvS}{id:Nat}(h:NamR names i0 f e):∀n,NamA names i0 (oneS d names f e E id n)
 | .mk k _ _ name p j m r cases=>by
   have g:∀{E q b o},NamA names i0 (Q6 d f e E b q o):=Jqa H h;have a:NamA names i0 (Jam d E (Jm f id) f e [] cases).1:=Jkj H cases f e [] h;unfold oneS;simp only
   repeat' split
   all_goals first
    |exact h
    |exact g
    |exact a
    |exact H _ _ _ _ a
    |exact⟨h.1,fun c i=>(Xs.1 i).elim (h.2 c) fun i=>by rw[Xj.1 i];assumption⟩
theorem Jkk {d:Tb->List Nat->List Nat->Nat×Int}{m:Nat}{c:Tb->Cls->EnvS->Nat->Nod->AnsR}(H:∀b a E id n,NamR names i0 b a->NamA names i0 (c b a E id n)):∀(l:List Nod) (b:Tb) (a:Cls) (E:EnvS),NamR names i0 b a->NamA names i0 (JaL d c m b a E l)
 |[],b,a,E,h=>h
 | n::r,b,a,E,h=>by
   have g:=Jum (sg:=d) (m:=m) (E:=E) b n;rw[JaL];generalize typS d m E b n=x at g;simp only;have e:NamR names i0 x.1 a:=⟨g.trans h.1,h.2⟩
   split
   ·exact e
   ·have k:=H x.1 a E x.2.1 n e;generalize c x.1 a E x.2.1 n=y at k
    split
    ·exact k
    ·exact Jkk H r _ _ _ k
theorem Jm8 {sg:Tb->List Nat->List Nat->Nat×Int}{m:Nat}:∀d a b E l,NamR names i0 a b->NamA names i0 (rowS sg names m d a b E l)
 |0,_,_,_,_,h=>h
 |d+1,a,b,E,l,h=>Jkk (fun _ _ _ _ n k=>Jrz (Jm8 d) k n) l a b E h
end
structure PlW (s:Sch) (row:Tb->Str->Nat->AnsR) (names:List Str) (tb0 tb:Tb) (pl:Cls) (i:Nat):Prop where
 p:OfF s tb
 g:tb.b=tb0.b
 u:i<=pl.length
 j:pl.Nodup
 v:pl[0]? =some ([],tb0.b)
 q:∀c∈pl,c.1∈names/\c.2<tb.a.length
 o:∀r,ChkR row tb pl i r->ChkR row tb0 [([],tb0.b)] 0 r
section
variable {s : Sch} {row : Tb -> Str -> Nat -> AnsR} {names : List Str} {tb0 tb : Tb} {pl : Cls} {i : Nat}
theorem PlW.A (h:OfF s tb0)(n:[]∈names)(l:tb0.b<tb0.a.length):PlW s row names tb0 tb0 [([],tb0.b)] 0:=
 ⟨h,rfl,XC _,by simp,rfl,fun c d=>by rw[Xj.1 d];exact⟨n,l⟩,fun r h=>h⟩
theorem PlW.F (h:PlW s row names tb0 tb pl i){c:Str×Nat}(m:pl[i]? =some c){b:Nat}(f:KT s tb [] b (row tb c.1 c.2))(k:NamA names tb.b (row tb c.1 c.2))(e:(row tb c.1 c.2).2.2.1=0):PlW s row names tb0 (row tb c.1 c.2).1 (dedS pl (row tb c.1 c.2).2.1) (i+1):=by
 obtain⟨t,a,b,_,d⟩:=Jbb (row tb c.1 c.2).2.1 pl;have z:i<pl.length:=(Xx.1 m).1;have w:=h.v;refine⟨f.d,k.1.trans h.g,by rw[a,XW];omega,d h.j,by rw[a,XG (by omega)];exact w,fun x l=> ?_,fun r y=>h.o r (.a m e y)⟩;rw[a]at l;rcases Xs.1 l with l|l
 ·exact⟨(h.q x l).1,Zs (h.q x l).2 f.g⟩
 ·have n:=b x l;exact⟨k.2 x n,(f.i x n).resolve_left fun h=>by cases h⟩
theorem PlW.G (h:PlW s row names tb0 tb pl i)(b:names.length<=e)(c:tb.a.length<=Y):pl.length<=e*Y:=
 Zb (JnK h.j h.q) (Nat.mul_le_mul b c)
end
theorem TabU.J {b:St}(a:TabU h t x f)(w:WF b)(k:∀r,t r->b.A r=h.A r):TabU b t x f:=by
 obtain⟨_,⟨W,F,d,c⟩,e⟩:=a;exact⟨w,⟨W,F,d.A fun r u _=>k r (c r u),c⟩,fun r u=>by rw[k r u];exact e r u⟩
structure WkL (B:St) (U0:Pt->Prop) (ps w q0 rt:Pt) (ys:List V) (S:St) (U:Pt->Prop) (tb:Tb) (pv:V) (pl ql:Cls) (m:Nat):Prop where
 q:(¬U0 ps/\¬U0 w/\¬U0 q0)/\(B.A ps≠ .none/\B.A w≠ .none/\B.A q0≠ .none)/\ps≠w
 ch:Ch (fun r=>U0 r\/r=ps\/r=w\/r=q0) B S
 tab:TabU S U rt tb
 s:∀r,U r->U0 r\/B.A r= .none
 j:∃t,S.A ps= .a t (ys++[pv])
 f:qB S w ql m
 i:KV S pv 2 (clsE pl)
 l:∀r,rowOf pv=some r->(r=q0\/B.A r= .none)/\¬U r/\r≠ps/\r≠w
section
variable {B S S' S'' : St} {U0 U U' : Pt -> Prop} {ps w q0 rt : Pt} {ys : List V} {tb tb' : Tb} {pv pv' : V} {pl pl' ql : Cls} {m m' : Nat}
theorem qB.F (h:qB S x ql m)(l:m<=m'):qB S x ql m':=by
 obtain⟨i,a,b,c⟩:=h;exact⟨i,a,fun p j=>(by obtain⟨d,e,f,g⟩:=b p j;exact⟨d,e,f,Zb g l⟩),c⟩
theorem qB.A {r:Pt}(h:qB S r ql m):S.A r≠ .none:=by
 obtain⟨a,_,_,k⟩:=h;exact k.A
theorem WkL.A (h:WkL B U0 ps w q0 rt ys S U tb pv pl ql m):¬U ps/\¬U w:=⟨fun u=>(h.s _ u).elim h.q.1.1 h.q.2.1.1,fun u=>(h.s _ u).elim h.q.1.2.1 h.q.2.1.2.1⟩
theorem WkL.J (h:WkL B U0 ps w q0 rt ys S U tb pv pl ql m)(g:Gr S S'):WkL B U0 ps w q0 rt ys S' U tb pv pl ql m:=by
 obtain⟨t,c⟩:=h.j;exact⟨h.q,h.ch.I g,h.tab.A g,h.s,⟨t,g.B c⟩,h.f.D (g.d _ h.f.A),h.i.F fun r e=>g.d r (h.i.A e),h.l⟩
theorem WkL.F (h:WkL B U0 ps w q0 rt ys S U tb pv pl ql m)(c:Ch U S S')(a:∀r,U' r->U r\/S.A r= .none)(k:TabU S' U' rt tb'):WkL B U0 ps w q0 rt ys S' U' tb' pv pl ql m:=by
 obtain⟨t,e⟩:=h.j;obtain⟨b,g⟩:=h.A;exact⟨h.q,h.ch.A c fun r u=>(h.s r u).imp .inl id,k,fun r u=>(a r u).elim (h.s r) fun n=> .inr (h.ch.B n),⟨t,(c.d _ (Jb e) b).trans e⟩,h.f.D (c.d _ h.f.A g),h.i.F fun r e=>c.d r (h.i.A e) (h.l r e).2.1,fun r e=>⟨(h.l r e).1,fun u=>(a r u).elim (h.l r e).2.1 (h.i.A e),(h.l r e).2.2⟩⟩
theorem WkL.G (h:WkL B U0 ps w q0 rt ys S U tb pv pl ql m)(c:Ch (fun r=>r=w) S S')(k:qB S' w pl' m'):WkL B U0 ps w q0 rt ys S' U tb pv pl pl' m':=by
 obtain⟨t,e⟩:=h.j;obtain⟨b,a⟩:=h.A;exact⟨h.q,h.ch.A c fun r u=> .inl (.inr (.inr (.inl u))),h.tab.J c.D fun r u=>c.d r (h.tab.2.2 r u) fun x=>a (x▸u),h.s,⟨t,(c.d _ (Jb e) h.q.2.2).trans e⟩,k,h.i.F fun r e=>c.d r (h.i.A e) (h.l r e).2.2.2,h.l⟩
theorem WkL.I (h:WkL B U0 ps w q0 rt ys S U tb pv pl ql m)(c:Ch (fun p=>rowOf pv=some p) S S')(o:KV S' pv' 2 (clsE pl'))(n:∀r,rowOf pv'=some r->S.A r= .none)(v:Ch (fun p=>p=ps) S' S'')(g:S''.A ps= .a e (ys++[pv'])):WkL B U0 ps w q0 rt ys S'' U tb pv' pl' ql m:=by
 obtain⟨L,K⟩:=h.j;obtain⟨u1,M⟩:=h.A;have y:∀r,rowOf pv'=some r->r≠ps/\r≠w/\¬U r:=fun r k=>⟨fun x=>(by have:=n r k;rw[x,K]at this;cases this),fun x=>h.f.A (x▸n r k),fun u=>h.tab.2.2 r u (n r k)⟩
 have z:∀r,S.A r≠ .none->rowOf pv≠some r->r≠ps->S''.A r=S.A r:=fun r a b d=>by rw[v.d r (by rw[c.d r a b];exact a) d,c.d r a b]
 exact⟨h.q,(h.ch.A c fun r k=>(h.l r k).1.imp (fun x=> .inr (.inr (.inr x))) id).A v fun r x=> .inl (.inr (.inl x)),h.tab.J v.D fun r u=>z r (h.tab.2.2 r u) (fun k=>(h.l r k).2.1 u) fun x=>u1 (x▸u),h.s,⟨e,g⟩,h.f.D (z w h.f.A (fun k=>(h.l w k).2.2.2 rfl) h.q.2.2.symm),o.F fun r k=>v.d r (o.A k) (y r k).1,fun r k=>⟨.inr (h.ch.B (n r k)),(y r k).2.2,(y r k).1,(y r k).2.1⟩⟩
end
def jJ (P:Pt->Prop)(S:St)(u:V)(rows:List (List R10)):Prop:=∃us,SlAt P S u 1 us/\us.length=rows.length/\∀i (h:i<us.length) (h':i<rows.length),∃v,us[i]=[v]/\YA P S v rows[i]
theorem jJ.A {P:Pt->Prop}{S S':St}{u:V}{d:List (List R10)}(h:jJ P S u d)(g:Gr S S'):jJ P S' u d:=by
 obtain⟨e,a,b,c⟩:=h;refine⟨e,a.D g.H,b,fun i h f=> ?_⟩;obtain⟨v,x,y⟩:=c i h f;exact⟨v,x,y.A g.H⟩
section
variable {H : Type} {enc : TypeId × Value -> H} {P : Program} {W : World} {ρ : Nat -> Value}
theorem Jqb {t O Q y S n:TypeId}(J:JpN P t O Q y S)(L:P.underlying n=some (.slice y))(M:0<W.heap.size){r:Reach}{v:Value}{d:DataW H}{p:List MemPlace}(g:Value.okWide P W r e n v)(h:DataW.Trod enc P W 0 (fun _=>true) true n v d p):
  ∃o:List (List R10),OpnV ρ W v fun i u=>jJ (fun _=>True) i u o:=by
 obtain⟨a,j,l,rfl⟩:=WideShapes.okWide_slice L g;obtain⟨f,N⟩:=h
 cases f with
 |zero=>simp[DataW.trod]at N
 | succ f=>
   obtain⟨v',o,m,T⟩:=Jic (ρ:=ρ) (z:=1) (by decide) L J.c M (K:=fun b i r=>∃v,b=[v]/\YA (fun _=>True) i v r) (fun{cs x} k=>by
    obtain⟨w,U,rfl,q⟩:=(Jrr (ρ:=ρ) J M f).2 k;refine⟨rfl,U,q.D.F fun i b h=> ?_⟩;obtain⟨u,rfl,h⟩:=h;exact⟨rfl,u,rfl,h⟩) N
   have s:(Value.slice a j l).cells.toList=[.slice a j l]:=by rfl
   rw[s]at m;injection m with m;subst m;exact⟨o,T.F fun i u ⟨X,Y,q,_,Z⟩=>⟨X,Y,q,Z⟩⟩
end
section
variable (P : Program)
def J7 :Value->V
 | .bool b=> .h b
 | .int k n=> .d k n
 | .string s=>ofL s.data.toList
 | .slice _ _ _=> .e
 | .map _=> .u
 | .nilFunc=> .x
 | .float _ _=> .s
 | .complex _ _ _=> .s
 | .pointer _=> .s
 | .chan _=> .s
 | .func _ _ _=> .s
 | .iface _ _=> .s
 | .nilIface=> .s
 | .agg _=> .s
 | .tuple _=> .s
def Jd8 :List Value->List V
 |[]=>[]
 |a::r=>J7 a::Jd8 r
def Kl :Value->V
 | .agg cs=> .j (Jd8 cs.toList)
 | .tuple cs=> .p (Jd8 cs.toList)
 | .bool b=> .h b
 | .int k n=> .d k n
 | .string s=>ofL s.data.toList
 | .slice _ _ _=> .e
 | .map _=> .u
 | .nilFunc=> .x
 | .float _ _=> .s
 | .complex _ _ _=> .s
 | .pointer _=> .s
 | .chan _=> .s
 | .func _ _ _=> .s
 | .iface _ _=> .s
 | .nilIface=> .s
def JB :Operand->Opd
 | .tmp t=> .s t
 | .const v=> .c (Kl v)
 | .func f=> .c (.D f [] [])
 | .global _=> .c .y
def jU :List Operand->List Opd
 |[]=>[]
 |a::r=>JB a::jU r
def ku :Option Operand->Option Opd
 |none=>none
 |some x=>some (JB x)
def Y9 (t:TypeId):Nat:=match P.info? t with
 |some i=>i.size
 |none=>0
def JaP :Option Value->List V
 |some v=>Jd8 v.cells.toList
 |none=>[]
def JfX (t:TypeId):List V:=match P.info? t with
 |some i=>JaP i.zero
 |none=>[]
def Jkl :Option Value->V
 |some v=>Kl v
 |none=> .y
def c0ZS (t:TypeId):V:=match P.info? t with
 |some i=>Jkl i.zero
 |none=> .y
def QO (t:TypeId):TypeDesc:=match P.info? t with
 | some i=>match i.desc with
   | .named _ u=>match P.info? u with
     |some j=>j.desc
     |none=> .bool
   |d=>d
 |none=> .bool
def JfY (t:TypeId):Bool:=match QO P t with
 | .struct _=>true
 | .array _ _=>true
 |_=>false
def JbV {α:Type}:List α->List α->List α
 |[],k=>k
 |a::r,k=>a::JbV r k
def Jdo (g:TypeId->List KD):List Field->List KD
 |[]=>[]
 |f::r=>JbV (g f.type) (Jdo g r)
def Jdp :Nat->List KD->List KD
 |0,_=>[]
 |n+1,l=>JbV l (Jdp n l)
def Jkm :Nat->TypeId->List KD
 |0,_=>[]
 | d+1,t=>match QO P t with
   | .bool=>[.b]
   | .int _=>[.i]
   | .string=>[.s]
   | .struct fs=>Jdo (Jkm d) fs.toList
   | .array n e=>Jdp n (Jkm d e)
   |_=>[]
def Jd9 (t:TypeId):EK:=match QO P t with
 | .bool=> .a .b
 | .int _=> .a .i
 | .string=> .a .s
 | .pointer _=> .a .p
 | .slice _=> .a .l
 | .map _ _=> .a .m
 | .func _ _ _=> .a .f
 |_=> .b (Jkm P 8 t)
def YS :List Field->Nat->Field
 |[],_=>default
 |a::_,0=>a
 |_::r,n+1=>YS r n
def Jdq (fs:List Field):List (Nat×Operand)->List (Nat×Nat×Opd)
 |[]=>[]
 |p::r=>((YS fs p.1).offset,Y9 P (YS fs p.1).type,JB p.2)::Jdq fs r
def JbW (z:Nat):List (Nat×Operand)->List (Nat×Nat×Opd)
 |[]=>[]
 |p::r=>(p.1*z,z,JB p.2)::JbW z r
def Jdr {α:Type}:List α->List α->List α
 |[],k=>k
 |a::r,k=>a::Jdr r k
def Jds :Nat->List V->List V
 |0,_=>[]
 |n+1,l=>Jdr l (Jds n l)
def Jab (b:Builtin)(ts:List TypeId)(xs:List Opd):Iop:=match b,ts,xs with
 | .len,t::_,[x]=>match QO P t with
   | .string=> .J x
   |_=> .w x
 | .append,t::_,[s,x]=>match QO P t with
   | .slice e=> .app (Y9 P e) s x
   |_=> .g
 | .copy,t::_,[d,x]=>match QO P t with
   | .slice e=> .copy (Y9 P e) d x
   |_=> .g
 | .clear,t::_,[x]=>match QO P t with
   | .slice e=> .clear (Y9 P e) (JfX P e) x
   |_=> .g
 |_,_,_=> .g
def JL :Op->Iop
 | .move x=> .Q (JB x)
 | .assign x=> .Q (JB x)
 | .pick c a b=> .pick (JB c) (JB a) (JB b)
 | .alloc t=> .alloc (JfX P t)
 | .box _ x=> .box (JB x)
 | .build t ps=> .build (JfX P t) (match QO P t with
   | .struct fs=>Jdq P fs.toList ps.toList
   | .array _ e=>JbW (Y9 P e) ps.toList
   |_=>[])
 | .buildSlice t n ps=>match QO P t with
   | .slice e=> .bsl (Y9 P e) n (Jds n (JfX P e)) (JbW (Y9 P e) ps.toList)
   |_=> .g
 | .load t x=>match JfY P t with
   |true=> .p (Y9 P t) (JB x)
   |false=> .l (JB x)
 | .store t x v=> .store (Y9 P t) (JB x) (JB v)
 | .nilCheck x=> .q (JB x)
 | .binOp op t x y _=>match op with
   | .eql=> .S (Jd9 P t) false (JB x) (JB y)
   | .neq=> .S (Jd9 P t) true (JB x) (JB y)
   |op=> .N op (JB x) (JB y)
 | .unOp _ _ x=> .not (JB x)
 | .convert s d x=>match QO P s,QO P d with
   | .slice _,_=> .P (JB x)
   |_, .int k=> .r k (JB x)
   |_,_=> .g
 | .makeFunc (.func f) a b=> .mkfn f (jU a.toList) (jU b.toList)
 | .makeMap _ _=> .g
 | .makeSlice t n c=>match QO P t with
   | .slice e=> .t (Y9 P e) (JfX P e) (JB n) (JB c)
   |_=> .g
 | .slice t x lo hi mx=>match QO P t with
   | .string=> .cutS (JB x) (ku lo) (ku hi)
   | .slice e=> .cutL (Y9 P e) (JB x) (ku lo) (ku hi) (ku mx)
   | .array n e=> .cutA n (Y9 P e) (JB x) (ku lo) (ku hi) (ku mx)
   |_=> .g
 | .fieldAddr t x f=>match QO P t with
   | .struct fs=> .j (YS fs.toList f).offset (JB x)
   |_=> .g
 | .field t x f=>match QO P t with
   | .struct fs=> .O (YS fs.toList f).offset (match JfY P (YS fs.toList f).type with
     |true=>some (Y9 P (YS fs.toList f).type)
     |false=>none) (JB x)
   |_=> .g
 | .indexAddr t x i=>match QO P t with
   | .slice e=> .h (Y9 P e) (JB x) (JB i)
   |_=> .g
 | .index _ x i=> .u (JB x) (JB i)
 | .lookup t m k ok=>match QO P t with
   | .map kt et=> .lookup (Jd9 P kt) (c0ZS P et) ok (JB m) (JB k)
   |_=> .g
 | .mapUpdate t m k v=>match QO P t with
   | .map kt _=> .mupd (Jd9 P kt) (JB m) (JB k) (JB v)
   |_=> .g
 | .insert t m k v=>match QO P t with
   | .map kt _=> .mupd (Jd9 P kt) (JB m) (JB k) (JB v)
   |_=> .g
 | .mapEntry t m k=>match QO P t with
   | .map kt et=> .ment (Jd9 P kt) (c0ZS P et) (JB m) (JB k)
   |_=> .g
 | .entryStore _ m s v=> .ests (JB m) (JB s) (JB v)
 | .range t x=>match QO P t with
   | .string=> .L (JB x)
   |_=> .K (JB x)
 | .next x s=>match s with
   |true=> .nextS (JB x)
   |false=> .nextM (JB x)
 | .extract x n=> .M n (JB x)
 | .call c=>match c.callee with
   | .value (.func f)=> .call f (jU c.args.toList)
   | .builtin b=>Jab P b c.argTypes.toList (jU c.args.toList)
   | .value x=> .callv (JB x) (jU c.args.toList)
   |_=> .g
 |_=> .g
def Jkn :Op->Bool
 | .call c=>match c.callee with
   | .builtin _=>false
   |_=>true
 |_=>false
def Jko :Option Nat->Nat
 |some d=>d
 |none=>0
def JaQ :List Oper->Nat->Nat
 |[],_=>0
 |a::_,0=>Jko a.dst
 |_::r,n+1=>JaQ r n
def Jdt (ops:List Oper):Option (Nat×Bool)->Option (Nat×Bool)
 |none=>none
 |some (j,w)=>some (JaQ ops j,w)
def Jkp :List (Option (List Nat))->Option (List Nat)
 |[]=>none
 |w::_=>w
def Jkq :List (Option (List Nat))->List (Option (List Nat))
 |[]=>[]
 |_::r=>r
def jK (ops:List Oper):List Oper->List (Option (List Nat))->List Ins
 |[],_=>[]
 | ⟨d,x,_,_,_,g⟩::os,ws=>match Jkn x with
   |true=>⟨d,JL P x,Jdt ops g,Jkp ws⟩::jK ops os (Jkq ws)
   |false=>⟨d,JL P x,Jdt ops g,none⟩::jK ops os ws
abbrev QP :=List (List (Option (List Nat))×List (List Nat×List Nat))
def Jkr :Bool->Bool->Bool
 |true,_=>true
 |false,b=>b
def Qf :Code->Bool
 | .cond ..=>true
 | .block ..=>true
 | .loop _=>true
 | .seq a b=>Jkr (Qf a) (Qf b)
 | .skip=>false
 | .region ..=>false
 | .exit _=>false
 | .ret=>false
 | .rangeFunc ..=>false
 | .scope _=>false
 | .label _=>false
 | .goto _=>false
 | .refuse _=>false
abbrev kz :=C×List (List Nat)×QP
def JbX (ops:List Oper):Bool->List (List Nat)->QP->kz
 |true,hs,[]=>(.d,hs,[])
 |true,hs,(ws,chk)::ds=>(.n (jK P ops ops ws) chk,hs,ds)
 |false,hs,ds=>(.k (jK P ops ops []),hs,ds)
def JfZ (k:C->C->C)(f:kz)(g:List (List Nat)->QP->kz):kz:=match f with
 | (x,hs,ds)=>match g hs ds with
   |(y,hs,ds)=>(k x y,hs,ds)
def Jik (k:C->C)(f:kz):kz:=match f with
 |(x,hs,ds)=>(k x,hs,ds)
def JbY :Bool->List (List Nat)->(List (List Nat)->kz)->(List (List Nat)->QP->kz)->kz
 |true,[],_,_=>(.d,[],[])
 |true,live::hs,f,g=>JfZ (.h live) (f hs) g
 |false,hs,f,g=>JfZ .j (f hs) g
def JcT :List (List Nat)->(List (List Nat)->kz)->kz
 |[],_=>(.d,[],[])
 |live::hs,f=>Jik (.g live) (f hs)
def JW :Code->List (List Nat)->QP->kz
 | .skip,hs,ds=>(.d,hs,ds)
 | .region _ ops draw,hs,ds=>JbX P ops.toList draw hs ds
 | .seq a b,hs,ds=>JbY (Qf a) hs (fun hs=>JW a hs ds) fun hs ds=>JW b hs ds
 | .cond c a b,hs,ds=>JfZ (.f (JB c)) (JW a hs ds) fun hs ds=>JW b hs ds
 | .block id b,hs,ds=>Jik (.e id) (JW b hs ds)
 | .loop b,hs,ds=>JcT hs fun hs=>JW b hs ds
 | .exit id,hs,ds=>(.i id,hs,ds)
 | .ret,hs,ds=>(.m,hs,ds)
 | .rangeFunc _ _ _ _,hs,ds=>(.f (.c .y) .d .d,hs,ds)
 | .scope _,hs,ds=>(.d,hs,ds)
 | .label _,hs,ds=>(.d,hs,ds)
 | .goto _,hs,ds=>(.d,hs,ds)
 | .refuse _,hs,ds=>(.d,hs,ds)
def jV :List ResultVar->List RS
 |[]=>[]
 | .tmp t::r=> .s t::jV r
 | .cell a t::r=>match JfY P t with
   |true=> .a a (Y9 P t)::jV r
   |false=> .b a::jV r
def JcU :Option Code->List (List Nat)->QP->C
 |some c,hs,ds=>(JW P c hs ds).1
 |none,_,_=> .m
def Jks (f:Func)(hs:List (List Nat))(ds:QP):Fn:=⟨f.ntmps,jV P f.results.toList,JcU P f.body hs ds⟩
end
inductive LE where
 |f (i:Nat) (hs:List (List Nat)) (ds:QP)
 |h (i:Nat) (e:E)
def LE.i :LE->Nat
 | .f i _ _=>i
 | .h i _=>i
def Jm9 (P:Program)(i:Nat)(hs:List (List Nat))(ds:QP):Fn:=match P.funcs[i]? with
 |some f=>Jks P f hs ds
 |none=>⟨0,[], .m⟩
def Jna (P:Program):LE->E
 | .f i hs ds=>fnD 1000000 (Jm9 P i hs ds)
 | .h _ e=>e
def JaR (P:Program):LE->Option Fn
 | .f i hs _=>match P.funcs[i]? with
   |some f=>JhM P f hs
   |none=>none
 | .h _ _=>none
def JaS (P:Program):LE->Option Fn
 | .f i hs ds=>some (Jm9 P i hs ds)
 | .h _ _=>none
def JsE (P:Program):LE->Bool
 | .f i _ _=>match P.funcs[i]? with
   | some f => decide (f.name ≠ "runtime.NumGoroutine")
   |none=>false
 | .h _ _=>true
def Jer :List LE->Nat
 |[]=>0
 |[x]=>x.i
 |_::y::r=>Jer (y::r)
def Jao (P:Program):Nat->List LE->BT
 |0,[]=> .a 0 ⟨Jgv⟩
 |0,x::_=> .a x.i (Jna P x)
 |d+1,l=> .b (Jer (l.take (l.length/2))) (Jao P d (l.take (l.length/2))) (Jao P d (l.drop (l.length/2)))
def JcV :Nat->List LE->Nat->Option LE
 |0,[],_=>none
 |0,x::_,k=>bif Nat.beq k x.i then some x else none
 |d+1,l,k=>bif Nat.ble k (Jer (l.take (l.length/2)))then JcV d (l.take (l.length/2)) k else JcV d (l.drop (l.length/2)) k
theorem Jbc {P:Program}{p:Nat->E->Prop}(a:p 0 ⟨Jgv⟩):∀(d:Nat) (l:List LE),(∀x,x∈l->p x.i (Jna P x))->(Jao P d l).A p
 |0,[],_=>a
 |0,x::_,h=>h x (Xu ..)
 |d+1,l,h=>⟨Jbc a d _ fun x b=>h x (Zj b),Jbc a d _ fun x b=>h x (ZO b)⟩
theorem Jbd {P:Program}{k:Nat}{x:LE}:∀(d:Nat) (l:List LE),JcV d l k=some x->selB (Jao P d l) k=(Jna P x).b
 |0,[],h=>by cases h
 | 0,y::_,h=>by
   unfold JcV at h;show(bif Nat.beq k y.i then(Jna P y).b else Jgv)=_
   grind
 | d+1,_,h=>by
   unfold JcV at h;show(bif Nat.ble k _ then selB (Jao P d _) k else selB (Jao P d _) k)=_
   cases a:Nat.ble k (Jer _)with
   |true=>rw[a]at h;exact Jbd d _ h
   |false=>rw[a]at h;exact Jbd d _ h
theorem JhB {α:Type}{r:α}(h:none=some r):False:=by cases h
section
variable {P : Program} {L : List LE} {d : Nat}
theorem Jtu {f:Func}(c:P.funcs[e]? =some f){a:List (List Nat)}{b:QP}(h:JcV d L e=some (.f e a b)):tabT (Jao P d L) e=some (evFn 1000000 (Jks P f a b)):=by
 unfold tabT;rw[Jbd d L h];show some (evFn 1000000 (Jm9 P e a b))=_;unfold Jm9;rw[c]
theorem Jtv {a:E}(h:JcV d L e=some (.h e a)):tabT (Jao P d L) e=some a.b:=by
 unfold tabT;rw[Jbd d L h];rfl
def JaT (p:Nat->E->Prop):List LE->Prop
 |[]=>True
 | .f _ _ _::r=>JaT p r
 | .h i g::r=>p i g/\JaT p r
theorem kU {p:Nat->E->Prop}{i:Nat}{g:E}:∀{l:List LE},JaT p l->LE.h i g∈l->p i g
 | .f _ _ _::r,h,k=>by
   rcases Xq.1 k with k|k
   ·cases k
   ·exact kU (l:=r) h k
 | .h _ _::r,h,k=>by
   rcases Xq.1 k with k|k
   ·cases k;exact h.1
   ·exact kU h.2 k
theorem Jqc (c:JaT (fun _ e=>Jaj e.b) L):TabM (tabT (Jao P d L)):=Juf (Jbc (p:=fun _ e=>Jaj e.b) (fun _ _ _ _ _ _ h=>(JhB h).elim) d L fun x a=>match x,a with
 | .f _ _ _,_=>Jug _ _
 | .h _ _,a=>kU c a)
theorem Jkt {ρ:Nat->Value}{a:Bs}(n:L.map (JaR P)=L.map (JaS P))(o:L.all (JsE P)=true)(q:∀i,(ρ i).oneCell'=true)(r:P.follows .mixedOrders=true)
  (s:JaT (fun i e=>KM P ρ a i e.b) L):(Jao P d L).A fun i e=>KM P ρ a i e.b:=
 Jbc (p:=fun i e=>KM P ρ a i e.b) (fun _ _ _ _ _ _ h=>(JhB h).elim) d L fun x c=>match x,c with
 | .f i k l,c=>by
   have g:JaR P (.f i k l)=JaS P (.f i k l):=List.map_inj_left.1 n _ c;have j:=Ze.1 o _ c;simp[JaR,JaS]at g;simp only[JsE]at j
   cases m:P.funcs[i]? with
   |none=>grind
   | some f=>
     rw[m]at g j;exact Jud g m (X7 j) q r
 | .h _ _,c=>kU s c
end
theorem JrA {P:Program}{i:TypeInfo}(h:P.types[e]? =some i):P.info? e=some i:=by
 show Tables.info? _ e=_;unfold Tables.info?
 grind
theorem Jg {P:Program}{i j:TypeInfo}(h:P.types[e]? =some i)(a:i=j):P.info? e=some j:=a▸JrA h
theorem Jqd {α:Type}(l:List α):l.toArray.toList=l:=rfl
theorem JsF {α:Type}(k:List α):List.append [] k=k:=rfl
theorem JsG {α:Type}(a:α)(r k:List α):List.append (a::r) k=a::List.append r k:=rfl
def CG :=an @J7.eq_1<|an @J7.eq_2<|an @J7.eq_3<|an @J7.eq_4<|an @J7.eq_5<|an @J7.eq_6<|an @J7.eq_7<|an @J7.eq_8<|an @J7.eq_9<|an @J7.eq_10<|an @J7.eq_11<|an @J7.eq_12<|an @J7.eq_13<|an @J7.eq_14<|an @J7.eq_15<|an @Jd8.eq_1<|an @Jd8.eq_2<|an @Kl.eq_1<|an @Kl.eq_2<|an @Kl.eq_3<|an @Kl.eq_4<|an @Kl.eq_5<|an @Kl.eq_6<|an @Kl.eq_7<|an @Kl.eq_8<|an @Kl.eq_9<|an @Kl.eq_10<|an @Kl.eq_11<|an @Kl.eq_12<|an @Kl.eq_13<|an @Kl.eq_14<|an @Kl.eq_15<|an @JB.eq_1<|an @JB.eq_2<|an @JB.eq_3<|an @JB.eq_4<|an @jU.eq_1<|an @jU.eq_2<|an @ku.eq_1<|an @ku.eq_2<|an @Y9.eq_1<|an @Value.cells.eq_1<|an @Value.cells.eq_2<|an @JaP.eq_1<|an @JaP.eq_2<|an @JfX.eq_1<|an @Jkl.eq_1<|an @Jkl.eq_2<|an @c0ZS.eq_1<|an @QO.eq_1<|an @JfY.eq_1<|an @JbV.eq_1<|an @JbV.eq_2<|an @Jdo.eq_1<|an @Jdo.eq_2<|an @Jdp.eq_1<|an @Jdp.eq_2<|an @Jkm.eq_2<|an @Jd9.eq_1<|an @YS.eq_1<|an @YS.eq_2<|an @YS.eq_3<|an @Jdq.eq_1<|an @Jdq.eq_2<|an @JbW.eq_1<|an @JbW.eq_2<|an @Jdr.eq_1<|an @Jdr.eq_2<|an @Jds.eq_1<|an @Jds.eq_2<|an @Jab.eq_1<|an @Jab.eq_2<|an @Jab.eq_3<|an @Jab.eq_4<|an @JL.eq_1<|an @JL.eq_2<|an @JL.eq_3<|an @JL.eq_4<|an @JL.eq_5<|an @JL.eq_6<|an @JL.eq_7<|an @JL.eq_8<|an @JL.eq_9<|an @JL.eq_10<|an @JL.eq_11<|an @JL.eq_12<|an @JL.eq_13<|an @JL.eq_14<|an @JL.eq_15<|an @JL.eq_16<|an @JL.eq_17<|an @JL.eq_18<|an @JL.eq_19<|an @JL.eq_20<|an @JL.eq_21<|an @JL.eq_22<|an @JL.eq_23<|an @JL.eq_24<|an @JL.eq_25<|an @JL.eq_26<|an @JL.eq_27<|an @JL.eq_28<|an @JL.eq_29<|an @JL.eq_30<|an @JL.eq_31<|an @JL.eq_32<|an @JL.eq_33<|an @Jkn.eq_1<|an @Jkn.eq_2<|an @Jko.eq_1<|an @Jko.eq_2<|an @JaQ.eq_1<|an @JaQ.eq_2<|an @JaQ.eq_3<|an @Jdt.eq_1<|an @Jdt.eq_2<|an @Jkp.eq_1<|an @Jkp.eq_2<|an @Jkq.eq_1<|an @Jkq.eq_2<|an @jK.eq_1<|an @jK.eq_2<|an @Jkr.eq_1<|an @Jkr.eq_2<|an @Qf.eq_1<|an @Qf.eq_2<|an @Qf.eq_3<|an @Qf.eq_4<|an @Qf.eq_5<|an @Qf.eq_6<|an @Qf.eq_7<|an @Qf.eq_8<|an @Qf.eq_9<|an @Qf.eq_10<|an @Qf.eq_11<|an @Qf.eq_12<|an @Qf.eq_13<|an @JbX.eq_1<|an @JbX.eq_2<|an @JbX.eq_3<|an @JfZ.eq_1<|an @Jik.eq_1<|an @JbY.eq_1<|an @JbY.eq_2<|an @JbY.eq_3<|an @JcT.eq_1<|an @JcT.eq_2<|an @JW.eq_1<|an @JW.eq_2<|an @JW.eq_3<|an @JW.eq_4<|an @JW.eq_5<|an @JW.eq_6<|an @JW.eq_7<|an @JW.eq_8<|an @JW.eq_9<|an @JW.eq_10<|an @JW.eq_11<|an @JW.eq_12<|an @JW.eq_13<|an @jV.eq_1<|an @jV.eq_2<|an @jV.eq_3<|an @JcU.eq_1<|an @JcU.eq_2<|an @Jks.eq_1<|an @JsF<|an @JsG @Jqd
def kRun (t:BT)(n:Nat):Bool:=match run (tabT t) 60 n [] St.H with
 |some (.h b,_)=>b
 |_=>false
theorem Jlt {P:Program}{ρ:Nat->Value}{w:World}{t:BT}(j:t.A fun i a=>KM P ρ ⟨w.heap.size,w⟩ i a.b)(h:kRun t e=true):
  Calls P e #[] w fun a d=>a= .returned (.bool true)/\Below w.heap.size w d:=by
 unfold kRun at h
 split at h
 ·rename_i b k l
  subst h;have m:RL (fun _=>none) ρ ([]:List V) ([]:List Value):=by simp only[RL]
  refine(Joh (P:=P) (T:=tabT t) (fun f b g=> ?_) l m).mono fun a d ⟨y,γ',o,c,p⟩=>⟨?_,p⟩
  ·simp only[tabT,Option.some.injEq]at g;subst g;exact Jsa j f
  ·have c:y= .bool true:=c;rw[o,c]
 ·cases h
theorem Jtw {t:BT}(a:tabT t e=some (JdL JlU).b)(c:WF h):Does (tabT t) e [] h fun u d=>Gr h d/\u= .h true:=
 Jc9 a rfl ⟨Gr.F c,rfl⟩
end Eva
