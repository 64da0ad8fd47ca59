/- The document's check answers as the program's. The types that raw trees make may be. Th -/
import Derived.Test.YtdajkeoobbonjaaGreatP1
set_option linter.constructorNameAsVariable false
set_option linter.unusedVariables false
set_option linter.unusedSimpArgs false
set_option linter.unusedSectionVars false
set_option maxRecDepth 100000
namespace Eva
open Go Go.RowKit
variable {s o:Nat}{v:List (Str×Ty)}{t c:St}{z:List Str->Prop}{d p U:Pt->Prop}{r:List Ty}{q:Int}{f:List Str}{l w:List (List V)}{m:Str}{j:Ty}{u:Tb}{x:V}{y:Pt}{M:List Nat}{N:List (Str×Nat)}{X:List Nd}{Y:List V}{Z:V->St->Prop}
mutual
theorem JmY (a:Str->Bool)(k:Nat):∀(t:Ty) (d m:Nat),(mayS a t d (m+k)).1=0->(mayS a t d m).1=0/\(mayS a t d (m+k)).2=(mayS a t d m).2+k
 | .mk h n i f,d,m,e=>by
   rw[qy]at e⊢;rw[qy];by_cases g:400<m+k+1
   ·rw[Xe g]at e;cases e
   rw[Xa g]at e⊢;rw[Xa (show¬400<m+1 by omega)];by_cases c:12<d
   ·rw[Xe c]at e;cases e
   rw[Xa c]at e⊢;rw[Xa c];by_cases b:ownS a (.mk h n i f)≠0
   ·rw[Xe b]at e;exact absurd e b
   rw[Xa b]at e⊢;rw[Xa b];rw[show m+k+1=m+1+k by omega]at e⊢;exact JjU a k f (d+1) (m+1) e
theorem JjU (a:Str->Bool)(k:Nat):∀(b:List Ty) (d m:Nat),(JE a b d (m+k)).1=0->(JE a b d m).1=0/\(JE a b d (m+k)).2=(JE a b d m).2+k
 |[],d,m,e=>by rw[QT,QT];exact⟨rfl,rfl⟩
 | t::r,d,m,e=>by
   rw[Kg]at e;rw[Kg a t r d m,Kg a t r d (m+k)];by_cases c:(mayS a t d (m+k)).1=0
   ·obtain⟨f,g⟩:=JmY a k t d m c;rw[Xa (fun h=>h c)]at e;rw[Xa (fun h=>h f),Xa (fun h=>h c)];rw[g]at e⊢;exact JjU a k r d _ e
   ·rw[Xe c]at e;exact absurd e c
end
theorem JjV {a:Str->Bool}(h:(mayS a j s o).1=0):(mayS a j s 0).1=0:=by
 have:=JmY a o j s 0 (by grind);omega
theorem JbQ (l:List (Str×Ty))(t:Ty)(h:t.A≠9):∀k,KL l k t=t
 |0=>rfl
 |k+1=>by rw[qS,Xa h,JbQ l t h k]
theorem JjW {l:List (Str×Ty)}{a:Str->Nat}(h:(l.map Prod.fst).Nodup)(e:∀p∈l,p.2.A=9->a p.2.B<a p.1)(j:∀p∈l,p.2.A=9->∃q∈l,q.1=p.2.B):
  ∀(f r:Nat) (t:Ty),(t.A=9->∃p∈l,p.1=t.B/\a p.1<r)->(l.filter fun p=>decide (a p.1<r)).length<=f->(KL l f t).A≠9
 | 0,r,t,g,m=>by
   rw[KL];intro b;obtain⟨p,c,i,d⟩:=g b;have:p∈l.filter fun p=>decide (a p.1<r):=Hp.2 ⟨c,Xp d⟩
   grind
 | f+1,r,t,g,m=>by
   by_cases b:t.A=9
   ·obtain⟨p,c,i,d⟩:=g b;rw[qS,Xe b,<-i,JmR h c];show(KL l f p.2).A≠9;refine JjW h e j f (a p.1) p.2 (fun k=> ?_) ?_
    ·grind
    ·have:(l.filter fun q=>decide (a q.1<a p.1)).length<(l.filter fun p=>decide (a p.1<r)).length:=
      Jdd (p:=fun q=>decide (a q.1<a p.1)) (q:=fun p=>decide (a p.1<r)) (x:=p) (fun x n=>Xp (Nat.lt_trans (X7 n) d)) (Xp d) (Xv (Gi _)) c
     omega
   ·rw[JbQ l t b];exact b
theorem Jlg (l:List (Str×Ty))(t:Ty)(h:(KL l s t).A≠9):KL l (s+1) t=KL l s t:=by
 rw[ji,Xa h]
structure Ends (l:List (Str×Ty)):Prop where
 c:(l.map Prod.fst).Nodup
 b:(JE (hasN l) (l.map Prod.snd) 1 0).1=0
 a:∀p∈l,finS l p.2=true
theorem Ends.A {l:List (Str×Ty)}(h:Ends l){t:Ty}(g:t.A=9->hasN l t.B=true):(KL l l.length t).A≠9:=by
 obtain⟨i,d⟩:=JjG h.c h.a;have closed:∀p∈l,p.2.A=9->∃q∈l,q.1=p.2.B:=fun p j k=>by
  have:=qZ (jn _ _ _ _ h.b) p.2 (Xz.2 ⟨p,j,rfl⟩);generalize p.2=T at this k⊢;obtain⟨m,n,o,r⟩:=T;have k:m=9:=k;rw[KO,Xk,ZB]at this;rcases this.1 with h|h
  ·grind
  ·obtain⟨T,e⟩:=Jcz h;exact⟨_,e,rfl⟩
 by_cases f:t.A=9
 ·obtain⟨T,e⟩:=Jcz (g f);exact JjW h.c d closed l.length (i t.B+1) t (fun _=>⟨_,e,rfl,XO _⟩) (Z2 _ _)
 ·rw[JbQ l t f];exact f
mutual
theorem JmZ {l:List (Str×Ty)}(h:Ends l):∀(t:Ty) (d m:Nat),(mayS (hasN l) t d m).1=0->Jbp l t=YH l t
 | .mk k n j b,d,m,e=>by
   have f:=Jdc _ _ _ _ e;have s:=JfE _ _ _ _ e;rw[qy]at e;by_cases p:400<m+1
   ·rw[Xe p]at e;cases e
   rw[Xa p]at e;by_cases q:12<d
   ·rw[Xe q]at e;cases e
   rw[Xa q]at e;by_cases a:ownS (hasN l) (.mk k n j b)≠0
   ·rw[Xe a]at e;exact absurd e a
   rw[Xa a]at e;have a:ownS (hasN l) (.mk k n j b)=0:=by simpa using a
   rw[JjB,JjP,JjX h b (d+1) (m+1) e];by_cases g:k=6
   ·have i:b.length=1:=by
     unfold ownS at a
     split at a
     ·cases a
     split at a
     ·cases a
     rename_i c
     have:b.length=KS (.mk k n j b):=Xd fun h=>c (.inl h);rw[this];unfold KS;exact Xe (.inr (.inr g))
    rw[Xe ⟨g,i⟩,Xe g];obtain⟨c,rfl⟩:∃c,b=[c]:=by
     match b,i with
     |[c],_=>exact⟨c,rfl⟩
    rw[KO,Xk]at f;have r:=qZ f.2 c (by simp);have:(KL l l.length c).A≠9:=h.A fun o=>by
     obtain⟨u,x,v,w⟩:=c;have o:u=9:=o;rw[KO,Xk,ZB]at r;rcases r.1 with h|h
     ·exact absurd o (X7 h)
     ·exact h
    rw[List.headD_cons,Jlg l c this]
   ·rw[Xa (fun h=>g h.1),Xa g]
theorem JjX {l:List (Str×Ty)}(h:Ends l):∀(a:List Ty) (d m:Nat),(JE (hasN l) a d m).1=0->jh l a=JaG l a
 |[],d,m,e=>by rw[jh,JaG]
 | t::r,d,m,e=>by
   rw[Kg]at e;by_cases c:(mayS (hasN l) t d m).1=0
   ·rw[Xa (fun h=>h c)]at e;rw[jh,JaG,JmZ h t d m c,JjX h r d _ e]
   ·rw[Xe c]at e;exact absurd e c
end
theorem JjY (d:Str->Bool):∀(p:Option Str) (j:List Sg) (e:Nat),(Qv d p j e).1=0->∀f∈j,∃m,(JE d (f.a++[f.b]) 1 m).1=0
 |_,[],_,_,f,i=>by cases i
 | p,g::r,e,h,f,i=>by
   rw[Y7]at h
   split at h
   ·cases h
   split at h
   ·cases h
   split at h
   ·cases h
   split at h
   ·omega
   rename_i c
   rcases Xq.1 i with rfl|i
   ·grind
   ·exact JjY d _ r _ h f i
theorem Jrm {q:(Str×Ty)->Bool}:(v.filter q).length=v.length<->v.any (fun p=> !q p)=false:=by simp
theorem Jrn (a:(JE (hasN v) (v.map Prod.snd) 1 0).1=0):(finR v (v.length+1) []).length=v.length<->v.any (fun p=> !finS v p.2)=false:=by
 rw[<-Jrm];have e:(finR v (v.length+1) []).length=(v.filter fun p=>finS v p.2).length:=by
  rw[Qr];unfold Jbs;rw[Xr];congr 1;refine List.filter_congr fun p b=> ?_;obtain⟨c,e⟩:=ja _ _ _ _ a p.2 (Xz.2 ⟨p,b,rfl⟩);rw[Jtn a (JjV e),JjQ]
 rw[e]
theorem JpE (s:Sch):refS s=Qx s:=by
 rw[qm];unfold refS;by_cases i:12<s.a.length\/12<s.c.length
 ·omega
 rw[Xa i,Xa i];by_cases j:Ka none (s.a.map Prod.fst)≠0
 ·omega
 rw[Xa j,Xa j];by_cases g:(JE (hasN s.a) (s.a.map Prod.snd) 1 0).1≠0
 ·omega
 rw[Xa g,Xa g];by_cases u:(mayS (hasN s.a) s.b 1 (JE (hasN s.a) (s.a.map Prod.snd) 1 0).2).1≠0
 ·omega
 rw[Xa u,Xa u];by_cases k:(Qv (hasN s.a) none s.c (mayS (hasN s.a) s.b 1 (JE (hasN s.a) (s.a.map Prod.snd) 1 0).2).2).1≠0
 ·omega
 rw[Xa k,Xa k];have g:(JE (hasN s.a) (s.a.map Prod.snd) 1 0).1=0:=by omega
 have n:(s.a.map Prod.fst).Nodup:=qY (by omega);have o:=Jrn g
 cases c:s.a.any (fun p=> !finS s.a p.2)with
 | true=>
   grind
 | false=>
   rw[Xa (fun h=>h (o.2 c)),Xa (show¬(false=true) by decide)];have w:Ends s.a:=⟨n,g,fun p z=>by
    grind⟩
   have v:∀t∈Qn s,∃m,(mayS (hasN s.a) t 1 m).1=0:=fun t d=>by
    unfold Qn at d;rcases Xs.1 d with d|d
    ·rcases Xs.1 d with d|d
     ·exact ja _ _ _ _ g t d
     grind
    ·obtain⟨J,i,j⟩:=List.mem_flatten.1 d;obtain⟨f,o,rfl⟩:=Xz.1 i;obtain⟨m,q⟩:=JjY _ _ _ _ (by simpa using k) f o;exact ja _ _ _ _ q t j
   rw[qT];have e:(Qn s).any (Jbp s.a)=(Qn s).any (YH s.a):=by
    have x:∀l:List Ty,(∀t∈l,∃m,(mayS (hasN s.a) t 1 m).1=0)->l.any (Jbp s.a)=l.any (YH s.a):=fun l=>by
     induction l with
     |nil=>simp
     | cons a r y=>
       intro h;obtain⟨m,q⟩:=h a (by simp);rw[Gj,Gj,JmZ w a 1 m q,y fun t d=>h t (Xi _ d)]
    grind
   rw[e]
structure RT (Sb S:St) (ru:Pt) (lv tv:V) (rest:List V) (O:Pt->Prop) (nodes:List Nd) (trees:List Ty):Prop where
 g:Gr Sb S
 m:Sb.A ru= .none
 d:∃t,S.A ru= .a t (lv::tv::rest)
 l:∃es,SlF Sb S lv 4 es/\es.length=nodes.length/\∀i (h:i<es.length) (h':i<nodes.length),NdC O S es[i] nodes[i]
 t:∃es,SlF Sb S tv 4 es/\es.length=trees.length/\∀i (h:i<es.length) (h':i<trees.length),TyC (fun r=>Sb.A r≠ .none) S es[i] trees[i]
 f:∀r,rowOf lv=some r->rowOf tv≠some r/\r≠ru
 j:∀r,rowOf tv=some r->r≠ru
 o:∀r,O r->S.A r≠ .none/\Sb.A r= .none/\r≠ru/\rowOf lv≠some r/\rowOf tv≠some r
def Bt (ru:Pt)(lv tv:V)(O:Pt->Prop)(r:Pt):Prop:=r=ru\/rowOf lv=some r\/rowOf tv=some r\/O r
structure Kp (B B':Pt->Prop) (st S:St):Prop where
 c:∀r,st.A r≠ .none->¬B r->S.A r=st.A r
 d:∀r,B' r->B r\/st.A r= .none
theorem Kp.G {B:Pt->Prop}{st:St}(g:Gr st t):Kp B B st t:=⟨fun r e _=>g.d r e,fun _ h=> .inl h⟩
theorem Kp.A {B a:Pt->Prop}{st S:St}(h:Kp B a st S){r:Pt}(e:S.A r= .none):B r\/st.A r= .none:=by
 by_cases b:B r
 ·grind
 ·exact .inr (Xd fun n=>n ((h.c r n b)▸e))
theorem Kp.D {B f:Pt->Prop}{S g:St}(h:Kp B U t S)(k:Kp U f S g):Kp B f t g:=by
 refine⟨fun r e b=> ?_,fun r e=> ?_⟩
 ·have a:=h.c r e b;rw[k.c r (by grind) fun x=>(h.d r x).elim b e,a]
 ·rcases k.d r e with x|x
  ·exact h.d r x
  ·exact h.A x
section
variable {Sb st S S' : St} {ru : Pt} {lv tv lv' tv' lv'' tv'' : V} {rest : List V} {O O' O'' : Pt -> Prop} {nodes : List Nd} {trees : List Ty}
theorem RT.D (h:RT Sb S ru lv tv rest O nodes trees)(g:Gr Sb S')(k:∀r,r=ru\/rowOf lv=some r\/rowOf tv=some r\/O r->S'.A r=S.A r):RT Sb S' ru lv tv rest O nodes trees:=by
 obtain⟨n,q,s,u⟩:=h.l;obtain⟨v,w,x,y⟩:=h.t;obtain⟨t,c⟩:=h.d;refine⟨g,h.m,⟨t,by grind⟩,⟨n,q.B fun r e=>k r (.inr (.inl e)),s,fun i a b=>(u i a b).A fun r p _=>⟨p,k r (.inr (.inr (.inr p)))⟩⟩,⟨v,w.B fun r e=>k r (.inr (.inr (.inl e))),x,fun i a b=>(y i a b).A fun r p _=>⟨p,by rw[g.d r p,h.g.d r p]⟩⟩,h.f,h.j,fun r p=> ?_⟩;obtain⟨a,b⟩:=h.o r p
 grind
theorem RT.A (h:RT Sb S ru lv tv rest O nodes trees):∀r,r=ru\/rowOf lv=some r\/rowOf tv=some r\/O r->S.A r≠ .none:=fun r e=>by
 obtain⟨g,a,_⟩:=h.l;obtain⟨i,b,_⟩:=h.t;obtain⟨t,c⟩:=h.d;rcases e with rfl|e|e|e
 ·grind
 ·exact a.A e
 ·exact b.A e
 ·exact(h.o r e).1
theorem RT.G (h:RT Sb S ru lv tv rest O nodes trees)(g:Gr S S'):RT Sb S' ru lv tv rest O nodes trees:=h.D (h.g.A g) fun r e=>g.d r (h.A r e)
end
structure Qd (nodes:List Nd) (trees:List Ty):Prop where
 a:trees.length=nodes.length
 b:∀i (h:i<trees.length),Ki nodes trees[i]=some i
 d:∀t∈trees,fitT t=true
 c:nodes.length<=120
theorem Qd.F :Qd [] []:=⟨rfl,fun i h=>absurd h (by simp),fun t h=>(nomatch h),XC _⟩
theorem Qd.D (h:Qd X r){i:Nat}(f:i<r.length):r[i]=j<->Ki X j=some i:=by
 constructor
 ·intro e;rw[<-e];exact h.b i f
 ·intro e;exact Jfy (h.b i f) e
theorem Qd.A (h:Qd X r){j:List Ty}(l:JS X j=some M)(o:idx ⟨q,m,f,M⟩ X 0=none)(s:fitT (.mk q m f j)=true)(u:X.length<120):Qd (X++[⟨q,m,f,M⟩]) (r++[.mk q m f j]):=by
 refine⟨by simp[h.a],fun i v=> ?_,fun t g=> ?_,by grind⟩
 ·by_cases e:i<r.length
  ·rw[Xw e];exact jm _ (h.b i e)
  ·have p:i=r.length:=by grind
   subst p;rw[XL (Xb _)];simp;rw[Ki,kZ _ l];simp;rw[Jh8 o,Zv,h.a]
 ·rcases Xs.1 g with g|g
  ·exact h.d t g
  grind
theorem JpF {left:Int}(h:(JA (j::r) left u).2.2.1=0):
  (addT j left u).2.2.1=0/\(JA r (addT j left u).2.2.2 (addT j left u).1).2.2.1=0/\(JA (j::r) left u).1=(JA r (addT j left u).2.2.2 (addT j left u).1).1/\(JA (j::r) left u).2.1=(addT j left u).2.1::(JA r (addT j left u).2.2.2 (addT j left u).1).2.1:=by
 rw[Ku]at h⊢
 grind
theorem Jro {left:Int}(h:(addT (.mk q m f r) left u).2.2.1=0):
  r.length<=8/\f.length<=8/\(JA r (left-1) u).2.2.1=0/\(layS (JA r (left-1) u).1 ⟨q,m,f,(JA r (left-1) u).2.1⟩).2.2=0/\(addT (.mk q m f r) left u).1=(layS (JA r (left-1) u).1 ⟨q,m,f,(JA r (left-1) u).2.1⟩).1/\(addT (.mk q m f r) left u).2.1=(layS (JA r (left-1) u).1 ⟨q,m,f,(JA r (left-1) u).2.1⟩).2.1:=by
 rw[QS]at h⊢
 grind
structure Kz (O O' B B':Pt->Prop) (st S:St):Prop extends Kp B B' st S where
 a:∀r,O r->O' r/\S.A r=st.A r
theorem Kz.I {B f b:Pt->Prop}{g:St}(h:Kz d p B f t c)(k:Kz p U f b c g):Kz d U B b t g:=
 ⟨h.toKp.D k.toKp,fun r e=>⟨(k.a r (h.a r e).1).1,by rw[(k.a r (h.a r e).1).2,(h.a r e).2]⟩⟩
theorem Kz.J {B:Pt->Prop}{st:St}(h:∀r,d r->st.A r≠ .none)(g:Gr st t):Kz d d B B st t:=⟨Kp.G g,fun r e=>⟨e,g.d r (h r e)⟩⟩
theorem Kz.L {B b:Pt->Prop}(h:Kz d p B b t c):Kz d (fun _=>True) B (fun _=>False) t c:=⟨⟨h.c,fun r e=>e.elim⟩,fun r e=>⟨trivial,(h.a r e).2⟩⟩
def Own5 (S:St)(B W:Pt->Prop):Prop:=∀r,W r->S.A r≠ .none/\¬B r
section
variable {Sb st S S' : St} {ru : Pt} {lv tv lv' tv' lv'' tv'' : V} {rest : List V} {O O' O'' W W' B B' B'' : Pt -> Prop} {nodes : List Nd} {trees : List Ty}
theorem Own5.A (h:Own5 S B W)(k:Kp B B' S S'):Own5 S' B' W/\∀r,W r->S'.A r=S.A r:=by
 have e:∀r,W r->S'.A r=S.A r:=fun r w=>k.c r (h r w).1 (h r w).2;exact⟨fun r w=>⟨by rw[e r w];exact(h r w).1,fun x=>(k.d r x).elim (h r w).2 (h r w).1⟩,e⟩
theorem RT.I (h:RT Sb S ru lv tv rest O nodes trees)(o:Own5 S (Bt ru lv tv O) W)(g:Gr Sb S')(k:∀r,S.A r≠ .none->¬W r->S'.A r=S.A r):RT Sb S' ru lv tv rest O nodes trees:=
 h.D g fun r e=>k r (h.A r e) fun w=>(o r w).2 e
theorem Kp.F (h:Kp B B' st S)(a:∀r,W r->B r\/st.A r= .none)(k:∀r,S.A r≠ .none->¬W r->S'.A r=S.A r):Kp B B' st S':=
 ⟨fun r e b=>by rw[k r (by rw[h.c r e b];exact e) fun w=>(a r w).elim b e,h.c r e b],h.d⟩
theorem SlF.L (h:SlF st S x s l):SlAt (fun r=>rowOf x=Option.some r) S x s l:=by
 have a:=h.D;refine⟨a.1, ?_⟩;rcases h.2 with c|⟨r,t,c,e,d⟩
 ·grind
 ·have f:rowOf x=Option.some r:=by rcases d with rfl|rfl<;>rfl
  rcases a.2 with b|⟨q,o,g,i,j⟩
  ·grind
  grind
structure Mid5 (Sb st S:St) (ru p3 p6:Pt) (lv tv lv' tv':V) (rest:List V) (O O':Pt->Prop) (nodes:List Nd) (trees:List Ty) (c3 c6:List V) (v1 kv:V) (ns:List Str) (ids:List Nat):Prop where
 c:RT Sb S ru lv' tv' rest O' nodes trees
 f:Kz O O' (Bt ru lv tv O) (Bt ru lv' tv' O') st S
 d:Own5 S (Bt ru lv' tv' O') fun r=>r=p3\/r=p6\/rowOf v1=Option.some r\/rowOf kv=Option.some r
 s:∃t,S.A p3= .a t c3
 u:∃t,S.A p6= .a t (c6++[v1,kv])
 l:SlF Sb S v1 1 (strs ns)
 m:SlF Sb S kv 1 (ints ids)
 B:∀r,rowOf v1=Option.some r\/rowOf kv=Option.some r->Bt ru lv tv O r\/st.A r= .none
 j:∀r,rowOf kv=Option.some r->r≠p3/\r≠p6/\rowOf v1≠Option.some r
 v:∀r,rowOf v1=Option.some r->r≠p3/\r≠p6
 z:p3≠p6
 H:st.A p3= .none
 I:st.A p6= .none
section
variable {p3 p6 : Pt} {c3 c6 : List V} {v1 kv kv' : V} {ns : List Str} {ids : List Nat} {nodes' : List Nd} {trees' : List Ty}
theorem Mid5.A (h:Mid5 Sb st S ru p3 p6 lv tv lv' tv' rest O O' nodes trees c3 c6 v1 kv ns ids)(r:RT Sb S' ru lv'' tv'' rest O'' nodes' trees')(k:Kz O' O'' (Bt ru lv' tv' O') (Bt ru lv'' tv'' O'') S S'):
  Mid5 Sb st S' ru p3 p6 lv tv lv'' tv'' rest O O'' nodes' trees' c3 c6 v1 kv ns ids:=by
 obtain⟨o,e⟩:=h.d.A k.toKp;obtain⟨b,i⟩:=h.s;obtain⟨g,n⟩:=h.u;exact{h with c:=r,f:=h.f.I k,d:=o,s:=⟨b,by grind⟩,u:=⟨g,by grind⟩,l:=h.l.B fun r a=>e r (.inr (.inr (.inl a))),m:=h.m.B fun r a=>e r (.inr (.inr (.inr a)))}
theorem Mid5.G (h:Mid5 Sb st S ru p3 p6 lv tv lv' tv' rest O O' nodes trees c3 c6 v1 kv ns ids)(g:Gr S S'):Mid5 Sb st S' ru p3 p6 lv tv lv' tv' rest O O' nodes trees c3 c6 v1 kv ns ids:=
 h.A (h.c.G g) (Kz.J (fun r e=>(h.c.o r e).1) g)
theorem Mid5.D {S1 p:St}(h:Mid5 Sb st S ru p3 p6 lv tv lv' tv' rest O O' nodes trees c3 c6 v1 kv ns ids){id:Nat}
  (L:SlF Sb S1 kv' 1 (ints (ids++[id]))) (J:rowOf kv'=Option.some S.b) (M:∀r,S.A r≠ .none->rowOf kv≠Option.some r->S1.A r=S.A r) (K:∀r,r≠p6->p.A r=S1.A r)
  (P:∃t,p.A p6= .a t (c6++[v1,kv'])) (g:Gr Sb p):Mid5 Sb st p ru p3 p6 lv tv lv' tv' rest O O' nodes trees c3 c6 v1 kv' ns (ids++[id]):=by
 have N:S.b≠p6:=fun e=>by
  obtain⟨t,r⟩:=h.u;have:=J6 h.c.g.D
  grind
 have Q:S.b≠p3:=fun e=>by
  obtain⟨t,r⟩:=h.s;have:=J6 h.c.g.D
  grind
 have i:S.A S.b= .none:=J6 h.c.g.D;have k:∀r,S.A r≠ .none->¬(r=p3\/r=p6\/rowOf v1=Option.some r\/rowOf kv=Option.some r)->p.A r=S.A r:=fun r e n=>by grind
 have w:∀r,(r=p3\/r=p6\/rowOf v1=Option.some r\/rowOf kv=Option.some r)->Bt ru lv tv O r\/st.A r= .none:=fun r e=>by
  rcases e with rfl|rfl|e|e
  ·exact .inr h.H
  ·exact .inr h.I
  ·exact h.B r (.inl e)
  ·exact h.B r (.inr e)
 obtain⟨T,U⟩:=h.s;have X:p.A p3=S.A p3:=by
  rw[K _ h.z,M _ (Jb U) fun x=>(h.j _ x).1 rfl]
 have W:∀r,rowOf v1=Option.some r->p.A r=S.A r:=fun r x=>by
  rw[K _ (h.v r x).2,M _ (h.l.A x) fun y=>(h.j _ y).2.2 x]
 refine{h with c:=h.c.I h.d g k,f:=⟨h.f.toKp.F w k,fun r e=>⟨(h.f.a r e).1,by rw[k r (h.c.o r (h.f.a r e).1).1 fun x=>(h.d r x).2 (.inr (.inr (.inr (h.f.a r e).1))),(h.f.a r e).2]⟩⟩,d:=fun r e=> ?_,s:=⟨T,by grind⟩,u:=P,l:=h.l.B W,m:=L.B fun r e=>K r fun x=>by grind,j:=fun r e=> ?_,B:=fun r e=> ?_}
 ·rcases e with e|e|e|e
  ·have a:=h.d r (.inl e)
   grind
  ·have a:=h.d r (.inr (.inl e))
   grind
  ·have a:=h.d r (.inr (.inr (.inl e)))
   grind
  ·rw[J]at e;injection e with e;subst e;have q:=h.c.A;exact⟨by rw[K _ N];exact L.A J,fun x=>q _ x i⟩
 ·rcases e with e|e
  ·grind
  ·rw[J]at e;injection e with e;subst e;exact h.f.A i
 ·rw[J]at e;injection e with e;subst e;exact⟨Q,N,fun x=>h.l.A x i⟩
theorem Mid5.F {k:Int}{n:Str}{J:V}{K:List (List V)}{E:List V}{X:Ty}(h:Mid5 Sb st S ru p3 p6 lv tv lv' tv' rest O O' nodes trees c3 c6 v1 kv ns ids)
  (g:Gr Sb S') (hc:∃t,S'.A ru= .a t (x::J::rest))
  (T:w.length=nodes.length) (l2:∀i (a:i<w.length) (b:i<nodes.length),NdC O' S w[i] nodes[i]) (l5:SlF Sb S' x 4 (w++[[.d .i64 k,ofL n,v1,kv]]))
  (U:K.length=trees.length) (t2:∀i (a:i<K.length) (b:i<trees.length),TyC (fun r=>Sb.A r≠ .none) S K[i] trees[i]) (t9:SlF Sb S' J 4 (K++[E])) (hE:TyC (fun r=>Sb.A r≠ .none) S E X)
  (W:∀r,rowOf x=Option.some r->S.A r= .none) (Y:∀r,rowOf J=Option.some r->S.A r= .none) (P:∀r,rowOf x=Option.some r->rowOf J≠Option.some r)
  (keep:∀p,S.A p≠ .none->p≠ru->rowOf lv'≠Option.some p->rowOf tv'≠Option.some p->S'.A p=S.A p):
  RT Sb S' ru x J rest (fun r=>O' r\/rowOf v1=Option.some r\/rowOf kv=Option.some r) (nodes++[⟨k,n,ns,ids⟩]) (trees++[X])/\Kz O (fun r=>O' r\/rowOf v1=Option.some r\/rowOf kv=Option.some r) (Bt ru lv tv O) (Bt ru x J fun r=>O' r\/rowOf v1=Option.some r\/rowOf kv=Option.some r) st S':=by
 have M:=h.c.A;have Z:∀r,(O' r\/rowOf v1=Option.some r\/rowOf kv=Option.some r)->S.A r≠ .none/\Sb.A r= .none/\r≠ru/\rowOf lv'≠Option.some r/\rowOf tv'≠Option.some r:=fun r e=>by
  rcases e with e|e|e
  ·exact h.c.o r e
  ·have a:=h.d r (.inr (.inr (.inl e)));exact⟨a.1,(h.l.H e).1,fun q=>a.2 (.inl q),fun q=>a.2 (.inr (.inl q)),fun q=>a.2 (.inr (.inr (.inl q)))⟩
  ·have a:=h.d r (.inr (.inr (.inr e)));exact⟨a.1,(h.m.H e).1,fun q=>a.2 (.inl q),fun q=>a.2 (.inr (.inl q)),fun q=>a.2 (.inr (.inr (.inl q)))⟩
 have y:∀r,(O' r\/rowOf v1=Option.some r\/rowOf kv=Option.some r)->S'.A r=S.A r:=fun r e=>by grind
 have sb:∀r,Sb.A r≠ .none->S'.A r=S.A r:=fun r e=>by rw[g.d r e,h.c.g.d r e]
 refine⟨⟨g,h.c.m,hc,⟨_,l5,by simp[T],fun i a b=> ?_⟩,⟨_,t9,by simp[U],fun i a b=> ?_⟩,fun r e=>⟨P r e,fun q=>M r (.inl q) (W r e)⟩,fun r e q=>M r (.inl q) (Y r e),fun r e=> ?_⟩,⟨⟨fun r e b=> ?_,fun r e=> ?_⟩,fun r e=>⟨.inl (h.f.a r e).1,by rw[y r (.inl (h.f.a r e).1),(h.f.a r e).2]⟩⟩⟩
 ·by_cases N:i<w.length
  ·rw[Xw N,Xw (by omega)];exact(l2 i N (by omega)).A fun r p _=>⟨.inl p,y r (.inl p)⟩
  ·have e:i=w.length:=by grind
   subst e;rw[XL (Xb _),XL (by omega)];simp[T];exact⟨v1,kv,rfl,h.l.L.D fun r p _=>⟨.inr (.inl p),y r (.inr (.inl p))⟩,h.m.L.D fun r p _=>⟨.inr (.inr p),y r (.inr (.inr p))⟩⟩
 ·by_cases N:i<K.length
  ·rw[Xw N,Xw (by omega)];exact(t2 i N (by omega)).A fun r p _=>⟨p,sb r p⟩
  ·have e:i=K.length:=by grind
   subst e;rw[XL (Xb _),XL (by omega)];simp[U];exact hE.A fun r p _=>⟨p,sb r p⟩
 ·grind
 ·have al:=h.f.c r e b;have Q:¬Bt ru lv' tv' O' r:=fun q=>(h.f.d r q).elim b e;rw[keep r (by grind) (fun q=>Q (.inl q)) (fun q=>Q (.inr (.inl q))) (fun q=>Q (.inr (.inr (.inl q)))),al]
 ·rcases e with e|e|e|e|e|e
  ·exact h.f.d r (.inl e)
  ·exact h.f.A (W r e)
  ·exact h.f.A (Y r e)
  ·exact h.f.d r (.inr (.inr (.inr e)))
  ·exact h.B r (.inl e)
  ·exact h.B r (.inr e)
end
end
end Eva
namespace Eva
open Go Go.RowKit
variable {s o:Nat}{v:List (Str×Ty)}{t c:St}{z:List Str->Prop}{d p U:Pt->Prop}{r:List Ty}{q:Int}{f:List Str}{l w:List (List V)}{m:Str}{j:Ty}{u:Tb}{x:V}{y:Pt}{M:List Nat}{N:List (Str×Nat)}{X:List Nd}{Y:List V}{Z:V->St->Prop}
theorem Jrp {o:V}{R:V->St->Prop}(w:WF t)(h:wW (appV t s x o) t R):wW (appV t s x o) t fun l q=>R l q/\∀p,t.A p≠ .none->q.A p≠ .none:=by
 have m:∀(f:Nat->List V) p,t.A p≠ .none->(t.B fun b=> .a b (f b)).A p≠ .none:=fun f p i=>by rw[KC w _ i];exact i
 have y:∀(f:Nat->Row) (K:∀u,f u≠ .none) r b p,t.A p≠ .none->(t.D r b f).A p≠ .none:=fun f K r b p i=>by
  by_cases e:p=r
  ·rw[JQ,Xe e];grind
  ·rw[Jj _ _ _ e];exact i
 have L:∀(f:Nat->List V) r b,t.A r≠ .none->(t.A r).A=b->∀p,t.A p≠ .none->((t.D r b .c).B fun b=> .a b (f b)).A p≠ .none:=fun f r b n M p i=>by
  have N:WF (t.D r b .c):=(Q8 w n M fun u=>⟨rfl,fun e=>by cases e⟩).wf;have a:=y .c (fun u e=>by cases e) r b p i;rw[KC N _ a];exact a
 have O:∀k j d l e,JG t s k j d=some (l,e)->∀p,t.A p≠ .none->(t.J e).A p≠ .none:=by
  intro k j d l e g p i;unfold JG at g
  split at g
  ·split at g
   ·injection g with g;injection g with _ g;subst g;exact i
   grind
  split at g
  ·injection g with g;injection g with _ g;subst g;exact m _ p i
  ·split at g
   ·cases g
   split at g
   ·rename_i n
    split at g
    ·injection g with g;injection g with _ g;subst g;exact L _ _ _ (Jb n) (by rw[n];rfl) p i
    grind
   grind
  ·split at g
   ·cases g
   split at g
   ·rename_i n
    split at g
    ·split at g
     ·split at g
      ·injection g with g;injection g with _ g;subst g;exact y _ (fun u e=>by cases e) _ _ p i
      grind
     ·injection g with g;injection g with _ g;subst g;exact m _ p i
    grind
   grind
  grind
 unfold wW at h⊢
 split at h
 ·rename_i l e g
  refine⟨h, ?_⟩;unfold appV at g
  grind
 omega
theorem Jto {x:Option (V×Eff)}{R Q:V->St->Prop}(h:wW x t R)(k:∀v S,R v S->Q v S):wW x t Q:=by
 unfold wW at h⊢
 grind
def Jd2 (k:Int)(n:Str)(ns:List Str)(r:List Ty)(li:Int)(tb:Tb)(ids:List Nat):Int:=
 if(JA r li tb).2.2.1≠0 then(JA r li tb).2.2.1 else(layS (JA r li tb).1 ⟨k,n,ns,ids++(JA r li tb).2.1⟩).2.2
theorem JnF {left:Int}(a:fitT (.mk q m f r)=true)(b:(Q1 (.mk q m f r):Int)<=left):(addT (.mk q m f r) left u).2.2.1=Jd2 q m f r (left-1) u []:=by
 obtain⟨c,d,_⟩:=Jaa a;rw[Q1]at b;rw[QS,Xa (by omega)];unfold Jd2
 grind
theorem Jlh {a:Int}(h:(addT j a u).2.2.1=0):Jd2 q m f (j::r) a u M=Jd2 q m f r (addT j a u).2.2.2 (addT j a u).1 (M++[(addT j a u).2.1]):=by
 unfold Jd2;rw[Ku]
 grind
theorem Jli {b:Int}(h:Jd2 q m f [] b u M≠0):idx ⟨q,m,f,M⟩ u.a 0=none/\120<=u.a.length:=by
 unfold Jd2 at h;rw[Qm]at h;simp at h;have c:layS u ⟨q,m,f,M⟩=match idx ⟨q,m,f,M⟩ u.a 0 with
  |some i=>(u,i,0)
  |none=>if 120<=u.a.length then(u,0,20)else({u with a:=u.a++[⟨q,m,f,M⟩]},u.a.length,0):=rfl
 grind
theorem JfG {l:List Nd}{t:Ty}{i:Nat}(c:Ki l t=some i):∀{d:List Ty} {b:List Nat},JS l d=some b->JS l (d++[t])=some (b++[i])
 | [],b,h=>by
   rw[JS]at h;injection h with h;subst h;rw[X0,JS,c,JS];rfl
 | a::r,b,h=>by
   obtain⟨x,y,rfl,e,f⟩:=Qy h;rw[X2,JS,e,JfG c f];rfl
mutual
theorem Jm0 (d:Str->Bool):∀(t:Ty) (a f:Nat),(mayS d t a f).1=0->fitT t=true
 | .mk k n i b,a,f,h=>by
   rw[qR]at h
   split at h
   ·cases h
   split at h
   ·cases h
   split at h
   ·cases h
   split at h
   ·cases h
   rename_i c
   split at h
   ·cases h
   split at h
   ·rename_i c;exact absurd h c
   rename_i m
   have o:b.length=KS (.mk k n i b):=Xd fun e=>c (.inl e);have j:KG (.mk k n i b)=0:=by simpa using m
   have g:i.length<=8:=by
    unfold KG at j;by_cases e:8<(Ty.mk k n i b).D.length
    ·rw[Xe e]at j;cases j
    ·exact Nat.le_of_not_lt e
   have l:b.length<=8:=by
    rw[o];unfold KS
    split
    ·omega
    ·split
     ·exact g
     ·omega
   rw[fitT,JjZ d b _ _ h];simp[g,l]
theorem JjZ (b:Str->Bool):∀(l:List Ty) (a d:Nat),(JE b l a d).1=0->qu l=true
 |[],_,_,_=>by rw[qu]
 | t::r,a,d,h=>by
   rw[Kg]at h
   split at h
   ·rename_i c;exact absurd h c
   rename_i c
   have c:(mayS b t a d).1=0:=by simpa using c
   rw[qu,Jm0 b t _ _ c,JjZ b r _ _ h];rfl
end
mutual
theorem Jj0 :∀t:Ty,Q1 t=cntT t
 | .mk k n b a=>by rw[Q1,Yy,Jhl a];omega
theorem Jhl :∀l:List Ty,QF l=qg l
 |[]=>by rw[QF,Jg3]
 |t::r=>by rw[QF,jk,Jj0 t,Jhl r]
end
theorem JfH {s:Sch}(h:Qx s=0):(∀p∈s.a,fitT p.2=true/\(Q1 p.2:Int)<=400)/\fitT s.b=true/\(Q1 s.b:Int)<=400:=by
 obtain⟨_,_,_,f,g,_⟩:=qr h;have c:∀{t:Ty} {m:Nat},(mayS (hasN s.a) t 1 m).1=0->fitT t=true/\(Q1 t:Int)<=400:=fun{t m} e=>by
  have d:=JjV e;have j:=JaA _ _ _ _ d;have k:=(QN (hasN s.a) t 1 0 (by decide)).2 d;exact⟨Jm0 _ _ _ _ d,by rw[Jj0];omega⟩
 refine⟨fun p i=> ?_,c g⟩;obtain⟨m,l⟩:=ja _ _ _ _ f p.2 (Xz.2 ⟨p,i,rfl⟩)
 grind
theorem Jj1 (h:(addT j 400 u).2.2.1≠0):(Jr ((m,j)::v) u).2=(addT j 400 u).2.2.1:=by rw[Jr,Xe h]
theorem Jlj (h:(addT j 400 u).2.2.1=0):Jr ((m,j)::v) u=Jr v {(addT j 400 u).1 with c:=setI m (addT j 400 u).2.1 (addT j 400 u).1.c}:=by rw[Jr,Xa fun c=>c h]
theorem JfI {left:Int}(h:(addT j left u).2.2.1=0):∃r,(addT j left u).1.a=u.a++r:=by
 obtain⟨r,a,_⟩:=Yz j h
 grind
mutual
def noNm (Q:List Str->Prop):Ty->Prop
 | .mk _ _ ns ks=>Q ns/\QI Q ks
def QI (Q:List Str->Prop):List Ty->Prop
 |[]=>True
 |t::r=>noNm Q t/\QI Q r
end
mutual
theorem Jdi {Q:List Str->Prop}:∀(t:Ty) {left:Int} {tb:Tb},noNm Q t->(∀j∈tb.a,Q j.b)->∀j∈(addT t left tb).1.a,Q j.b
 | .mk k m l n,left,tb,h,o=>by
   rw[noNm]at h;rw[QS]
   split
   ·exact o
   have g:=JfJ n (left:=left-1) (tb:=tb) h.2 o;generalize JA n (left-1) tb=x at g;obtain⟨d,f,e,q⟩:=x;simp only at g⊢
   split
   ·exact g
   ·have p:layS d ⟨k,m,l,f⟩=match idx ⟨k,m,l,f⟩ d.a 0 with
     |some i=>(d,i,0)
     |none=>if 120<=d.a.length then(d,0,20)else({d with a:=d.a++[⟨k,m,l,f⟩]},d.a.length,0):=rfl
    rw[p]
    split
    ·exact g
    ·split
     ·exact g
     ·intro j c;rcases Xs.1 c with c|c
      ·exact g j c
      ·rw[Xj.1 c];exact h.1
theorem JfJ {Q:List Str->Prop}:∀(g:List Ty) {left:Int} {tb:Tb},QI Q g->(∀d∈tb.a,Q d.b)->∀d∈(JA g left tb).1.a,Q d.b
 |[],left,tb,_,f=>by rw[Qm];exact f
 | t::r,left,tb,h,f=>by
   rw[QI]at h;rw[Ku];have c:=Jdi t (left:=left) (tb:=tb) h.1 f;generalize addT t left tb=x at c;obtain⟨j,i,e,k⟩:=x;simp only at c⊢
   split
   ·exact c
   ·exact JfJ r (left:=k) (tb:=j) h.2 c
end
theorem JcE {Q:List Str->Prop}:∀(l:List (Str×Ty)) {c:Tb},(∀p∈l,noNm Q p.2)->(∀d∈c.a,Q d.b)->∀d∈(Jr l c).1.a,Q d.b
 |[],c,_,e=>by rw[Jr];exact e
 | (m,t)::r,c,h,e=>by
   have f:=Jdi t (left:=400) (h (m,t) (Xu ..)) e;rw[Jr]
   split
   ·exact f
   ·exact JcE r (fun p g=>h p (Xi _ g)) f
theorem JpG {Q:List Str->Prop}{s:Sch}(g:s.c=[])(h:newS s=(some u,q))(i:noNm Q s.b)(j:∀p∈s.a,noNm Q p.2):∀f∈u.a,Q f.b:=by
 rw[Jcx,g]at h
 split at h
 ·grind
 split at h
 ·grind
 split at h
 ·grind
 split at h
 ·grind
 injection h with h _;injection h with h;rw[Kb]at h;subst h;exact Jdi s.b i (JcE s.a j fun f d=>by cases d)
theorem YW {T:Table}{c:C}{a:Fr}{Q:Out->Prop}(h:∀b,b=t->wC T s c a b Q):wC T s c a t Q:=h t rfl
structure Rn where
 f:Pt->Pt
 s:Nat->V
instance : CoeFun Rn fun _=>Pt->Pt:=⟨Rn.f⟩
def Rn.A (φ:Rn):Prop:=∀i,∃k n,φ.s i= .d k n
mutual
def mv (φ:Rn):V->V
 | .g r o=> .g (φ r) o
 | .w r o n z=> .w (φ r) o n z
 | .m r o n z c=> .m (φ r) o n z c
 | .q r=> .q (φ r)
 | .D f a b=> .D f (mvs φ a) (mvs φ b)
 | .j l=> .j (mvs φ l)
 | .p l=> .p (mvs φ l)
 | .h b=> .h b
 | .d k n=> .d k n
 | .t n v=> .t n v
 | .s=> .s
 | .e=> .e
 | .u=> .u
 | .x=> .x
 | .y=> .y
 | .F i=>φ.s i
def mvs (φ:Rn):List V->List V
 |[]=>[]
 |x::r=>mv φ x::mvs φ r
end
mutual
def closed :V->Bool
 | .g _ _=>false
 | .w _ _ _ _=>false
 | .m _ _ _ _ _=>false
 | .q _=>false
 | .D _ a b=>kQ a&&kQ b
 | .j l=>kQ l
 | .p l=>kQ l
 | .F _=>false
 |_=>true
def kQ :List V->Bool
 |[]=>true
 |x::r=>closed x&&kQ r
end
section
variable (φ : Rn)
mutual
theorem JnG :∀v:V,closed v=true->mv φ v=v
 | .g _ _,h=>by simp[closed]at h
 | .w _ _ _ _,h=>by simp[closed]at h
 | .m _ _ _ _ _,h=>by simp[closed]at h
 | .q _,h=>by simp[closed]at h
 | .D _ a b,h=>by
   rw[closed,Xk]at h;rw[mv,jp a h.1,jp b h.2]
 | .j l,h=>by rw[closed]at h;rw[mv,jp l h]
 | .p l,h=>by rw[closed]at h;rw[mv,jp l h]
 | .h _,_=>by rw[mv]
 | .d _ _,_=>by rw[mv]
 | .t _ _,_=>by rw[mv]
 | .s,_=>by rw[mv]
 | .e,_=>by rw[mv]
 | .u,_=>by rw[mv]
 | .x,_=>by rw[mv]
 | .y,_=>by rw[mv]
 | .F _,h=>by simp[closed]at h
theorem jp :∀l:List V,kQ l=true->mvs φ l=l
 |[],_=>by rw[mvs]
 | x::r,h=>by
   rw[kQ,Xk]at h;rw[mvs,JnG x h.1,jp r h.2]
end
section
variable (hφ : φ.A)
include hφ
end
def mv2 (p:V×V):V×V:=(mv φ p.1,mv φ p.2)
end
def TR (i0 i t u:Nat):Prop:=(t<i0/\u<i)\/∃k,t=i0+k/\u=i+k
def RowE (φ:Rn)(T:Nat->Nat->Prop):Row->Row->Prop
 | .none,x=>x= .none
 | .a t l,x=>∃u,x= .a u (l.map (mv φ))/\T t u
 | .c t,x=>x≠ .none/\T t x.A
 | .b t es,x=>∃u,x= .b u (es.map (mv2 φ))/\T t u
 | .e t n v p,x=>∃u,x= .e u n v p/\T t u
 | .d t m n c,x=>∃u,x= .d u (m.map φ) n c/\T t u
 | .f l,x=>x= .f (l.map (mv φ))
structure Emb (φ:Rn) (n0 i0 i:Nat) (a b:St):Prop where
 c:φ.A
 inj:∀p q,φ p=φ q->p=q
 f:∀p,n0<=p.A->φ p.F=(φ p).F
 g:n0<=a.b.A
 h:b.b=φ a.b
 t:∃k,a.t=i0+k/\b.t=i+k
 d:0<i0->0<i
 e:∀p,RowE φ (TR i0 i) (a.A p) (b.A (φ p))
 wf:WF b
def LowE (g:Bool)(i0 i:Nat)(a b:St):Prop:=g=true->TR i0 i a.a b.a
structure Stp (φ:Rn) (a b a' b':St):Prop where
 c:∀s,b.A s≠ .none->(∀p,a.A p≠ .none->φ p≠s)->b'.A s=b.A s
 d:∀s,b.A s≠ .none->b'.A s≠ .none
structure Jj2 (φ:Rn) (n0 i0 i:Nat) (g:Bool) (a b a' b':St):Prop where
 c:Emb φ n0 i0 i a' b'
 d:LowE g i0 i a' b'
 e:Stp φ a b a' b'
section
variable {φ : Rn} {n0 i0 i : Nat} {g : Bool} {a b : St}
end
section
variable (φ : Rn) {fr : Fr}
end
section
variable {φ : Rn} {n0 i0 i : Nat} {a b : St} (H : Emb φ n0 i0 i a b)
include H
end
section
variable {φ : Rn} {n0 i0 i : Nat} {a b : St} {fr : Fr}
end
def Jul (self:Self):Prop:=∀f args a v a',self f args a=some (v,a')->∀φ n0 i0 i g b,Emb φ n0 i0 i a b->LowE g i0 i a b->∃b',self f (args.map (mv φ)) b=some (mv φ v,b')/\Jj2 φ n0 i0 i g a b a' b'
section
variable {self : Self} (hs : Jul self) {φ : Rn} {n0 i0 i : Nat}
include hs
omit hs in
end
section
variable {φ : Rn} {n0 i0 i : Nat} {a b : St}
end
mutual
def inV (n:Nat):V->Bool
 | .g r _=>decide (r.A<n)
 | .w r _ _ _=>decide (r.A<n)
 | .m r _ _ _ _=>decide (r.A<n)
 | .q r=>decide (r.A<n)
 | .D _ a b=>inVs n a&&inVs n b
 | .j l=>inVs n l
 | .p l=>inVs n l
 |_=>true
def inVs (n:Nat):List V->Bool
 |[]=>true
 |x::r=>inV n x&&inVs n r
end
mutual
theorem Jlk (n:Nat):∀v:V,closed v=true->inV n v=true
 | .g _ _,h=>by simp[closed]at h
 | .w _ _ _ _,h=>by simp[closed]at h
 | .m _ _ _ _ _,h=>by simp[closed]at h
 | .q _,h=>by simp[closed]at h
 | .D _ a b,h=>by
   rw[closed,Xk]at h;rw[inV,Y8 n a h.1,Y8 n b h.2];rfl
 | .j l,h=>by rw[closed]at h;rw[inV,Y8 n l h]
 | .p l,h=>by rw[closed]at h;rw[inV,Y8 n l h]
 | .h _,_=>by simp[inV]
 | .d _ _,_=>by simp[inV]
 | .t _ _,_=>by simp[inV]
 | .s,_=>by simp[inV]
 | .e,_=>by simp[inV]
 | .u,_=>by simp[inV]
 | .x,_=>by simp[inV]
 | .y,_=>by simp[inV]
 | .F _,_=>by simp[inV]
theorem Y8 (n:Nat):∀l:List V,kQ l=true->inVs n l=true
 |[],_=>by rw[inVs]
 | x::r,h=>by
   rw[kQ,Xk]at h;rw[inVs,Jlk n x h.1,Y8 n r h.2];rfl
end
structure Agr (n:Nat) (φ ψ:Rn):Prop where
 f:∀p:Pt,p.A<n->ψ p=φ p
 s:ψ.s=φ.s
section
variable {n : Nat} {φ ψ : Rn} (h : Agr n φ ψ)
include h
mutual
theorem Jtp :∀v:V,inV n v=true->mv ψ v=mv φ v
 | .g r _,e=>by rw[mv,mv,h.f r (X7 e)]
 | .w r _ _ _,e=>by rw[mv,mv,h.f r (X7 e)]
 | .m r _ _ _ _,e=>by rw[mv,mv,h.f r (X7 e)]
 | .q r,e=>by rw[mv,mv,h.f r (X7 e)]
 | .D _ a b,e=>by rw[inV,Xk]at e;rw[mv,mv,JcF a e.1,JcF b e.2]
 | .j l,e=>by rw[inV]at e;rw[mv,mv,JcF l e]
 | .p l,e=>by rw[inV]at e;rw[mv,mv,JcF l e]
 | .h _,_=>by rw[mv,mv]
 | .d _ _,_=>by rw[mv,mv]
 | .t _ _,_=>by rw[mv,mv]
 | .s,_=>by rw[mv,mv]
 | .e,_=>by rw[mv,mv]
 | .u,_=>by rw[mv,mv]
 | .x,_=>by rw[mv,mv]
 | .y,_=>by rw[mv,mv]
 | .F _,_=>by rw[mv,mv,h.s]
theorem JcF :∀l:List V,inVs n l=true->mvs ψ l=mvs φ l
 |[],_=>by rw[mvs,mvs]
 |x::r,e=>by rw[inVs,Xk]at e;rw[mvs,mvs,Jtp x e.1,JcF r e.2]
end
end
section
variable {φ : Rn} {a S S' : St}
end
section
variable {self : Self} {lf K g : Nat}
end
section
variable {φ : Rn} {a S : St} {T : Table}
end
def raise (k:Nat):Rn:=⟨fun p=>up k p,fun i=> .F i⟩
section
variable {χ ψ : Rn} {k n : Nat} (hf : ∀ p : Pt, p.A < n -> χ (up k p) = ψ p) (hs : χ.s = ψ.s)
include hf hs
mutual
theorem JpH :∀v:V,inV n v=true->mv χ (mv (raise k) v)=mv ψ v
 | .g r _,e=>by simp only[mv];rw[<-hf r (X7 e)];rfl
 | .w r _ _ _,e=>by simp only[mv];rw[<-hf r (X7 e)];rfl
 | .m r _ _ _ _,e=>by simp only[mv];rw[<-hf r (X7 e)];rfl
 | .q r,e=>by simp only[mv];rw[<-hf r (X7 e)];rfl
 | .D _ a b,e=>by rw[inV,Xk]at e;simp only[mv];rw[qA a e.1,qA b e.2]
 | .j l,e=>by rw[inV]at e;simp only[mv];rw[qA l e]
 | .p l,e=>by rw[inV]at e;simp only[mv];rw[qA l e]
 | .h _,_=>by simp only[mv]
 | .d _ _,_=>by simp only[mv]
 | .t _ _,_=>by simp only[mv]
 | .s,_=>by simp only[mv]
 | .e,_=>by simp only[mv]
 | .u,_=>by simp only[mv]
 | .x,_=>by simp only[mv]
 | .y,_=>by simp only[mv]
 | .F i,_=>by
   have:mv (raise k) (.F i)= .F i:=by rw[mv];rfl
   rw[this,mv,mv,hs]
theorem qA :∀l:List V,inVs n l=true->mvs χ (mvs (raise k) l)=mvs ψ l
 |[],_=>by simp only[mvs]
 |x::r,e=>by rw[inVs,Xk]at e;simp only[mvs];rw[JpH x e.1,qA r e.2]
end
end
mutual
def noQ :V->Bool
 | .D _ a b=>noQs a&&noQs b
 | .j l=>noQs l
 | .p l=>noQs l
 | .F _=>false
 |_=>true
def noQs :List V->Bool
 |[]=>true
 |x::r=>noQ x&&noQs r
end
section
variable {φ ψ : Rn} (hf : φ.f = ψ.f)
include hf
mutual
theorem Jtr :∀v:V,noQ v=true->mv ψ v=mv φ v
 | .g r _,_=>by simp only[mv];rw[hf]
 | .w r _ _ _,_=>by simp only[mv];rw[hf]
 | .m r _ _ _ _,_=>by simp only[mv];rw[hf]
 | .q r,_=>by simp only[mv];rw[hf]
 | .D _ a b,e=>by rw[noQ,Xk]at e;simp only[mv];rw[JcG a e.1,JcG b e.2]
 | .j l,e=>by rw[noQ]at e;simp only[mv];rw[JcG l e]
 | .p l,e=>by rw[noQ]at e;simp only[mv];rw[JcG l e]
 | .h _,_=>by simp only[mv]
 | .d _ _,_=>by simp only[mv]
 | .t _ _,_=>by simp only[mv]
 | .s,_=>by simp only[mv]
 | .e,_=>by simp only[mv]
 | .u,_=>by simp only[mv]
 | .x,_=>by simp only[mv]
 | .y,_=>by simp only[mv]
 | .F _,e=>by simp[noQ]at e
theorem JcG :∀l:List V,noQs l=true->mvs ψ l=mvs φ l
 |[],_=>by simp only[mvs]
 |x::r,e=>by rw[noQs,Xk]at e;simp only[mvs];rw[Jtr x e.1,JcG r e.2]
end
end
section
variable {φ ψ : Rn} {a b S : St}
end
section
variable {Sl S S' : St} {ru kr : Pt} {lv lw : V} {nodes : List Nd} {was : Was}
end
theorem JfK {α:Type}[DecidableEq α]{k:α}:∀{b:List (α×V)} {i:Nat} {w:V},at_ k b=some w->∃j,Yn k b i=some (j,w)
 |[],_,_,h=>by cases h
 | (a,v)::r,i,w,h=>by
   simp only[at_,Yn]at h⊢
   split at h
   ·simp_all
   ·rename_i e
    rw[Xa e];exact JfK h
theorem JbR {α:Type}[DecidableEq α]{k:α}:∀{b:List (α×V)} {i:Nat},at_ k b=none->Yn k b i=none
 |[],_,_=>rfl
 | (a,v)::r,i,h=>by
   simp only[at_,Yn]at h⊢
   split at h
   ·cases h
   ·rename_i e
    rw[Xa e];exact JbR h
def dedS {α:Type}[DecidableEq α]:List α->List α->List α
 |acc,[]=>acc
 |acc,x::r=>if x∈acc then dedS acc r else dedS (acc++[x]) r
theorem JpI {α:Type}[DecidableEq α]{k:α}{a:List (α×V)}(h:at_ k a=some x):(k,x)∈a:=by
 obtain⟨j,b⟩:=JfK (i:=0) h;obtain⟨_,c,d⟩:=Jcm b
 grind
theorem JpJ {α:Type}[DecidableEq α]{k:α}:∀{c:List (α×V)},at_ k c=none->k∉c.map (·.1)
 |[],_,h=>by cases h
 | (a,v)::r,h,b=>by
   simp only[at_]at h
   split at h
   ·cases h
   ·rename_i e
    rcases Xq.1 b with b|b
    ·grind
    ·exact JpJ h b
theorem Jj3 {α:Type}[DecidableEq α]{k:α}{v w:V}:∀{b:List (α×V)},at_ k b=some w->(Y4 k v b).map (·.1)=b.map (·.1)
 |[],h=>by cases h
 | (a,x)::r,h=>by
   simp only[at_]at h;simp only[Y4];by_cases e:k=a
   ·grind
   ·rw[Xa e]at h;rw[Xa e,XK,XK,Jj3 h]
theorem Jm1 {α:Type}[DecidableEq α]{k:α}{v:V}{p:α×V}:∀{b:List (α×V)},p∈Y4 k v b->p=(k,v)\/p∈b
 |[],h=> .inl (Xj.1 h)
 | (a,x)::r,h=>by
   simp only[Y4]at h;by_cases e:k=a
   ·grind
   ·rw[Xa e]at h;rcases Xq.1 h with h|h
    ·grind
    ·exact(Jm1 h).imp id (Xi _)
def encS (x:Str×Nat):V:= .j [ofL x.1, .d .i64 (x.2:Nat)]
theorem JcH (a b:Str×Nat):EK.B (.b [.s, .i]) (encS a) (encS b)=some (decide (a=b)):=by
 have l:EK.B (.b [.s, .i]) (encS a) (encS b)=keqs [.s, .i] [ofL a.1, .d .i64 (a.2:Int)] [ofL b.1, .d .i64 (b.2:Int)]:=rfl;rw[l];obtain⟨c,g⟩:=a;obtain⟨f,h⟩:=b;have m:keq .s (ofL c) (ofL f)=some (decide (c=f)):=Jcl c f;simp only[keqs,m];by_cases j:c=f
 ·subst j;by_cases k:g=h
  ·subst k;simp[keq]
  ·have e:((g:Int)==(h:Int))=false:=by grind
   simp[keq,e,k]
 ·simp[j]
theorem Jhm {α:Type}[DecidableEq α](x:α):∀(l a:List α),dedS a (l++[x])=if x∈dedS a l then dedS a l else dedS a l++[x]
 |[],a=>by rfl
 | y::r,a=>by
   simp only[X2,dedS]
   split<;>exact Jhm x r _
theorem Jhn (b:St)(c:Fr)(i n j:Nat)(Q:V->St->Prop):resP b c [.s j, .a i n] Q=wW (QV b n (c i)) b fun v b=>Q (.p [c j,v]) b:=by
 have h:=jC c b n (.s i);have h:(Kn b n (c i)).map (fun l=>(V.j l,Eff.a))=QV b n (c i):=h;rw[<-h];simp only[resP,Ql,jx,Zt,List.mapM_nil]
 cases Kn b n (c i)<;>rfl
theorem JpK {α:Type}[DecidableEq α]{enc:α->V}{e:EK}{a:List (α×V)}(h:t.A y= .b s (a.map fun p=>(enc p.1,p.2)))(k:α)(z:V)(f:∀p∈a,e.B (enc k) (enc p.1)=some (decide (k=p.1)))(c:e.A (enc k)=true)(i:e.D (enc k)=true)(g:Yn k a 0=some (o,x)):
  Jgt t e z (.q y) (enc k)=some (.p [x, .d .i64 o], .d y s fun u=> .b u (a.map fun p=>(enc p.1,p.2))):=by
 obtain⟨_,l,m⟩:=Jcm g;simp only[ZN]at l m;simp only[Jgt,h,c,i,jg k a 0 f,g];have:(a.map fun p=>(enc p.1,p.2)).modify o (fun e=>(enc k,e.2))=a.map fun p=>(enc p.1,p.2):=by
  apply Z3
  grind
 grind
theorem Jrq {α:Type}[DecidableEq α]{enc:α->V}{a:List (α×V)}{k:α}{v:V}(h:t.A y= .b s (a.map fun p=>(enc p.1,p.2)))(c:Yn k a 0=some (o,x)):Jgu t (.q y) (.d .i64 o) v=some (JY, .d y s fun u=> .b u ((Y4 k v a).map fun p=>(enc p.1,p.2))):=by
 obtain⟨_,f,g⟩:=Jcm c;simp only[ZN]at f g;simp only[Jgu,Qw,GM,ZS,Zu,h];rw[Xe (by grind),Je8 c,ZN];have:(a.map fun p=>(enc p.1,p.2)).modify o (fun e=>(e.1,v))=(a.modify o fun _=>(k,v)).map fun p=>(enc p.1,p.2):=by
  apply Z3
  grind
 rw[this]
def qB (S:St)(r:Pt)(ps:List (Str×Nat))(m:Nat):Prop:=∃es:List ((Str×Nat)×V),es.map (·.1)=ps/\(∀p∈es,∃c:Nat,p.2= .d .i64 c/\1<=c/\c<=m)/\Y5 S r encS es
theorem qB.D (h:qB t y N s)(k:c.A y=t.A y):qB c y N s:=by
 obtain⟨e,a,b,d⟩:=h;exact⟨e,a,b,d.B k⟩
theorem JpL (h:qB t y N s)(hm:s<2^40)(k:Str×Nat):∃(c j f:Nat) (M O:Nat->Row) (z:V),t.A y≠ .none/\(t.A y).A=f/\
  (∀g:St,g.A y=t.A y->Q9 g (.b [.s, .i]) (.d .i64 0) false (.q y) (.j [ofL k.1, .d .i64 (k.2:Nat)])=some (.d .i64 c, .a))/\
  (∀g:St,g.A y=t.A y->Jgt g (.b [.s, .i]) (.d .i64 0) (.q y) (.j [ofL k.1, .d .i64 (k.2:Nat)])=some (.p [z, .d .i64 j], .d y f M))/\
  IntKind.i64.wrap ((c:Int)+1)=((c+1:Nat):Int)/\
  (∀(g:St) u,g.A y=M u->Jgu g (.q y) (.d .i64 j) (.d .i64 ((c+1:Nat):Int))=some (JY, .d y u O))/\
  (∀u,(M u).A=u/\M u≠ .none)/\(∀u,(O u).A=u/\O u≠ .none)/\
  (∀(g:St) u,g.A y=O u->Q9 g (.b [.s, .i]) (.d .i64 0) false (.q y) (.j [ofL k.1, .d .i64 (k.2:Nat)])=some (.d .i64 ((c+1:Nat):Int), .a)/\qB g y (if k∈N then N else N++[k]) (s+1))/\((c=0)<->k∉N):=by
 obtain⟨x,P,X,f,J⟩:=h;have l:∀p∈x,EK.B (.b [.s, .i]) (encS k) (encS p.1)=some (decide (k=p.1)):=fun p _=>JcH _ _;have U:EK.D (.b [.s, .i]) (encS k)=true:=by
  show(match EK.B (.b [.s, .i]) (encS k) (encS k)with|some true=>true|_=>false)=true;rw[JcH];simp
 have K:t.A y≠ .none:=by grind
 have W:(t.A y).A=f:=by rw[J];rfl
 cases n:at_ k x with
 | none=>
   have Q:k∉N:=P▸JpJ n;have L:=JbR (i:=0) n;refine⟨0,x.length,f,_,fun u=>Row.b u ((x++[(k,V.d .i64 1)]).map fun p:(Str×Nat)×V=>(encS p.1,p.2)),_,K,W,fun g e=> ?_,fun g e=>Jpg (enc:=encS) (e.trans J) k (.d .i64 0) l rfl U L,by decide,fun g u e=> ?_,fun u=>⟨rfl,fun e=>by cases e⟩,fun u=>⟨rfl,fun e=>by cases e⟩,fun g u e=>⟨?_, ?_⟩, ?_⟩
   ·have:=K0 (enc:=encS) ⟨f,e.trans J⟩ (.d .i64 0) false k l rfl;rw[n]at this;exact this
   ·have e:g.A y= .b u ((x.map fun p=>(encS p.1,p.2))++[(encS k, .d .i64 0)]):=by grind
    have:=JnB (v:= .d .i64 1) e
    grind
   ·have:=K0 (enc:=encS) ⟨u,e⟩ (.d .i64 0) false k (fun p _=>JcH _ _) rfl;rw[<-qc L,Jk4,Xe rfl]at this;exact this
   ·rw[Xa Q];refine⟨x++[(k, .d .i64 1)],by simp[P],fun p o=> ?_,u,e⟩;rcases Xs.1 o with o|o
    ·grind
    ·rw[Xj.1 o];exact⟨1,rfl,Xb _,by omega⟩
   grind
 | some w=>
   obtain⟨c,T,Y,Z⟩:=X _ (JpI n);have T:w= .d .i64 c:=T;obtain⟨j,L⟩:=JfK (i:=0) n;have Q:k∈N:=by
    rw[<-P];exact Xz.2 ⟨_,JpI n,rfl⟩
   subst T;refine⟨c,j,f,_,_,_,K,W,fun g e=> ?_,fun g e=>JpK (enc:=encS) (e.trans J) k (.d .i64 0) l rfl U L, ?_,fun g u e=>Jrq (enc:=encS) e L,fun u=>⟨rfl,fun e=>by cases e⟩,fun u=>⟨rfl,fun e=>by cases e⟩,fun g u e=>⟨?_, ?_⟩, ?_⟩
   ·have:=K0 (enc:=encS) ⟨f,e.trans J⟩ (.d .i64 0) false k l rfl;rw[n]at this;exact this
   ·rw[JX (by omega) (by omega)];rfl
   ·have:=K0 (enc:=encS) ⟨u,e⟩ (.d .i64 0) false k (fun p _=>JcH _ _) rfl;rw[Jk4,Xe rfl]at this;exact this
   ·rw[Xe Q];refine⟨_,(Jj3 n).trans P,fun p o=> ?_,u,e⟩;rcases Jm1 o with rfl|o
    ·exact⟨c+1,rfl,by omega,by omega⟩
    grind
   grind
def One (v:V):Prop:=v.B=true/\v.A=some [v]
theorem One.A (h:x.B=true):One x:=⟨h,by cases x<;>first|rfl|(cases h;done)⟩
theorem Jll {e:List V}(a:∀x∈l,x.length=s)(d:Y.length=s)(f:e.length=s):Jw (l++Y::w).flatten (l.length*s) e=(l++e::w).flatten:=by
 have b:l.flatten.length=l.length*s:=Jp a;simp only[Jw,XJ,Zf];rw[<-b,Hs,Z9];have:List.drop (l.flatten.length+e.length) l.flatten=[]:=Xm (by omega);rw[this];have c:l.flatten.length+e.length-l.flatten.length=Y.length:=by omega
 rw[c,Ht];simp
theorem JpM (a:∀x∈l,x.length=s)(b:Y.length=s):((l++Y::w).flatten.drop (l.length*s)).take s=Y:=by
 have c:l.flatten.length=l.length*s:=Jp a;simp only[XJ,Zf];rw[<-c,Ht,<-b,Hs]
end Eva
namespace Eva
open Go Go.RowKit Go.ChangeAt
variable {s o:Nat}{v:List (Str×Ty)}{t c:St}{z:List Str->Prop}{d p U:Pt->Prop}{r:List Ty}{q:Int}{f:List Str}{l w:List (List V)}{m:Str}{j:Ty}{u:Tb}{x:V}{y:Pt}{M:List Nat}{N:List (Str×Nat)}{X:List Nd}{Y:List V}{Z:V->St->Prop}
inductive R9 where
 |mk (kind n:Int) (kids:List R9)
 deriving Inhabited
def R9.A :R9->List R9| .mk _ _ l=>l
inductive R10 where
 |mk (kind n:Int) (w:R9) (kids:List R10)
 deriving Inhabited
inductive R9C (P:Pt->Prop) (st:St):List V->R9->Prop
 | mk {k n:Int} {ks:List R9} {kv:V} {es:List (List V)} (hk:In64 k) (hn:In64 n) (h2:SlAt P st kv 3 es) (h3:es.length=ks.length) (hl:ks.length<2^63) (h4:∀i (h:i<es.length) (h':i<ks.length),R9C P st es[i] ks[i]):
   R9C P st [.d .i64 k, .d .i64 n,kv] (.mk k n ks)
inductive R10C (P:Pt->Prop) (st:St):List V->R10->Prop
 | mk {k n:Int} {w:R9} {ks:List R10} {a b c kv:V} {es:List (List V)} (hk:In64 k) (hn:In64 n) (hw:R9C P st [a,b,c] w) (h2:SlAt P st kv 6 es) (h3:es.length=ks.length) (hl:ks.length<2^63) (h4:∀i (h:i<es.length) (h':i<ks.length),R10C P st es[i] ks[i]):
   R10C P st [.d .i64 k, .d .i64 n,a,b,c,kv] (.mk k n w ks)
section
variable {P Q : Pt -> Prop} {st st' : St} {e : List V}
theorem R9C.A {r:R9}(h:R9C P st e r)(k:∀r,P r->st.A r≠ .none->Q r/\st'.A r=st.A r):R9C Q st' e r:=by
 induction h with
 |mk a b c d f i g=>exact .mk a b (c.D k) d f g
theorem R9C.F {r:R9}(h:R9C P st e r):e.length=3:=by cases h;rfl
theorem R10C.A {r:R10}(h:R10C P st e r)(k:∀r,P r->st.A r≠ .none->Q r/\st'.A r=st.A r):R10C Q st' e r:=by
 induction h with
 |mk a b c d f g j i=>exact .mk a b (c.A k) (d.D k) f g i
theorem R9C.D {r:R9}(h:R9C P st e r)(g:Gr st st'):R9C P st' e r:=h.A fun r p e=>⟨p,g.d r e⟩
theorem R10C.F {r:R10}(h:R10C P st e r)(g:Gr st st'):R10C P st' e r:=h.A fun r p e=>⟨p,g.d r e⟩
theorem R10C.D {r:R10}(h:R10C P st e r):e.length=6:=by cases h;rfl
end
def YA (P:Pt->Prop)(st:St)(u:V)(rs:List R10):Prop:=∃es,SlAt P st u 6 es/\es.length=rs.length/\rs.length<2^63/\∀i (h:i<es.length) (h':i<rs.length),R10C P st es[i] rs[i]
theorem YA.A {P Q:Pt->Prop}{st st':St}{u:V}{c:List R10}(h:YA P st u c)(k:∀r,P r->st.A r≠ .none->Q r/\st'.A r=st.A r):YA Q st' u c:=by
 obtain⟨d,e,f,g,j⟩:=h;exact⟨d,e.D k,f,g,fun i a b=>(j i a b).A k⟩
structure R9Ty (P:Program) (t ti tk:TypeId):Prop where
 e:∃f0 f1 f2:Field,P.underlying t=some (.struct #[f0,f1,f2])/\(f0.type=ti/\f0.offset=0)/\(f1.type=ti/\f1.offset=1)/\(f2.type=tk/\f2.offset=2)
 a:P.underlying ti=some (.int .i64)
 b:P.underlying tk=some (.slice t)
 d:P.cellsOf t=3
 c:P.cellsOf ti=1
 f:P.cellsOf tk=1
structure JpN (P:Program) (t ti tw tk tx:TypeId):Prop where
 w:R9Ty P tw ti tx
 b:∃f0 f1 f2 f3:Field,P.underlying t=some (.struct #[f0,f1,f2,f3])/\(f0.type=ti/\f0.offset=0)/\(f1.type=ti/\f1.offset=1)/\(f2.type=tw/\f2.offset=2)/\(f3.type=tk/\f3.offset=5)
 a:P.underlying tk=some (.slice t)
 d:P.cellsOf t=6
 c:P.cellsOf tk=1
section
variable {H : Type} {enc : TypeId × Value -> H} {P : Program} {W : World} {ρ : Nat -> Value}
theorem Jm2 (h:(Lit.int .i64 q).wf=true):In64 q:=by
 have: -9223372036854775808<=q/\q<=9223372036854775807:=by simpa[Lit.wf,IntKind.min,IntKind.max,IntKind.bits,IntKind.signed]using h
 exact⟨this.1,by omega⟩
theorem Jts {t ti tk:TypeId}(l:R9Ty P t ti tk)(h0:0<W.heap.size):∀(g:Nat),
  (∀{j:List Value} {x:DataW H×List MemPlace},DataW.trod enc P W 0 (fun _=>true) true g t j=some x->j.length=3/\∃r,OpnC ρ W j fun o e=>R9C (fun _=>True) o e r)/\
  (∀{j:List Value} {x:DataW H×List MemPlace},DataW.trod enc P W 0 (fun _=>true) true g tk j=some x->∃(v:Value) (p:List R9),j=[v]/\OpnV ρ W v fun o u=>∃q,SlAt (fun _=>True) o u 3 q/\q.length=p.length/\p.length<2^63/\∀i (h:i<q.length) (h':i<p.length),R9C (fun _=>True) o q[i] p[i]):=by
 intro g
 induction g with
 |zero=>exact⟨fun h=>by simp[DataW.trod]at h,fun h=>by simp[DataW.trod]at h⟩
 | succ g ih=>
   refine⟨fun{j x} h=> ?_,fun{j x} h=> ?_⟩
   ·obtain⟨g0,g1,g3,s,⟨t0,o0⟩,⟨t1,o1⟩,⟨t3,w⟩⟩:=l.e;obtain⟨xs,n,y,_,J,L,M⟩:=DataW.trod_struct s h;injection y with y;subst y;rw[l.d]at J;refine⟨J, ?_⟩
    match j,J with
    | [c0,c1,c3],_=>
      have N:xs.length=3:=L
      match xs,N with
      | [x0,x1,x3],_=>
        have f0:=M 0 g0 rfl;have f1:=M 1 g1 rfl;have f3:=M 2 g3 rfl;rw[t0,o0,l.c]at f0;rw[t1,o1,l.c]at f1;rw[t3,w,l.f]at f3;obtain⟨k,O,_,w0⟩:=DataW.trod_int l.a f0;obtain⟨m,Q,_,w1⟩:=DataW.trod_int l.a f1;obtain⟨v3,p,S,o3⟩:=ih.2 f3;injection O with O;injection Q with Q;injection S with S;subst O;subst Q;subst S;refine⟨.mk k m p, ?_⟩;have oc:OpnC ρ W [.int .i64 k, .int .i64 m] fun _ e=>e=[.d .i64 k, .d .i64 m]:=OpnC.G fun γ=>⟨_,_,rfl,rfl,_,_,rfl,rfl,rfl⟩
        refine(oc.D o3.D).F fun o e ⟨a,b,T,U,u3,h6,q,h7,h8,h9,X⟩=> ?_;rw[T,U,h6];exact .mk (Jm2 w0) (Jm2 w1) h7 h8 h9 X
   ·obtain⟨v,p,T,U⟩:=Jic (ρ:=ρ) (z:=3) (by decide) l.b l.d h0 (K:=fun e o r=>R9C (fun _=>True) o e r) (fun{j x} k=>by
     obtain⟨Y,r,Z⟩:=ih.1 k;exact⟨Y,r,Z.F fun o e h=>⟨h.F,h⟩⟩) h
    exact⟨v,p,T,U.F fun o u ⟨q,k1,k2,Y,Z⟩=>⟨q,k1,k2,Ja5 Y,Z⟩⟩
theorem Jrr {t ti tw tk tx:TypeId}(g:JpN P t ti tw tk tx)(h0:0<W.heap.size):∀(f:Nat),
  (∀{i:List Value} {x:DataW H×List MemPlace},DataW.trod enc P W 0 (fun _=>true) true f t i=some x->i.length=6/\∃r,OpnC ρ W i fun j e=>R10C (fun _=>True) j e r)/\
  (∀{i:List Value} {x:DataW H×List MemPlace},DataW.trod enc P W 0 (fun _=>true) true f tk i=some x->∃(v:Value) (l:List R10),i=[v]/\OpnV ρ W v fun j u=>YA (fun _=>True) j u l):=by
 intro f
 induction f with
 |zero=>exact⟨fun h=>by simp[DataW.trod]at h,fun h=>by simp[DataW.trod]at h⟩
 | succ f ih=>
   refine⟨fun{i x} h=> ?_,fun{i x} h=> ?_⟩
   ·obtain⟨g0,g1,g2,g3,o,⟨t0,o0⟩,⟨t1,o1⟩,⟨t2,J⟩,⟨t3,L⟩⟩:=g.b;obtain⟨xs,n,M,_,p,N,y⟩:=DataW.trod_struct o h;injection M with M;subst M;rw[g.d]at p;refine⟨p, ?_⟩
    match i,p with
    | [c0,c1,c2,O,s,c3],_=>
      have Q:xs.length=4:=N
      match xs,Q with
      | [x0,x1,x2,x3],_=>
        have f0:=y 0 g0 rfl;have f1:=y 1 g1 rfl;have f2:=y 2 g2 rfl;have f3:=y 3 g3 rfl;rw[t0,o0,g.w.c]at f0;rw[t1,o1,g.w.c]at f1;rw[t2,J,g.w.d]at f2;rw[t3,L,g.c]at f3;obtain⟨k,S,_,w0⟩:=DataW.trod_int g.w.a f0;obtain⟨m,T,_,w1⟩:=DataW.trod_int g.w.a f1;obtain⟨_,q,J⟩:=(Jts (ρ:=ρ) g.w h0 f).1 f2;obtain⟨v3,l,U,o3⟩:=ih.2 f3;injection S with S;injection T with T;injection U with U;subst S;subst T;subst U;refine⟨.mk k m q l, ?_⟩;have oc:OpnC ρ W [.int .i64 k, .int .i64 m] fun _ e=>e=[.d .i64 k, .d .i64 m]:=OpnC.G fun γ=>⟨_,_,rfl,rfl,_,_,rfl,rfl,rfl⟩
        have X:OpnC ρ W [c2,O,s] fun j e=>R9C (fun _=>True) j e q:=J;refine((oc.D X).D o3.D).F fun j e ⟨a,b,Y,⟨a1,a2,Z,h3,h4⟩,u3,h6,es,h7,h8,h9,aa⟩=> ?_;have p:=h4.F
        match a2,p with
        | [y0,y1,y2],_=>
          rw[Y,Z,h3,h6];exact .mk (Jm2 w0) (Jm2 w1) h4 h7 h8 h9 aa
   ·obtain⟨v,l,Y,Z⟩:=Jic (ρ:=ρ) (z:=6) (by decide) g.a g.d h0 (K:=fun e j r=>R10C (fun _=>True) j e r) (fun{i x} k=>by
     obtain⟨k3,r,k4⟩:=ih.1 k;exact⟨k3,r,k4.F fun j e h=>⟨h.D,h⟩⟩) h
    exact⟨v,l,Y,Z.F fun j u ⟨es,k1,k2,k3,k4⟩=>⟨es,k1,k2,Ja5 k3,k4⟩⟩
end
end Eva
namespace Eva
open Go Go.RowKit
variable {s o:Nat}{v:List (Str×Ty)}{t c:St}{z:List Str->Prop}{d p U:Pt->Prop}{r:List Ty}{q:Int}{f:List Str}{l w:List (List V)}{m:Str}{j:Ty}{u:Tb}{x:V}{y:Pt}{M:List Nat}{N:List (Str×Nat)}{X:List Nd}{Y:List V}{Z:V->St->Prop}
theorem JfL {Q:List Str->Prop}:∀{l:List Ty},(∀t∈l,noNm Q t)->QI Q l
 |[],_=>by rw[QI];trivial
 |t::r,h=>by rw[QI];exact⟨h t (Xu ..),JfL fun x a=>h x (Xi _ a)⟩
theorem Jdj {Q:List Str->Prop}:∀{l:List Ty},QI Q l->∀t∈l,noNm Q t
 |[],_,t,h=>by cases h
 | t::r,h,x,a=>by
   rw[QI]at h;rcases Xq.1 a with rfl|a
   ·exact h.1
   ·exact Jdj h.2 x a
theorem Ja8 :noNm z (.mk q m f r)<->z f/\QI z r:=by rw[noNm]
mutual
theorem JpO {n:Str}:∀(t:Ty),noNm (n∉·) t->fitT t=true->noNm (fun a=>n∉a/\a.length<1000) t
 | .mk k m a b,h,c=>by
   obtain⟨d,e⟩:=Ja8.1 h;obtain⟨g,i,f⟩:=Jaa c;exact Ja8.2 ⟨⟨d,by omega⟩,Jho b e f⟩
theorem Jho {n:Str}:∀(l:List Ty),QI (n∉·) l->qu l=true->QI (fun b=>n∉b/\b.length<1000) l
 |[],_,_=>by rw[QI];trivial
 | t::r,h,a=>by
   rw[QI]at h;rw[qu,Xk]at a;rw[QI];exact⟨JpO t h.1 a.1,Jho r h.2 a.2⟩
end
theorem cut9 {r:Pt}{k n:Nat}(h:k<=n)(b:St):QG b 1 (.m r 0 n 1 n) (some (.d .i64 (k:Nat))) none none=some (.m r k (n-k) 1 (n-k), .a):=by
 simp only[QG,Y0,JZ,Qw,Option.bind_eq_bind,HR,GM,ZS,Zu]
 grind
end Eva
