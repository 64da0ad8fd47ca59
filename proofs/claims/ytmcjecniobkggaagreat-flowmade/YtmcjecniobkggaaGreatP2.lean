/- The document's check answers as the program's. The types that raw trees make may be. Th -/
import Derived.Test.YtmcjecniobkggaaGreatP1
set_option linter.constructorNameAsVariable false
set_option linter.unusedVariables false
set_option linter.unusedSimpArgs false
set_option linter.unusedSectionVars false
set_option maxRecDepth 100000
namespace Eva
open Go Go.RowKit
variable {s o:Nat}{v:List (Str×Ty)}{t:List Str->Prop}{z q x:Pt->Prop}{d:List Ty}{r:Int}{p:List Str}{f:Ty}{l u:St}{m:Str}{j:Tb}{c:List V}{w:List Nd}{y:List Nat}{U:List (List V)}{M:V}{N:V->St->Prop}{X Y Z:TypeId}
mutual
theorem Jmr (a:Str->Bool)(k:Nat):∀(t:Ty) (d m:Nat),(mayS a t d (m+k)).1=0->(mayS a t d m).1=0/\(mayS a t d (m+k)).2=(mayS a t d m).2+k
 | .mk h n i f,d,m,e=>by
   rw[qf]at e⊢;rw[qf];by_cases g:400<m+k+1
   ·rw[Xd g]at e;cases e
   rw[Xa g]at e⊢;rw[Xa (show¬400<m+1 by omega)];by_cases c:12<d
   ·rw[Xd c]at e;cases e
   rw[Xa c]at e⊢;rw[Xa c];by_cases b:ownS a (.mk h n i f)≠0
   ·rw[Xd b]at e;exact absurd e b
   rw[Xa b]at e⊢;rw[Xa b];rw[show m+k+1=m+1+k by omega]at e⊢;exact Jjs a k f (d+1) (m+1) e
theorem Jjs (a:Str->Bool)(k:Nat):∀(b:List Ty) (d m:Nat),(JD a b d (m+k)).1=0->(JD a b d m).1=0/\(JD a b d (m+k)).2=(JD a b d m).2+k
 |[],d,m,e=>by rw[QU,QU];exact⟨rfl,rfl⟩
 | t::r,d,m,e=>by
   rw[Kg]at e;rw[Kg a t r d m,Kg a t r d (m+k)];by_cases c:(mayS a t d (m+k)).1=0
   ·obtain⟨f,g⟩:=Jmr a k t d m c;rw[Xa (fun h=>h c)]at e;rw[Xa (fun h=>h f),Xa (fun h=>h c)];rw[g]at e⊢;exact Jjs a k r d _ e
   ·rw[Xd c]at e;exact absurd e c
end
theorem Jjt {a:Str->Bool}(h:(mayS a f s o).1=0):(mayS a f s 0).1=0:=by
 have:=Jmr a o f s 0 (by grind);omega
theorem Jby (l:List (Str×Ty))(t:Ty)(h:t.A≠9):∀k,KP l k t=t
 |0=>rfl
 |k+1=>by rw[qJ,Xa h,Jby l t h k]
theorem Jju {l:List (Str×Ty)}{a:Str->Nat}(h:(l.map Prod.fst).Nodup)(e:∀p∈l,p.2.A=9->a p.2.B<a p.1)(j:∀p∈l,p.2.A=9->∃q∈l,q.1=p.2.B):
  ∀(f r:Nat) (t:Ty),(t.A=9->∃p∈l,p.1=t.B/\a p.1<r)->(l.filter fun p=>decide (a p.1<r)).length<=f->(KP l f t).A≠9
 | 0,r,t,g,m=>by
   rw[KP];intro b;obtain⟨p,c,i,d⟩:=g b;have:p∈l.filter fun p=>decide (a p.1<r):=Hf.2 ⟨c,Xo d⟩
   grind
 | f+1,r,t,g,m=>by
   by_cases b:t.A=9
   ·obtain⟨p,c,i,d⟩:=g b;rw[qJ,Xd b,<-i,Jmj h c];show(KP l f p.2).A≠9;refine Jju h e j f (a p.1) p.2 (fun k=> ?_) ?_
    ·grind
    ·have:(l.filter fun q=>decide (a q.1<a p.1)).length<(l.filter fun p=>decide (a p.1<r)).length:=
      JcQ (p:=fun q=>decide (a q.1<a p.1)) (q:=fun p=>decide (a p.1<r)) (x:=p) (fun x n=>Xo (Nat.lt_trans (X5 n) d)) (Xo d) (Xq (Z9 _)) c
     omega
   ·rw[Jby l t b];exact b
theorem JkI (l:List (Str×Ty))(t:Ty)(h:(KP l s t).A≠9):KP l (s+1) t=KP l s t:=by
 rw[je,Xa h]
structure Ends (l:List (Str×Ty)):Prop where
 c:(l.map Prod.fst).Nodup
 b:(JD (hasN l) (l.map Prod.snd) 1 0).1=0
 a:∀p∈l,finS l p.2=true
theorem Ends.A {l:List (Str×Ty)}(h:Ends l){t:Ty}(g:t.A=9->hasN l t.B=true):(KP l l.length t).A≠9:=by
 obtain⟨i,d⟩:=Jje h.c h.a;have closed:∀p∈l,p.2.A=9->∃q∈l,q.1=p.2.B:=fun p j k=>by
  have:=qQ (jh _ _ _ _ h.b) p.2 (XA.2 ⟨p,j,rfl⟩);generalize p.2=T at this k⊢;obtain⟨m,n,o,r⟩:=T;have k:m=9:=k;rw[KS,Xj,Zt]at this;rcases this.1 with h|h
  ·grind
  ·obtain⟨T,e⟩:=Jcd h;exact⟨_,e,rfl⟩
 by_cases f:t.A=9
 ·obtain⟨T,e⟩:=Jcd (g f);exact Jju h.c d closed l.length (i t.B+1) t (fun _=>⟨_,e,rfl,XK _⟩) (ZX _ _)
 ·rw[Jby l t f];exact f
mutual
theorem Jms {l:List (Str×Ty)}(h:Ends l):∀(t:Ty) (d m:Nat),(mayS (hasN l) t d m).1=0->Jba l t=YC l t
 | .mk k n j b,d,m,e=>by
   have f:=JcP _ _ _ _ e;have s:=Jfh _ _ _ _ e;rw[qf]at e;by_cases p:400<m+1
   ·rw[Xd p]at e;cases e
   rw[Xa p]at e;by_cases q:12<d
   ·rw[Xd q]at e;cases e
   rw[Xa q]at e;by_cases a:ownS (hasN l) (.mk k n j b)≠0
   ·rw[Xd a]at e;exact absurd e a
   rw[Xa a]at e;have a:ownS (hasN l) (.mk k n j b)=0:=by simpa using a
   rw[Ji9,Jjn,Jjv h b (d+1) (m+1) e];by_cases g:k=6
   ·have i:b.length=1:=by
     unfold ownS at a
     split at a
     ·cases a
     split at a
     ·cases a
     rename_i c
     have:b.length=KX (.mk k n j b):=Xf fun h=>c (.inl h);rw[this];unfold KX;exact Xd (.inr (.inr g))
    rw[Xd ⟨g,i⟩,Xd g];obtain⟨c,rfl⟩:∃c,b=[c]:=by
     match b,i with
     |[c],_=>exact⟨c,rfl⟩
    rw[KS,Xj]at f;have r:=qQ f.2 c (by simp);have:(KP l l.length c).A≠9:=h.A fun o=>by
     obtain⟨u,x,v,w⟩:=c;have o:u=9:=o;rw[KS,Xj,Zt]at r;rcases r.1 with h|h
     ·exact absurd o (X5 h)
     ·exact h
    rw[List.headD_cons,JkI l c this]
   ·rw[Xa (fun h=>g h.1),Xa g]
theorem Jjv {l:List (Str×Ty)}(h:Ends l):∀(a:List Ty) (d m:Nat),(JD (hasN l) a d m).1=0->jd l a=Jau l a
 |[],d,m,e=>by rw[jd,Jau]
 | t::r,d,m,e=>by
   rw[Kg]at e;by_cases c:(mayS (hasN l) t d m).1=0
   ·rw[Xa (fun h=>h c)]at e;rw[jd,Jau,Jms h t d m c,Jjv h r d _ e]
   ·rw[Xd c]at e;exact absurd e c
end
theorem Jjw (d:Str->Bool):∀(p:Option Str) (j:List Sg) (e:Nat),(Qs d p j e).1=0->∀f∈j,∃m,(JD d (f.a++[f.b]) 1 m).1=0
 |_,[],_,_,f,i=>by cases i
 | p,g::r,e,h,f,i=>by
   rw[Y2]at h
   split at h
   ·cases h
   split at h
   ·cases h
   split at h
   ·cases h
   split at h
   ·omega
   rename_i c
   rcases Xw.1 i with rfl|i
   ·grind
   ·exact Jjw d _ r _ h f i
theorem JqH {q:(Str×Ty)->Bool}:(v.filter q).length=v.length<->v.any (fun p=> !q p)=false:=by simp
theorem JqI (a:(JD (hasN v) (v.map Prod.snd) 1 0).1=0):(finR v (v.length+1) []).length=v.length<->v.any (fun p=> !finS v p.2)=false:=by
 rw[<-JqH];have e:(finR v (v.length+1) []).length=(v.filter fun p=>finS v p.2).length:=by
  rw[Qp];unfold Jbd;rw[XU];congr 1;refine List.filter_congr fun p b=> ?_;obtain⟨c,e⟩:=kW _ _ _ _ a p.2 (XA.2 ⟨p,b,rfl⟩);rw[JsE a (Jjt e),Jjo]
 rw[e]
theorem Jo7 (s:Sch):refS s=Qv s:=by
 rw[qe];unfold refS;by_cases i:12<s.a.length\/12<s.c.length
 ·omega
 rw[Xa i,Xa i];by_cases j:Kb none (s.a.map Prod.fst)≠0
 ·omega
 rw[Xa j,Xa j];by_cases g:(JD (hasN s.a) (s.a.map Prod.snd) 1 0).1≠0
 ·omega
 rw[Xa g,Xa g];by_cases u:(mayS (hasN s.a) s.b 1 (JD (hasN s.a) (s.a.map Prod.snd) 1 0).2).1≠0
 ·omega
 rw[Xa u,Xa u];by_cases k:(Qs (hasN s.a) none s.c (mayS (hasN s.a) s.b 1 (JD (hasN s.a) (s.a.map Prod.snd) 1 0).2).2).1≠0
 ·omega
 rw[Xa k,Xa k];have g:(JD (hasN s.a) (s.a.map Prod.snd) 1 0).1=0:=by omega
 have n:(s.a.map Prod.fst).Nodup:=qP (by omega);have o:=JqI g
 cases c:s.a.any (fun p=> !finS s.a p.2)with
 | true=>
   grind
 | false=>
   rw[Xa (fun h=>h (o.2 c)),Xa (show¬(false=true) by decide)];have w:Ends s.a:=⟨n,g,fun p z=>by
    grind⟩
   have v:∀t∈Qk s,∃m,(mayS (hasN s.a) t 1 m).1=0:=fun t d=>by
    unfold Qk at d;rcases Xy.1 d with d|d
    ·rcases Xy.1 d with d|d
     ·exact kW _ _ _ _ g t d
     grind
    ·obtain⟨K,i,j⟩:=List.mem_flatten.1 d;obtain⟨f,o,rfl⟩:=XA.1 i;obtain⟨m,q⟩:=Jjw _ _ _ _ (by simpa using k) f o;exact kW _ _ _ _ q t j
   rw[qK];have e:(Qk s).any (Jba s.a)=(Qk s).any (YC s.a):=by
    have x:∀l:List Ty,(∀t∈l,∃m,(mayS (hasN s.a) t 1 m).1=0)->l.any (Jba s.a)=l.any (YC s.a):=fun l=>by
     induction l with
     |nil=>simp
     | cons a r y=>
       intro h;obtain⟨m,q⟩:=h a (by simp);rw[Ga,Ga,Jms w a 1 m q,y fun t d=>h t (Xl _ d)]
    grind
   rw[e]
structure RT (Sb S:St) (ru:Pt) (lv tv:V) (rest:List V) (O:Pt->Prop) (nodes:List Nd) (trees:List Ty):Prop where
 g:Gr Sb S
 m:Sb.A ru= .none
 d:∃t,S.A ru= .a t (lv::tv::rest)
 l:∃es,SlF Sb S lv 4 es/\es.length=nodes.length/\∀i (h:i<es.length) (h':i<nodes.length),NdC O S es[i] nodes[i]
 t:∃es,SlF Sb S tv 4 es/\es.length=trees.length/\∀i (h:i<es.length) (h':i<trees.length),TyC (fun r=>Sb.A r≠ .none) S es[i] trees[i]
 f:∀r,rowOf lv=some r->rowOf tv≠some r/\r≠ru
 j:∀r,rowOf tv=some r->r≠ru
 o:∀r,O r->S.A r≠ .none/\Sb.A r= .none/\r≠ru/\rowOf lv≠some r/\rowOf tv≠some r
def Bt (ru:Pt)(lv tv:V)(O:Pt->Prop)(r:Pt):Prop:=r=ru\/rowOf lv=some r\/rowOf tv=some r\/O r
structure Kp (B B':Pt->Prop) (st S:St):Prop where
 c:∀r,st.A r≠ .none->¬B r->S.A r=st.A r
 d:∀r,B' r->B r\/st.A r= .none
theorem Kp.G {B:Pt->Prop}(g:Gr l u):Kp B B l u:=⟨fun r e _=>g.d r e,fun _ h=> .inl h⟩
theorem Kp.A {B a:Pt->Prop}{st S:St}(h:Kp B a st S){r:Pt}(e:S.A r= .none):B r\/st.A r= .none:=by
 by_cases b:B r
 ·grind
 ·exact .inr (Xf fun n=>n ((h.c r n b)▸e))
theorem Kp.D {B:Pt->Prop}{g:St}(h:Kp B q l u)(k:Kp q x u g):Kp B x l g:=by
 refine⟨fun r e b=> ?_,fun r e=> ?_⟩
 ·have a:=h.c r e b;rw[k.c r (by grind) fun f=>(h.d r f).elim b e,a]
 ·rcases k.d r e with f|f
  ·exact h.d r f
  ·exact h.A f
section
variable {Sb st S S' : St} {ru : Pt} {lv tv lv' tv' lv'' tv'' : V} {rest : List V} {O O' O'' : Pt -> Prop} {nodes : List Nd} {trees : List Ty}
theorem RT.D (h:RT Sb S ru lv tv rest O nodes trees)(g:Gr Sb S')(k:∀r,r=ru\/rowOf lv=some r\/rowOf tv=some r\/O r->S'.A r=S.A r):RT Sb S' ru lv tv rest O nodes trees:=by
 obtain⟨n,l1,l2,l3⟩:=h.l;obtain⟨q,t1,t2,t3⟩:=h.t;obtain⟨t,c⟩:=h.d;refine⟨g,h.m,⟨t,by grind⟩,⟨n,l1.B fun r e=>k r (.inr (.inl e)),l2,fun i a b=>(l3 i a b).A fun r p _=>⟨p,k r (.inr (.inr (.inr p)))⟩⟩,⟨q,t1.B fun r e=>k r (.inr (.inr (.inl e))),t2,fun i a b=>(t3 i a b).A fun r p _=>⟨p,by rw[g.d r p,h.g.d r p]⟩⟩,h.f,h.j,fun r p=> ?_⟩;obtain⟨a,b⟩:=h.o r p
 grind
theorem RT.A (h:RT Sb S ru lv tv rest O nodes trees):∀r,r=ru\/rowOf lv=some r\/rowOf tv=some r\/O r->S.A r≠ .none:=fun r e=>by
 obtain⟨a,l1,_⟩:=h.l;obtain⟨b,t1,_⟩:=h.t;obtain⟨t,c⟩:=h.d;rcases e with rfl|e|e|e
 ·grind
 ·exact l1.A e
 ·exact t1.A e
 ·exact(h.o r e).1
theorem RT.I (h:RT Sb S ru lv tv rest O nodes trees)(g:Gr S S'):RT Sb S' ru lv tv rest O nodes trees:=h.D (h.g.B g) fun r e=>g.d r (h.A r e)
end
structure KZ (nodes:List Nd) (trees:List Ty):Prop where
 a:trees.length=nodes.length
 b:∀i (h:i<trees.length),Kh nodes trees[i]=some i
 d:∀t∈trees,fitT t=true
 c:nodes.length<=120
theorem KZ.F :KZ [] []:=⟨rfl,fun i h=>absurd h (by simp),fun t h=>(nomatch h),XC _⟩
theorem KZ.D {g:List Ty}(h:KZ w g){i:Nat}(j:i<g.length):g[i]=f<->Kh w f=some i:=by
 constructor
 ·intro e;rw[<-e];exact h.b i j
 ·intro e;exact Jfb (h.b i j) e
theorem KZ.A {f:List Ty}(h:KZ w f){j:List Ty}(l:JT w j=some y)(o:idx ⟨r,m,p,y⟩ w 0=none)(s:fitT (.mk r m p j)=true)(u:w.length<120):KZ (w++[⟨r,m,p,y⟩]) (f++[.mk r m p j]):=by
 refine⟨by simp[h.a],fun i v=> ?_,fun t g=> ?_,by grind⟩
 ·by_cases e:i<f.length
  ·rw[Xx e];exact Y1 _ (h.b i e)
  ·have q:i=f.length:=by grind
   subst q;rw[XG (Xb _)];simp;rw[Kh,kV _ l];simp;rw[JhG o,ZD,h.a]
 ·rcases Xy.1 g with g|g
  ·exact h.d t g
  grind
theorem Jo8 {left:Int}(h:(JB (f::d) left j).2.2.1=0):
  (addT f left j).2.2.1=0/\(JB d (addT f left j).2.2.2 (addT f left j).1).2.2.1=0/\(JB (f::d) left j).1=(JB d (addT f left j).2.2.2 (addT f left j).1).1/\(JB (f::d) left j).2.1=(addT f left j).2.1::(JB d (addT f left j).2.2.2 (addT f left j).1).2.1:=by
 rw[Kr]at h⊢
 grind
theorem JqJ {left:Int}(h:(addT (.mk r m p d) left j).2.2.1=0):
  d.length<=8/\p.length<=8/\(JB d (left-1) j).2.2.1=0/\(layS (JB d (left-1) j).1 ⟨r,m,p,(JB d (left-1) j).2.1⟩).2.2=0/\(addT (.mk r m p d) left j).1=(layS (JB d (left-1) j).1 ⟨r,m,p,(JB d (left-1) j).2.1⟩).1/\(addT (.mk r m p d) left j).2.1=(layS (JB d (left-1) j).1 ⟨r,m,p,(JB d (left-1) j).2.1⟩).2.1:=by
 rw[Qu]at h⊢
 grind
structure Kz (O O' B B':Pt->Prop) (st S:St):Prop extends Kp B B' st S where
 a:∀r,O r->O' r/\S.A r=st.A r
theorem Kz.I {B c b:Pt->Prop}{d:St}(h:Kz z q B c l u)(k:Kz q x c b u d):Kz z x B b l d:=
 ⟨h.toKp.D k.toKp,fun r e=>⟨(k.a r (h.a r e).1).1,by rw[(k.a r (h.a r e).1).2,(h.a r e).2]⟩⟩
theorem Kz.J {B:Pt->Prop}{st:St}(h:∀r,z r->st.A r≠ .none)(g:Gr st l):Kz z z B B st l:=⟨Kp.G g,fun r e=>⟨e,g.d r (h r e)⟩⟩
theorem Kz.L {B b:Pt->Prop}(h:Kz z q B b l u):Kz z (fun _=>True) B (fun _=>False) l u:=⟨⟨h.c,fun r e=>e.elim⟩,fun r e=>⟨trivial,(h.a r e).2⟩⟩
def Own5 (S:St)(B W:Pt->Prop):Prop:=∀r,W r->S.A r≠ .none/\¬B r
section
variable {Sb st S S' : St} {ru : Pt} {lv tv lv' tv' lv'' tv'' : V} {rest : List V} {O O' O'' W W' B B' B'' : Pt -> Prop} {nodes : List Nd} {trees : List Ty}
theorem Own5.A (h:Own5 S B W)(k:Kp B B' S S'):Own5 S' B' W/\∀r,W r->S'.A r=S.A r:=by
 have e:∀r,W r->S'.A r=S.A r:=fun r w=>k.c r (h r w).1 (h r w).2;exact⟨fun r w=>⟨by rw[e r w];exact(h r w).1,fun x=>(k.d r x).elim (h r w).2 (h r w).1⟩,e⟩
theorem RT.J (h:RT Sb S ru lv tv rest O nodes trees)(o:Own5 S (Bt ru lv tv O) W)(g:Gr Sb S')(k:∀r,S.A r≠ .none->¬W r->S'.A r=S.A r):RT Sb S' ru lv tv rest O nodes trees:=
 h.D g fun r e=>k r (h.A r e) fun w=>(o r w).2 e
theorem Kp.F (h:Kp B B' st S)(a:∀r,W r->B r\/st.A r= .none)(k:∀r,S.A r≠ .none->¬W r->S'.A r=S.A r):Kp B B' st S':=
 ⟨fun r e b=>by rw[k r (by rw[h.c r e b];exact e) fun w=>(a r w).elim b e,h.c r e b],h.d⟩
theorem SlF.L (h:SlF st S M s U):SlAt (fun r=>rowOf M=Option.some r) S M s U:=by
 have a:=h.D;refine⟨a.1, ?_⟩;rcases h.2 with c|⟨r,t,c,e,d⟩
 ·grind
 ·have f:rowOf M=Option.some r:=by rcases d with rfl|rfl<;>rfl
  rcases a.2 with b|⟨q,o,g,i,j⟩
  ·grind
  grind
structure Mid5 (Sb st S:St) (ru p3 p6:Pt) (lv tv lv' tv':V) (rest:List V) (O O':Pt->Prop) (nodes:List Nd) (trees:List Ty) (c3 c6:List V) (v1 kv:V) (ns:List Str) (ids:List Nat):Prop where
 c:RT Sb S ru lv' tv' rest O' nodes trees
 f:Kz O O' (Bt ru lv tv O) (Bt ru lv' tv' O') st S
 d:Own5 S (Bt ru lv' tv' O') fun r=>r=p3\/r=p6\/rowOf v1=Option.some r\/rowOf kv=Option.some r
 s:∃t,S.A p3= .a t c3
 u:∃t,S.A p6= .a t (c6++[v1,kv])
 l:SlF Sb S v1 1 (strs ns)
 m:SlF Sb S kv 1 (ints ids)
 B:∀r,rowOf v1=Option.some r\/rowOf kv=Option.some r->Bt ru lv tv O r\/st.A r= .none
 j:∀r,rowOf kv=Option.some r->r≠p3/\r≠p6/\rowOf v1≠Option.some r
 v:∀r,rowOf v1=Option.some r->r≠p3/\r≠p6
 z:p3≠p6
 H:st.A p3= .none
 I:st.A p6= .none
section
variable {p3 p6 : Pt} {c3 c6 : List V} {v1 kv kv' : V} {ns : List Str} {ids : List Nat} {nodes' : List Nd} {trees' : List Ty}
theorem Mid5.A (h:Mid5 Sb st S ru p3 p6 lv tv lv' tv' rest O O' nodes trees c3 c6 v1 kv ns ids)(r:RT Sb S' ru lv'' tv'' rest O'' nodes' trees')(k:Kz O' O'' (Bt ru lv' tv' O') (Bt ru lv'' tv'' O'') S S'):
  Mid5 Sb st S' ru p3 p6 lv tv lv'' tv'' rest O O'' nodes' trees' c3 c6 v1 kv ns ids:=by
 obtain⟨o,e⟩:=h.d.A k.toKp;obtain⟨t3,r3⟩:=h.s;obtain⟨t6,r6⟩:=h.u;exact{h with c:=r,f:=h.f.I k,d:=o,s:=⟨t3,by grind⟩,u:=⟨t6,by grind⟩,l:=h.l.B fun r a=>e r (.inr (.inr (.inl a))),m:=h.m.B fun r a=>e r (.inr (.inr (.inr a)))}
theorem Mid5.G (h:Mid5 Sb st S ru p3 p6 lv tv lv' tv' rest O O' nodes trees c3 c6 v1 kv ns ids)(g:Gr S S'):Mid5 Sb st S' ru p3 p6 lv tv lv' tv' rest O O' nodes trees c3 c6 v1 kv ns ids:=
 h.A (h.c.I g) (Kz.J (fun r e=>(h.c.o r e).1) g)
theorem Mid5.D {S1 p:St}(h:Mid5 Sb st S ru p3 p6 lv tv lv' tv' rest O O' nodes trees c3 c6 v1 kv ns ids){id:Nat}
  (M:SlF Sb S1 kv' 1 (ints (ids++[id]))) (K:rowOf kv'=Option.some S.b) (N:∀r,S.A r≠ .none->rowOf kv≠Option.some r->S1.A r=S.A r) (L:∀r,r≠p6->p.A r=S1.A r)
  (Q:∃t,p.A p6= .a t (c6++[v1,kv'])) (g:Gr Sb p):Mid5 Sb st p ru p3 p6 lv tv lv' tv' rest O O' nodes trees c3 c6 v1 kv' ns (ids++[id]):=by
 have P:S.b≠p6:=fun e=>by
  obtain⟨t,r⟩:=h.u;have:=J9 h.c.g.D
  grind
 have T:S.b≠p3:=fun e=>by
  obtain⟨t,r⟩:=h.s;have:=J9 h.c.g.D
  grind
 have i:S.A S.b= .none:=J9 h.c.g.D;have k:∀r,S.A r≠ .none->¬(r=p3\/r=p6\/rowOf v1=Option.some r\/rowOf kv=Option.some r)->p.A r=S.A r:=fun r e n=>by grind
 have w:∀r,(r=p3\/r=p6\/rowOf v1=Option.some r\/rowOf kv=Option.some r)->Bt ru lv tv O r\/st.A r= .none:=fun r e=>by
  rcases e with rfl|rfl|e|e
  ·exact .inr h.H
  ·exact .inr h.I
  ·exact h.B r (.inl e)
  ·exact h.B r (.inr e)
 obtain⟨t3,r3⟩:=h.s;have W:p.A p3=S.A p3:=by
  rw[L _ h.z,N _ (Jb r3) fun x=>(h.j _ x).1 rfl]
 have U:∀r,rowOf v1=Option.some r->p.A r=S.A r:=fun r x=>by
  rw[L _ (h.v r x).2,N _ (h.l.A x) fun y=>(h.j _ y).2.2 x]
 refine{h with c:=h.c.J h.d g k,f:=⟨h.f.toKp.F w k,fun r e=>⟨(h.f.a r e).1,by rw[k r (h.c.o r (h.f.a r e).1).1 fun x=>(h.d r x).2 (.inr (.inr (.inr (h.f.a r e).1))),(h.f.a r e).2]⟩⟩,d:=fun r e=> ?_,s:=⟨t3,by grind⟩,u:=Q,l:=h.l.B U,m:=M.B fun r e=>L r fun x=>by grind,j:=fun r e=> ?_,B:=fun r e=> ?_}
 ·rcases e with e|e|e|e
  ·have a:=h.d r (.inl e)
   grind
  ·have a:=h.d r (.inr (.inl e))
   grind
  ·have a:=h.d r (.inr (.inr (.inl e)))
   grind
  ·rw[K]at e;injection e with e;subst e;have q:=h.c.A;exact⟨by rw[L _ P];exact M.A K,fun x=>q _ x i⟩
 ·rcases e with e|e
  ·grind
  ·rw[K]at e;injection e with e;subst e;exact h.f.A i
 ·rw[K]at e;injection e with e;subst e;exact⟨T,P,fun x=>h.l.A x i⟩
theorem Mid5.F {k:Int}{n:Str}{w:V}{y:List (List V)}{E:List V}{X:Ty}(h:Mid5 Sb st S ru p3 p6 lv tv lv' tv' rest O O' nodes trees c3 c6 v1 kv ns ids)
  (g:Gr Sb S') (Y:∃t,S'.A ru= .a t (M::w::rest))
  (l1:U.length=nodes.length) (l2:∀i (a:i<U.length) (b:i<nodes.length),NdC O' S U[i] nodes[i]) (l5:SlF Sb S' M 4 (U++[[.d .i64 k,ofL n,v1,kv]]))
  (t1:y.length=trees.length) (t2:∀i (a:i<y.length) (b:i<trees.length),TyC (fun r=>Sb.A r≠ .none) S y[i] trees[i]) (t9:SlF Sb S' w 4 (y++[E])) (Z:TyC (fun r=>Sb.A r≠ .none) S E X)
  (r5:∀r,rowOf M=Option.some r->S.A r= .none) (r9:∀r,rowOf w=Option.some r->S.A r= .none) (P:∀r,rowOf M=Option.some r->rowOf w≠Option.some r)
  (keep:∀p,S.A p≠ .none->p≠ru->rowOf lv'≠Option.some p->rowOf tv'≠Option.some p->S'.A p=S.A p):
  RT Sb S' ru M w rest (fun r=>O' r\/rowOf v1=Option.some r\/rowOf kv=Option.some r) (nodes++[⟨k,n,ns,ids⟩]) (trees++[X])/\Kz O (fun r=>O' r\/rowOf v1=Option.some r\/rowOf kv=Option.some r) (Bt ru lv tv O) (Bt ru M w fun r=>O' r\/rowOf v1=Option.some r\/rowOf kv=Option.some r) st S':=by
 have K:=h.c.A;have T:∀r,(O' r\/rowOf v1=Option.some r\/rowOf kv=Option.some r)->S.A r≠ .none/\Sb.A r= .none/\r≠ru/\rowOf lv'≠Option.some r/\rowOf tv'≠Option.some r:=fun r e=>by
  rcases e with e|e|e
  ·exact h.c.o r e
  ·have a:=h.d r (.inr (.inr (.inl e)));exact⟨a.1,(h.l.H e).1,fun x=>a.2 (.inl x),fun x=>a.2 (.inr (.inl x)),fun x=>a.2 (.inr (.inr (.inl x)))⟩
  ·have a:=h.d r (.inr (.inr (.inr e)));exact⟨a.1,(h.m.H e).1,fun x=>a.2 (.inl x),fun x=>a.2 (.inr (.inl x)),fun x=>a.2 (.inr (.inr (.inl x)))⟩
 have q:∀r,(O' r\/rowOf v1=Option.some r\/rowOf kv=Option.some r)->S'.A r=S.A r:=fun r e=>by grind
 have W:∀r,Sb.A r≠ .none->S'.A r=S.A r:=fun r e=>by rw[g.d r e,h.c.g.d r e]
 refine⟨⟨g,h.c.m,Y,⟨_,l5,by simp[l1],fun i a b=> ?_⟩,⟨_,t9,by simp[t1],fun i a b=> ?_⟩,fun r e=>⟨P r e,fun x=>K r (.inl x) (r5 r e)⟩,fun r e x=>K r (.inl x) (r9 r e),fun r e=> ?_⟩,⟨⟨fun r e b=> ?_,fun r e=> ?_⟩,fun r e=>⟨.inl (h.f.a r e).1,by rw[q r (.inl (h.f.a r e).1),(h.f.a r e).2]⟩⟩⟩
 ·by_cases N:i<U.length
  ·rw[Xx N,Xx (by omega)];exact(l2 i N (by omega)).A fun r p _=>⟨.inl p,q r (.inl p)⟩
  ·have e:i=U.length:=by grind
   subst e;rw[XG (Xb _),XG (by omega)];simp[l1];exact⟨v1,kv,rfl,h.l.L.D fun r p _=>⟨.inr (.inl p),q r (.inr (.inl p))⟩,h.m.L.D fun r p _=>⟨.inr (.inr p),q r (.inr (.inr p))⟩⟩
 ·by_cases N:i<y.length
  ·rw[Xx N,Xx (by omega)];exact(t2 i N (by omega)).A fun r p _=>⟨p,W r p⟩
  ·have e:i=y.length:=by grind
   subst e;rw[XG (Xb _),XG (by omega)];simp[t1];exact Z.A fun r p _=>⟨p,W r p⟩
 ·grind
 ·have al:=h.f.c r e b;have Q:¬Bt ru lv' tv' O' r:=fun x=>(h.f.d r x).elim b e;rw[keep r (by grind) (fun x=>Q (.inl x)) (fun x=>Q (.inr (.inl x))) (fun x=>Q (.inr (.inr (.inl x)))),al]
 ·rcases e with e|e|e|e|e|e
  ·exact h.f.d r (.inl e)
  ·exact h.f.A (r5 r e)
  ·exact h.f.A (r9 r e)
  ·exact h.f.d r (.inr (.inr (.inr e)))
  ·exact h.B r (.inl e)
  ·exact h.B r (.inr e)
end
end
end Eva
namespace Eva
open Go Go.RowKit
variable {s o:Nat}{v:List (Str×Ty)}{t:List Str->Prop}{z q x:Pt->Prop}{d:List Ty}{r:Int}{p:List Str}{f:Ty}{l u:St}{m:Str}{j:Tb}{c:List V}{w:List Nd}{y:List Nat}{U:List (List V)}{M:V}{N:V->St->Prop}{X Y Z:TypeId}
theorem JqK {o:V}{R:V->St->Prop}(w:WF l)(h:wW (appV l s M o) l R):wW (appV l s M o) l fun j q=>R j q/\∀p,l.A p≠ .none->q.A p≠ .none:=by
 have m:∀(f:Nat->List V) p,l.A p≠ .none->(l.B fun t=> .a t (f t)).A p≠ .none:=fun f p g=>by rw[KC w _ g];exact g
 have x:∀(f:Nat->Row) (y:∀u,f u≠ .none) r t p,l.A p≠ .none->(l.D r t f).A p≠ .none:=fun f y r t p g=>by
  by_cases e:p=r
  ·rw[J6,Xd e];grind
  ·rw[Ji _ _ _ e];exact g
 have K:∀(f:Nat->List V) r t,l.A r≠ .none->(l.A r).A=t->∀p,l.A p≠ .none->((l.D r t .c).B fun t=> .a t (f t)).A p≠ .none:=fun f r t n L p g=>by
  have w2:WF (l.D r t .c):=(Q9 w n L fun u=>⟨rfl,fun e=>by cases e⟩).wf;have a:=x .c (fun u e=>by cases e) r t p g;rw[KC w2 _ a];exact a
 have N:∀k i b j e,JI l s k i b=some (j,e)->∀p,l.A p≠ .none->(l.I e).A p≠ .none:=by
  intro k i b j e d p g;unfold JI at d
  split at d
  ·split at d
   ·injection d with d;injection d with _ d;subst d;exact g
   grind
  split at d
  ·injection d with d;injection d with _ d;subst d;exact m _ p g
  ·split at d
   ·cases d
   split at d
   ·rename_i n
    split at d
    ·injection d with d;injection d with _ d;subst d;exact K _ _ _ (Jb n) (by rw[n];rfl) p g
    grind
   grind
  ·split at d
   ·cases d
   split at d
   ·rename_i n
    split at d
    ·split at d
     ·split at d
      ·injection d with d;injection d with _ d;subst d;exact x _ (fun u e=>by cases e) _ _ p g
      grind
     ·injection d with d;injection d with _ d;subst d;exact m _ p g
    grind
   grind
  grind
 unfold wW at h⊢
 split at h
 ·rename_i j e d
  refine⟨h, ?_⟩;unfold appV at d
  grind
 omega
theorem JsF {x:Option (V×Eff)}{R Q:V->St->Prop}(h:wW x l R)(k:∀v S,R v S->Q v S):wW x l Q:=by
 unfold wW at h⊢
 grind
def JdD (k:Int)(n:Str)(ns:List Str)(r:List Ty)(li:Int)(tb:Tb)(ids:List Nat):Int:=
 if(JB r li tb).2.2.1≠0 then(JB r li tb).2.2.1 else(layS (JB r li tb).1 ⟨k,n,ns,ids++(JB r li tb).2.1⟩).2.2
theorem Jm9 {left:Int}(a:fitT (.mk r m p d)=true)(b:(QO (.mk r m p d):Int)<=left):(addT (.mk r m p d) left j).2.2.1=JdD r m p d (left-1) j []:=by
 obtain⟨c,e,_⟩:=JaO a;rw[QO]at b;rw[Qu,Xa (by omega)];unfold JdD
 grind
theorem JkJ {a:Int}(h:(addT f a j).2.2.1=0):JdD r m p (f::d) a j y=JdD r m p d (addT f a j).2.2.2 (addT f a j).1 (y++[(addT f a j).2.1]):=by
 unfold JdD;rw[Kr]
 grind
theorem JkK {b:Int}(h:JdD r m p [] b j y≠0):idx ⟨r,m,p,y⟩ j.a 0=none/\120<=j.a.length:=by
 unfold JdD at h;rw[KU]at h;simp at h;have c:layS j ⟨r,m,p,y⟩=match idx ⟨r,m,p,y⟩ j.a 0 with
  |some i=>(j,i,0)
  |none=>if 120<=j.a.length then(j,0,20)else({j with a:=j.a++[⟨r,m,p,y⟩]},j.a.length,0):=rfl
 grind
theorem Jfj {l:List Nd}{t:Ty}{i:Nat}(c:Kh l t=some i):∀{d:List Ty} {b:List Nat},JT l d=some b->JT l (d++[t])=some (b++[i])
 | [],b,h=>by
   rw[JT]at h;injection h with h;subst h;rw[XT,JT,c,JT];rfl
 | a::r,b,h=>by
   obtain⟨x,y,rfl,e,f⟩:=Qy h;rw[X4,JT,e,Jfj c f];rfl
mutual
theorem Jmt (d:Str->Bool):∀(t:Ty) (a f:Nat),(mayS d t a f).1=0->fitT t=true
 | .mk k n i b,a,f,h=>by
   rw[qI]at h
   split at h
   ·cases h
   split at h
   ·cases h
   split at h
   ·cases h
   split at h
   ·cases h
   rename_i c
   split at h
   ·cases h
   split at h
   ·rename_i c;exact absurd h c
   rename_i m
   have o:b.length=KX (.mk k n i b):=Xf fun e=>c (.inl e);have j:KH (.mk k n i b)=0:=by simpa using m
   have g:i.length<=8:=by
    unfold KH at j;by_cases e:8<(Ty.mk k n i b).D.length
    ·rw[Xd e]at j;cases j
    ·exact Nat.le_of_not_lt e
   have l:b.length<=8:=by
    rw[o];unfold KX
    split
    ·omega
    ·split
     ·exact g
     ·omega
   rw[fitT,Jjx d b _ _ h];simp[g,l]
theorem Jjx (b:Str->Bool):∀(l:List Ty) (a d:Nat),(JD b l a d).1=0->ji l=true
 |[],_,_,_=>by rw[ji]
 | t::r,a,d,h=>by
   rw[Kg]at h
   split at h
   ·rename_i c;exact absurd h c
   rename_i c
   have c:(mayS b t a d).1=0:=by simpa using c
   rw[ji,Jmt b t _ _ c,Jjx b r _ _ h];rfl
end
mutual
theorem Jjy :∀t:Ty,QO t=cntT t
 | .mk k n b a=>by rw[QO,Ys,JgY a];omega
theorem JgY :∀l:List Ty,Qx l=j8 l
 |[]=>by rw[Qx,JgF]
 |t::r=>by rw[Qx,jf,Jjy t,JgY r]
end
theorem JkL {s:Sch}(h:Qv s=0):(∀p∈s.a,fitT p.2=true/\(QO p.2:Int)<=400)/\fitT s.b=true/\(QO s.b:Int)<=400:=by
 obtain⟨_,_,_,f,g,_⟩:=JaN h;have c:∀{t:Ty} {m:Nat},(mayS (hasN s.a) t 1 m).1=0->fitT t=true/\(QO t:Int)<=400:=fun{t m} e=>by
  have d:=Jjt e;have j:=Jao _ _ _ _ d;have k:=(QN (hasN s.a) t 1 0 (by decide)).2 d;exact⟨Jmt _ _ _ _ d,by rw[Jjy];omega⟩
 refine⟨fun p i=> ?_,c g⟩;obtain⟨m,l⟩:=kW _ _ _ _ f p.2 (XA.2 ⟨p,i,rfl⟩)
 grind
theorem Jjz (h:(addT f 400 j).2.2.1≠0):(Jq ((m,f)::v) j).2=(addT f 400 j).2.2.1:=by rw[Jq,Xd h]
theorem JkM (h:(addT f 400 j).2.2.1=0):Jq ((m,f)::v) j=Jq v {(addT f 400 j).1 with c:=setI m (addT f 400 j).2.1 (addT f 400 j).1.c}:=by rw[Jq,Xa fun c=>c h]
theorem Jbz {left:Int}(h:(addT f left j).2.2.1=0):∃r,(addT f left j).1.a=j.a++r:=by
 obtain⟨r,a,_⟩:=Yt f h
 grind
mutual
def noNm (Q:List Str->Prop):Ty->Prop
 | .mk _ _ ns ks=>Q ns/\QI Q ks
def QI (Q:List Str->Prop):List Ty->Prop
 |[]=>True
 |t::r=>noNm Q t/\QI Q r
end
mutual
theorem JcV {Q:List Str->Prop}:∀(t:Ty) {left:Int} {tb:Tb},noNm Q t->(∀g∈tb.a,Q g.b)->∀g∈(addT t left tb).1.a,Q g.b
 | .mk k m j l,left,tb,h,n=>by
   rw[noNm]at h;rw[Qu]
   split
   ·exact n
   have f:=Jfk l (left:=left-1) (tb:=tb) h.2 n;generalize JB l (left-1) tb=x at f;obtain⟨t1,d,e,l1⟩:=x;simp only at f⊢
   split
   ·exact f
   ·have o:layS t1 ⟨k,m,j,d⟩=match idx ⟨k,m,j,d⟩ t1.a 0 with
     |some i=>(t1,i,0)
     |none=>if 120<=t1.a.length then(t1,0,20)else({t1 with a:=t1.a++[⟨k,m,j,d⟩]},t1.a.length,0):=rfl
    rw[o]
    split
    ·exact f
    ·split
     ·exact f
     ·intro g c;rcases Xy.1 c with c|c
      ·exact f g c
      ·rw[Xn.1 c];exact h.1
theorem Jfk {Q:List Str->Prop}:∀(g:List Ty) {left:Int} {tb:Tb},QI Q g->(∀d∈tb.a,Q d.b)->∀d∈(JB g left tb).1.a,Q d.b
 |[],left,tb,_,f=>by rw[KU];exact f
 | t::r,left,tb,h,f=>by
   rw[QI]at h;rw[Kr];have c:=JcV t (left:=left) (tb:=tb) h.1 f;generalize addT t left tb=x at c;obtain⟨t1,i,e,l1⟩:=x;simp only at c⊢
   split
   ·exact c
   ·exact Jfk r (left:=l1) (tb:=t1) h.2 c
end
theorem Jci {Q:List Str->Prop}:∀(l:List (Str×Ty)) {c:Tb},(∀p∈l,noNm Q p.2)->(∀d∈c.a,Q d.b)->∀d∈(Jq l c).1.a,Q d.b
 |[],c,_,e=>by rw[Jq];exact e
 | (m,t)::r,c,h,e=>by
   have f:=JcV t (left:=400) (h (m,t) (Xu ..)) e;rw[Jq]
   split
   ·exact f
   ·exact Jci r (fun p g=>h p (Xl _ g)) f
theorem Jo9 {Q:List Str->Prop}{s:Sch}(g:s.c=[])(h:newS s=(some j,r))(i:noNm Q s.b)(k:∀p∈s.a,noNm Q p.2):∀f∈j.a,Q f.b:=by
 rw[Jcb,g]at h
 split at h
 ·grind
 split at h
 ·grind
 split at h
 ·grind
 split at h
 ·grind
 injection h with h _;injection h with h;rw[Kc]at h;subst h;exact JcV s.b i (Jci s.a k fun f d=>by cases d)
theorem Jmu {T:Table}{c:C}{a:Fr}{Q:Out->Prop}(h:∀S',S'=l->wC T s c a S' Q):wC T s c a l Q:=h l rfl
structure Rn where
 f:Pt->Pt
 s:Nat->V
instance : CoeFun Rn fun _=>Pt->Pt:=⟨Rn.f⟩
def Rn.A (φ:Rn):Prop:=∀i,∃k n,φ.s i= .d k n
mutual
def mv (φ:Rn):V->V
 | .e r o=> .e (φ r) o
 | .u r o n z=> .u (φ r) o n z
 | .m r o n z c=> .m (φ r) o n z c
 | .q r=> .q (φ r)
 | .D f a b=> .D f (mvs φ a) (mvs φ b)
 | .j l=> .j (mvs φ l)
 | .p l=> .p (mvs φ l)
 | .h b=> .h b
 | .d k n=> .d k n
 | .t n v=> .t n v
 | .s=> .s
 | .g=> .g
 | .w=> .w
 | .x=> .x
 | .y=> .y
 | .F i=>φ.s i
def mvs (φ:Rn):List V->List V
 |[]=>[]
 |x::r=>mv φ x::mvs φ r
end
mutual
def closed :V->Bool
 | .e _ _=>false
 | .u _ _ _ _=>false
 | .m _ _ _ _ _=>false
 | .q _=>false
 | .D _ a b=>kK a&&kK b
 | .j l=>kK l
 | .p l=>kK l
 | .F _=>false
 |_=>true
def kK :List V->Bool
 |[]=>true
 |x::r=>closed x&&kK r
end
section
variable (φ : Rn)
mutual
theorem Jna :∀v:V,closed v=true->mv φ v=v
 | .e _ _,h=>by simp[closed]at h
 | .u _ _ _ _,h=>by simp[closed]at h
 | .m _ _ _ _ _,h=>by simp[closed]at h
 | .q _,h=>by simp[closed]at h
 | .D _ a b,h=>by
   rw[closed,Xj]at h;rw[mv,jm a h.1,jm b h.2]
 | .j l,h=>by rw[closed]at h;rw[mv,jm l h]
 | .p l,h=>by rw[closed]at h;rw[mv,jm l h]
 | .h _,_=>by rw[mv]
 | .d _ _,_=>by rw[mv]
 | .t _ _,_=>by rw[mv]
 | .s,_=>by rw[mv]
 | .g,_=>by rw[mv]
 | .w,_=>by rw[mv]
 | .x,_=>by rw[mv]
 | .y,_=>by rw[mv]
 | .F _,h=>by simp[closed]at h
theorem jm :∀l:List V,kK l=true->mvs φ l=l
 |[],_=>by rw[mvs]
 | x::r,h=>by
   rw[kK,Xj]at h;rw[mvs,Jna x h.1,jm r h.2]
end
section
variable (hφ : φ.A)
include hφ
end
def mv2 (p:V×V):V×V:=(mv φ p.1,mv φ p.2)
end
def TR (i0 i t u:Nat):Prop:=(t<i0/\u<i)\/∃k,t=i0+k/\u=i+k
def RowE (φ:Rn)(T:Nat->Nat->Prop):Row->Row->Prop
 | .none,x=>x= .none
 | .a t l,x=>∃u,x= .a u (l.map (mv φ))/\T t u
 | .c t,x=>x≠ .none/\T t x.A
 | .b t es,x=>∃u,x= .b u (es.map (mv2 φ))/\T t u
 | .e t n v p,x=>∃u,x= .e u n v p/\T t u
 | .d t m n c,x=>∃u,x= .d u (m.map φ) n c/\T t u
 | .f l,x=>x= .f (l.map (mv φ))
structure Emb (φ:Rn) (n0 i0 i:Nat) (a b:St):Prop where
 c:φ.A
 inj:∀p q,φ p=φ q->p=q
 f:∀p,n0<=p.A->φ p.F=(φ p).F
 g:n0<=a.b.A
 h:b.b=φ a.b
 t:∃k,a.t=i0+k/\b.t=i+k
 d:0<i0->0<i
 e:∀p,RowE φ (TR i0 i) (a.A p) (b.A (φ p))
 wf:WF b
def LowE (g:Bool)(i0 i:Nat)(a b:St):Prop:=g=true->TR i0 i a.a b.a
structure Stp (φ:Rn) (a b a' b':St):Prop where
 c:∀s,b.A s≠ .none->(∀p,a.A p≠ .none->φ p≠s)->b'.A s=b.A s
 d:∀s,b.A s≠ .none->b'.A s≠ .none
structure JjA (φ:Rn) (n0 i0 i:Nat) (g:Bool) (a b a' b':St):Prop where
 c:Emb φ n0 i0 i a' b'
 d:LowE g i0 i a' b'
 e:Stp φ a b a' b'
section
variable {φ : Rn} {n0 i0 i : Nat} {g : Bool} {a b : St}
end
section
variable (φ : Rn) {fr : Fr}
end
section
variable {φ : Rn} {n0 i0 i : Nat} {a b : St} (H : Emb φ n0 i0 i a b)
include H
end
section
variable {φ : Rn} {n0 i0 i : Nat} {a b : St} {fr : Fr}
end
def JtD (self:Self):Prop:=∀f args a v a',self f args a=some (v,a')->∀φ n0 i0 i g b,Emb φ n0 i0 i a b->LowE g i0 i a b->∃b',self f (args.map (mv φ)) b=some (mv φ v,b')/\JjA φ n0 i0 i g a b a' b'
section
variable {self : Self} (hs : JtD self) {φ : Rn} {n0 i0 i : Nat}
include hs
omit hs in
end
section
variable {φ : Rn} {n0 i0 i : Nat} {a b : St}
end
mutual
def inV (n:Nat):V->Bool
 | .e r _=>decide (r.A<n)
 | .u r _ _ _=>decide (r.A<n)
 | .m r _ _ _ _=>decide (r.A<n)
 | .q r=>decide (r.A<n)
 | .D _ a b=>inVs n a&&inVs n b
 | .j l=>inVs n l
 | .p l=>inVs n l
 |_=>true
def inVs (n:Nat):List V->Bool
 |[]=>true
 |x::r=>inV n x&&inVs n r
end
mutual
theorem JkN (n:Nat):∀v:V,closed v=true->inV n v=true
 | .e _ _,h=>by simp[closed]at h
 | .u _ _ _ _,h=>by simp[closed]at h
 | .m _ _ _ _ _,h=>by simp[closed]at h
 | .q _,h=>by simp[closed]at h
 | .D _ a b,h=>by
   rw[closed,Xj]at h;rw[inV,Y3 n a h.1,Y3 n b h.2];rfl
 | .j l,h=>by rw[closed]at h;rw[inV,Y3 n l h]
 | .p l,h=>by rw[closed]at h;rw[inV,Y3 n l h]
 | .h _,_=>by simp[inV]
 | .d _ _,_=>by simp[inV]
 | .t _ _,_=>by simp[inV]
 | .s,_=>by simp[inV]
 | .g,_=>by simp[inV]
 | .w,_=>by simp[inV]
 | .x,_=>by simp[inV]
 | .y,_=>by simp[inV]
 | .F _,_=>by simp[inV]
theorem Y3 (n:Nat):∀l:List V,kK l=true->inVs n l=true
 |[],_=>by rw[inVs]
 | x::r,h=>by
   rw[kK,Xj]at h;rw[inVs,JkN n x h.1,Y3 n r h.2];rfl
end
structure Agr (n:Nat) (φ ψ:Rn):Prop where
 f:∀p:Pt,p.A<n->ψ p=φ p
 s:ψ.s=φ.s
section
variable {n : Nat} {φ ψ : Rn} (h : Agr n φ ψ)
include h
mutual
theorem JsG :∀v:V,inV n v=true->mv ψ v=mv φ v
 | .e r _,e=>by rw[mv,mv,h.f r (X5 e)]
 | .u r _ _ _,e=>by rw[mv,mv,h.f r (X5 e)]
 | .m r _ _ _ _,e=>by rw[mv,mv,h.f r (X5 e)]
 | .q r,e=>by rw[mv,mv,h.f r (X5 e)]
 | .D _ a b,e=>by rw[inV,Xj]at e;rw[mv,mv,Jcj a e.1,Jcj b e.2]
 | .j l,e=>by rw[inV]at e;rw[mv,mv,Jcj l e]
 | .p l,e=>by rw[inV]at e;rw[mv,mv,Jcj l e]
 | .h _,_=>by rw[mv,mv]
 | .d _ _,_=>by rw[mv,mv]
 | .t _ _,_=>by rw[mv,mv]
 | .s,_=>by rw[mv,mv]
 | .g,_=>by rw[mv,mv]
 | .w,_=>by rw[mv,mv]
 | .x,_=>by rw[mv,mv]
 | .y,_=>by rw[mv,mv]
 | .F _,_=>by rw[mv,mv,h.s]
theorem Jcj :∀l:List V,inVs n l=true->mvs ψ l=mvs φ l
 |[],_=>by rw[mvs,mvs]
 |x::r,e=>by rw[inVs,Xj]at e;rw[mvs,mvs,JsG x e.1,Jcj r e.2]
end
end
section
variable {φ : Rn} {a S S' : St}
end
section
variable {self : Self} {lf K g : Nat}
end
section
variable {φ : Rn} {a S : St} {T : Table}
end
def raise (k:Nat):Rn:=⟨fun p=>up k p,fun i=> .F i⟩
section
variable {χ ψ : Rn} {k n : Nat} (hf : ∀ p : Pt, p.A < n -> χ (up k p) = ψ p) (hs : χ.s = ψ.s)
include hf hs
mutual
theorem Jpa :∀v:V,inV n v=true->mv χ (mv (raise k) v)=mv ψ v
 | .e r _,e=>by simp only[mv];rw[<-hf r (X5 e)];rfl
 | .u r _ _ _,e=>by simp only[mv];rw[<-hf r (X5 e)];rfl
 | .m r _ _ _ _,e=>by simp only[mv];rw[<-hf r (X5 e)];rfl
 | .q r,e=>by simp only[mv];rw[<-hf r (X5 e)];rfl
 | .D _ a b,e=>by rw[inV,Xj]at e;simp only[mv];rw[qi a e.1,qi b e.2]
 | .j l,e=>by rw[inV]at e;simp only[mv];rw[qi l e]
 | .p l,e=>by rw[inV]at e;simp only[mv];rw[qi l e]
 | .h _,_=>by simp only[mv]
 | .d _ _,_=>by simp only[mv]
 | .t _ _,_=>by simp only[mv]
 | .s,_=>by simp only[mv]
 | .g,_=>by simp only[mv]
 | .w,_=>by simp only[mv]
 | .x,_=>by simp only[mv]
 | .y,_=>by simp only[mv]
 | .F i,_=>by
   have:mv (raise k) (.F i)= .F i:=by rw[mv];rfl
   rw[this,mv,mv,hs]
theorem qi :∀l:List V,inVs n l=true->mvs χ (mvs (raise k) l)=mvs ψ l
 |[],_=>by simp only[mvs]
 |x::r,e=>by rw[inVs,Xj]at e;simp only[mvs];rw[Jpa x e.1,qi r e.2]
end
end
mutual
def noQ :V->Bool
 | .D _ a b=>noQs a&&noQs b
 | .j l=>noQs l
 | .p l=>noQs l
 | .F _=>false
 |_=>true
def noQs :List V->Bool
 |[]=>true
 |x::r=>noQ x&&noQs r
end
section
variable {φ ψ : Rn} (hf : φ.f = ψ.f)
include hf
mutual
theorem JsI :∀v:V,noQ v=true->mv ψ v=mv φ v
 | .e r _,_=>by simp only[mv];rw[hf]
 | .u r _ _ _,_=>by simp only[mv];rw[hf]
 | .m r _ _ _ _,_=>by simp only[mv];rw[hf]
 | .q r,_=>by simp only[mv];rw[hf]
 | .D _ a b,e=>by rw[noQ,Xj]at e;simp only[mv];rw[Jck a e.1,Jck b e.2]
 | .j l,e=>by rw[noQ]at e;simp only[mv];rw[Jck l e]
 | .p l,e=>by rw[noQ]at e;simp only[mv];rw[Jck l e]
 | .h _,_=>by simp only[mv]
 | .d _ _,_=>by simp only[mv]
 | .t _ _,_=>by simp only[mv]
 | .s,_=>by simp only[mv]
 | .g,_=>by simp only[mv]
 | .w,_=>by simp only[mv]
 | .x,_=>by simp only[mv]
 | .y,_=>by simp only[mv]
 | .F _,e=>by simp[noQ]at e
theorem Jck :∀l:List V,noQs l=true->mvs ψ l=mvs φ l
 |[],_=>by simp only[mvs]
 |x::r,e=>by rw[noQs,Xj]at e;simp only[mvs];rw[JsI x e.1,Jck r e.2]
end
end
section
variable {φ ψ : Rn} {a b S : St}
end
section
variable {Sl S S' : St} {ru kr : Pt} {lv lw : V} {nodes : List Nd} {was : Was}
end
end Eva
namespace Eva
open Go Go.RowKit Go.ChangeAt
variable {s o:Nat}{v:List (Str×Ty)}{t:List Str->Prop}{z q x:Pt->Prop}{d:List Ty}{r:Int}{p:List Str}{f:Ty}{l u:St}{m:Str}{j:Tb}{c:List V}{w:List Nd}{y:List Nat}{U:List (List V)}{M:V}{N:V->St->Prop}{X Y Z:TypeId}
inductive R9 where
 |mk (kind n:Int) (kids:List R9)
 deriving Inhabited
def R9.A :R9->List R9| .mk _ _ l=>l
inductive R10 where
 |mk (kind n:Int) (w:R9) (kids:List R10)
 deriving Inhabited
inductive R9C (P:Pt->Prop) (st:St):List V->R9->Prop
 | mk {k n:Int} {ks:List R9} {kv:V} {es:List (List V)} (hk:In64 k) (hn:In64 n) (h2:SlAt P st kv 3 es) (h3:es.length=ks.length) (hl:ks.length<2^63) (h4:∀i (h:i<es.length) (h':i<ks.length),R9C P st es[i] ks[i]):
   R9C P st [.d .i64 k, .d .i64 n,kv] (.mk k n ks)
inductive R10C (P:Pt->Prop) (st:St):List V->R10->Prop
 | mk {k n:Int} {w:R9} {ks:List R10} {a b c kv:V} {es:List (List V)} (hk:In64 k) (hn:In64 n) (hw:R9C P st [a,b,c] w) (h2:SlAt P st kv 6 es) (h3:es.length=ks.length) (hl:ks.length<2^63) (h4:∀i (h:i<es.length) (h':i<ks.length),R10C P st es[i] ks[i]):
   R10C P st [.d .i64 k, .d .i64 n,a,b,c,kv] (.mk k n w ks)
section
variable {P Q : Pt -> Prop} {st st' : St} {e : List V}
theorem R9C.A {r:R9}(h:R9C P st e r)(k:∀r,P r->st.A r≠ .none->Q r/\st'.A r=st.A r):R9C Q st' e r:=by
 induction h with
 |mk a b c d f i g=>exact .mk a b (c.D k) d f g
theorem R9C.F {r:R9}(h:R9C P st e r):e.length=3:=by cases h;rfl
theorem R10C.A {r:R10}(h:R10C P st e r)(k:∀r,P r->st.A r≠ .none->Q r/\st'.A r=st.A r):R10C Q st' e r:=by
 induction h with
 |mk a b c d f g j i=>exact .mk a b (c.A k) (d.D k) f g i
theorem R9C.D {r:R9}(h:R9C P st e r)(g:Gr st st'):R9C P st' e r:=h.A fun r p e=>⟨p,g.d r e⟩
theorem R10C.F {r:R10}(h:R10C P st e r)(g:Gr st st'):R10C P st' e r:=h.A fun r p e=>⟨p,g.d r e⟩
theorem R10C.D {r:R10}(h:R10C P st e r):e.length=6:=by cases h;rfl
end
def Yu (P:Pt->Prop)(st:St)(u:V)(rs:List R10):Prop:=∃es,SlAt P st u 6 es/\es.length=rs.length/\rs.length<2^63/\∀i (h:i<es.length) (h':i<rs.length),R10C P st es[i] rs[i]
theorem Yu.A {P Q:Pt->Prop}{st st':St}{u:V}{c:List R10}(h:Yu P st u c)(k:∀r,P r->st.A r≠ .none->Q r/\st'.A r=st.A r):Yu Q st' u c:=by
 obtain⟨d,e,f,g,j⟩:=h;exact⟨d,e.D k,f,g,fun i a b=>(j i a b).A k⟩
structure R9Ty (P:Program) (t ti tk:TypeId):Prop where
 e:∃f0 f1 f2:Field,P.underlying t=some (.struct #[f0,f1,f2])/\(f0.type=ti/\f0.offset=0)/\(f1.type=ti/\f1.offset=1)/\(f2.type=tk/\f2.offset=2)
 a:P.underlying ti=some (.int .i64)
 b:P.underlying tk=some (.slice t)
 d:P.cellsOf t=3
 c:P.cellsOf ti=1
 f:P.cellsOf tk=1
structure Jpb (P:Program) (t ti tw tk tx:TypeId):Prop where
 w:R9Ty P tw ti tx
 b:∃f0 f1 f2 f3:Field,P.underlying t=some (.struct #[f0,f1,f2,f3])/\(f0.type=ti/\f0.offset=0)/\(f1.type=ti/\f1.offset=1)/\(f2.type=tw/\f2.offset=2)/\(f3.type=tk/\f3.offset=5)
 a:P.underlying tk=some (.slice t)
 c:P.cellsOf t=6
 d:P.cellsOf tk=1
section
variable {H : Type} {enc : TypeId × Value -> H} {P : Program} {W : World} {ρ : Nat -> Value}
theorem Jmv (h:(Lit.int .i64 r).wf=true):In64 r:=by
 have: -9223372036854775808<=r/\r<=9223372036854775807:=by simpa[Lit.wf,IntKind.min,IntKind.max,IntKind.bits,IntKind.signed]using h
 exact⟨this.1,by omega⟩
theorem JsJ (l:R9Ty P X Y Z)(h0:0<W.heap.size):∀(g:Nat),
  (∀{j:List Value} {x:DataW H×List MemPlace},DataW.trod enc P W 0 (fun _=>true) true g X j=some x->j.length=3/\∃r,OpnC ρ W j fun o e=>R9C (fun _=>True) o e r)/\
  (∀{j:List Value} {x:DataW H×List MemPlace},DataW.trod enc P W 0 (fun _=>true) true g Z j=some x->∃(v:Value) (p:List R9),j=[v]/\OpnV ρ W v fun o u=>∃q,SlAt (fun _=>True) o u 3 q/\q.length=p.length/\p.length<2^63/\∀i (h:i<q.length) (h':i<p.length),R9C (fun _=>True) o q[i] p[i]):=by
 intro g
 induction g with
 |zero=>exact⟨fun h=>by simp[DataW.trod]at h,fun h=>by simp[DataW.trod]at h⟩
 | succ g ih=>
   refine⟨fun{j x} h=> ?_,fun{j x} h=> ?_⟩
   ·obtain⟨g0,g1,g3,s,⟨t0,o0⟩,⟨t1,o1⟩,⟨t3,w⟩⟩:=l.e;obtain⟨xs,n,y,_,L,M,N⟩:=DataW.trod_struct s h;injection y with y;subst y;rw[l.d]at L;refine⟨L, ?_⟩
    match j,L with
    | [c0,c1,c3],_=>
      have O:xs.length=3:=M
      match xs,O with
      | [x0,x1,x3],_=>
        have f0:=N 0 g0 rfl;have f1:=N 1 g1 rfl;have f3:=N 2 g3 rfl;rw[t0,o0,l.c]at f0;rw[t1,o1,l.c]at f1;rw[t3,w,l.f]at f3;obtain⟨k,Q,_,w0⟩:=DataW.trod_int l.a f0;obtain⟨m,S,_,w1⟩:=DataW.trod_int l.a f1;obtain⟨v3,p,T,o3⟩:=ih.2 f3;injection Q with Q;injection S with S;injection T with T;subst Q;subst S;subst T;refine⟨.mk k m p, ?_⟩;have oc:OpnC ρ W [.int .i64 k, .int .i64 m] fun _ e=>e=[.d .i64 k, .d .i64 m]:=OpnC.G fun γ=>⟨_,_,rfl,rfl,_,_,rfl,rfl,rfl⟩
        refine(oc.D o3.D).F fun o e ⟨a,b,U,h2,u3,h6,q,h7,h8,h9,aa⟩=> ?_;rw[U,h2,h6];exact .mk (Jmv w0) (Jmv w1) h7 h8 h9 aa
   ·obtain⟨v,p,U,h2⟩:=JkF (ρ:=ρ) (z:=3) (by decide) l.b l.d h0 (K:=fun e o r=>R9C (fun _=>True) o e r) (fun{j x} k=>by
     obtain⟨k3,r,k4⟩:=ih.1 k;exact⟨k3,r,k4.F fun o e h=>⟨h.F,h⟩⟩) h
    exact⟨v,p,U,h2.F fun o u ⟨q,k1,k2,k3,k4⟩=>⟨q,k1,k2,JaQ k3,k4⟩⟩
theorem JqL {tk tx:TypeId}(g:Jpb P X Y Z tk tx)(h0:0<W.heap.size):∀(f:Nat),
  (∀{i:List Value} {x:DataW H×List MemPlace},DataW.trod enc P W 0 (fun _=>true) true f X i=some x->i.length=6/\∃r,OpnC ρ W i fun j e=>R10C (fun _=>True) j e r)/\
  (∀{i:List Value} {x:DataW H×List MemPlace},DataW.trod enc P W 0 (fun _=>true) true f tk i=some x->∃(v:Value) (l:List R10),i=[v]/\OpnV ρ W v fun j u=>Yu (fun _=>True) j u l):=by
 intro f
 induction f with
 |zero=>exact⟨fun h=>by simp[DataW.trod]at h,fun h=>by simp[DataW.trod]at h⟩
 | succ f ih=>
   refine⟨fun{i x} h=> ?_,fun{i x} h=> ?_⟩
   ·obtain⟨g0,g1,g2,g3,o,⟨t0,o0⟩,⟨t1,o1⟩,⟨t2,o2⟩,⟨t3,L⟩⟩:=g.b;obtain⟨xs,n,M,_,p,N,y⟩:=DataW.trod_struct o h;injection M with M;subst M;rw[g.c]at p;refine⟨p, ?_⟩
    match i,p with
    | [c0,c1,c2,O,s,c3],_=>
      have Q:xs.length=4:=N
      match xs,Q with
      | [x0,x1,x2,x3],_=>
        have f0:=y 0 g0 rfl;have f1:=y 1 g1 rfl;have f2:=y 2 g2 rfl;have f3:=y 3 g3 rfl;rw[t0,o0,g.w.c]at f0;rw[t1,o1,g.w.c]at f1;rw[t2,o2,g.w.d]at f2;rw[t3,L,g.d]at f3;obtain⟨k,S,_,w0⟩:=DataW.trod_int g.w.a f0;obtain⟨m,T,_,w1⟩:=DataW.trod_int g.w.a f1;obtain⟨_,q,o2⟩:=(JsJ (ρ:=ρ) g.w h0 f).1 f2;obtain⟨v3,l,U,o3⟩:=ih.2 f3;injection S with S;injection T with T;injection U with U;subst S;subst T;subst U;refine⟨.mk k m q l, ?_⟩;have oc:OpnC ρ W [.int .i64 k, .int .i64 m] fun _ e=>e=[.d .i64 k, .d .i64 m]:=OpnC.G fun γ=>⟨_,_,rfl,rfl,_,_,rfl,rfl,rfl⟩
        have aa:OpnC ρ W [c2,O,s] fun j e=>R9C (fun _=>True) j e q:=o2;refine((oc.D aa).D o3.D).F fun j e ⟨a,b,h1,⟨a1,a2,h2,h3,h4⟩,u3,h6,es,h7,h8,h9,ab⟩=> ?_;have p:=h4.F
        match a2,p with
        | [y0,y1,y2],_=>
          rw[h1,h2,h3,h6];exact .mk (Jmv w0) (Jmv w1) h4 h7 h8 h9 ab
   ·obtain⟨v,l,h1,h2⟩:=JkF (ρ:=ρ) (z:=6) (by decide) g.a g.c h0 (K:=fun e j r=>R10C (fun _=>True) j e r) (fun{i x} k=>by
     obtain⟨k3,r,k4⟩:=ih.1 k;exact⟨k3,r,k4.F fun j e h=>⟨h.D,h⟩⟩) h
    exact⟨v,l,h1,h2.F fun j u ⟨es,k1,k2,k3,k4⟩=>⟨es,k1,k2,JaQ k3,k4⟩⟩
theorem JqM {g m:TypeId}(l:Jpb P X Y Z g m)(n:0<W.heap.size){r:Reach}{v:Value}{d:DataW H}{p:List MemPlace}(b:Value.okWide P W r s g v)(h:DataW.Trod enc P W 0 (fun _=>true) true g v d p):
  ∃i:List R10,OpnV ρ W v fun o u=>Yu (fun _=>True) o u i:=by
 obtain⟨a,c,e,rfl⟩:=WideShapes.okWide_slice l.a b;obtain⟨f,q⟩:=h;obtain⟨w,i,j,x⟩:=(JqL (ρ:=ρ) l n f).2 q;have k:(Value.slice a c e).cells.toList=[.slice a c e]:=by rfl
 rw[k]at j;injection j with j;exact⟨i,by grind⟩
end
end Eva
namespace Eva
open Go Go.RowKit
variable {s o:Nat}{v:List (Str×Ty)}{t:List Str->Prop}{z q x:Pt->Prop}{d:List Ty}{r:Int}{p:List Str}{f:Ty}{l u:St}{m:Str}{j:Tb}{c:List V}{w:List Nd}{y:List Nat}{U:List (List V)}{M:V}{N:V->St->Prop}{X Y Z:TypeId}
theorem Jfl {Q:List Str->Prop}:∀{l:List Ty},(∀t∈l,noNm Q t)->QI Q l
 |[],_=>by rw[QI];trivial
 |t::r,h=>by rw[QI];exact⟨h t (Xu ..),Jfl fun x a=>h x (Xl _ a)⟩
theorem JcW {Q:List Str->Prop}:∀{l:List Ty},QI Q l->∀t∈l,noNm Q t
 |[],_,t,h=>by cases h
 | t::r,h,x,a=>by
   rw[QI]at h;rcases Xw.1 a with rfl|a
   ·exact h.1
   ·exact JcW h.2 x a
theorem JaT :noNm t (.mk r m p d)<->t p/\QI t d:=by rw[noNm]
mutual
theorem Jpc {n:Str}:∀(t:Ty),noNm (n∉·) t->fitT t=true->noNm (fun a=>n∉a/\a.length<1000) t
 | .mk k m a b,h,c=>by
   obtain⟨d,e⟩:=JaT.1 h;obtain⟨g,i,f⟩:=JaO c;exact JaT.2 ⟨⟨d,by omega⟩,JgZ b e f⟩
theorem JgZ {n:Str}:∀(l:List Ty),QI (n∉·) l->ji l=true->QI (fun b=>n∉b/\b.length<1000) l
 |[],_,_=>by rw[QI];trivial
 | t::r,h,a=>by
   rw[QI]at h;rw[ji,Xj]at a;rw[QI];exact⟨Jpc t h.1 a.1,JgZ r h.2 a.2⟩
end
theorem cut9 {r:Pt}{k n:Nat}(h:k<=n)(b:St):QV b 1 (.m r 0 n 1 n) (some (.d .i64 (k:Nat))) none none=some (.m r k (n-k) 1 (n-k), .a):=by
 simp only[QV,YV,J7,QT,Option.bind_eq_bind,HE,Int.natCast_nonneg,ZT,ZK]
 grind
inductive Opn where
 |mk (k:Int) (var:Str) (path:List Str) (s:Str) (n:Int) (b:Bool) (pipe:List (List Opn))
abbrev Pipe :=List (List Opn)
inductive Nod where
 |mk (k at_:Int) (s name:Str) (pipe:Pipe) (body els:List Nod) (he:Bool) (cases:List (Str×List Nod))
def JjB {α:Type}(C:List V->α->Prop)(P:Pt->Prop)(st:St)(z:Nat)(e:List V)(l:List α):Prop:=∃v,e=[v]/\LstAt C P st v z l
def OprC (P:Pt->Prop)(st:St):Nat->List V->Opn->Prop
 |0,_,_=>False
 |d+1,e, .mk k var path s n b pipe=>∃pv qv,e=[.d .i64 k,ofL var,pv,ofL s, .d .i64 n, .h b,qv]/\SlAt P st pv 1 (strs path)/\LstAt (JjB (OprC P st d) P st 7) P st qv 1 pipe
def PipC (P:Pt->Prop)(st:St)(d:Nat)(v:V)(p:Pipe):Prop:=LstAt (JjB (OprC P st d) P st 7) P st v 1 p
def CasC (C:List V->Nod->Prop)(P:Pt->Prop)(st:St)(e:List V)(c:Str×List Nod):Prop:=∃v,e=[ofL c.1,v]/\LstAt C P st v 9 c.2
def NodC (P:Pt->Prop)(st:St)(m:Nat):Nat->List V->Nod->Prop
 |0,_,_=>False
 |d+1,e, .mk k a s name pipe body els he cases=>∃pv bv ev cv,e=[.d .i64 k, .d .i64 a,ofL s,ofL name,pv,bv,ev, .h he,cv]/\PipC P st m pv pipe/\LstAt (NodC P st m d) P st bv 9 body/\LstAt (NodC P st m d) P st ev 9 els/\LstAt (CasC (NodC P st m d) P st) P st cv 2 cases
def NodsC (P:Pt->Prop)(st:St)(m d:Nat)(v:V)(l:List Nod):Prop:=LstAt (NodC P st m d) P st v 9 l
section
variable {P Q : Pt -> Prop} {st st' : St}
theorem LstAt.F {α:Type}{C:List V->α->Prop}:LstAt C P st .g s ([]:List α):=⟨[],SlAt.K _ _ _,rfl,fun i h=>absurd h (XO i)⟩
theorem JjB.A {α:Type}{C D:List V->α->Prop}{z:Nat}{e:List V}{l:List α}(h:JjB C P st z e l)(a:∀e x,C e x->D e x)(k:∀r,P r->st.A r≠ .none->Q r/\st'.A r=st.A r):JjB D Q st' z e l:=by
 obtain⟨v,b,c⟩:=h;exact⟨v,b,c.B a k⟩
theorem OprC.A (k:∀r,P r->st.A r≠ .none->Q r/\st'.A r=st.A r):∀{d:Nat} {e:List V} {o:Opn},OprC P st d e o->OprC Q st' d e o
 |0,_,_,h=>h
 |d+1,_, .mk _ _ _ _ _ _ _,⟨a,b,c,f,g⟩=>⟨a,b,c,f.D k,g.B (fun _ _ h=>h.A (fun _ _ h=>OprC.A k h) k) k⟩
theorem PipC.A {d:Nat}{v:V}{p:Pipe}(h:PipC P st d v p)(k:∀r,P r->st.A r≠ .none->Q r/\st'.A r=st.A r):PipC Q st' d v p:=LstAt.B h (fun _ _ h=>h.A (fun _ _ h=>OprC.A k h) k) k
theorem CasC.A {C D:List V->Nod->Prop}{e:List V}{c:Str×List Nod}(h:CasC C P st e c)(a:∀e x,C e x->D e x)(k:∀r,P r->st.A r≠ .none->Q r/\st'.A r=st.A r):CasC D Q st' e c:=by
 obtain⟨v,b,d⟩:=h;exact⟨v,b,d.B a k⟩
theorem NodC.A {m:Nat}(k:∀r,P r->st.A r≠ .none->Q r/\st'.A r=st.A r):∀{d:Nat} {e:List V} {o:Nod},NodC P st m d e o->NodC Q st' m d e o
 |0,_,_,h=>h
 |d+1,_, .mk _ _ _ _ _ _ _ _ _,⟨a,b,c,f,g,i,j,l,n⟩=>⟨a,b,c,f,g,i.A k,j.B (fun _ _ h=>NodC.A k h) k,l.B (fun _ _ h=>NodC.A k h) k,n.B (fun _ _ h=>h.A (fun _ _ h=>NodC.A k h) k) k⟩
theorem NodsC.A {m d:Nat}{v:V}{l:List Nod}(h:NodsC P st m d v l)(k:∀r,P r->st.A r≠ .none->Q r/\st'.A r=st.A r):NodsC Q st' m d v l:=LstAt.B h (fun _ _ h=>NodC.A k h) k
theorem OprC.F :∀{d:Nat} {e:List V} {o:Opn},OprC P st d e o->OprC P st (d+1) e o
 |d+1,_, .mk _ _ _ _ _ _ _,⟨a,b,c,f,g⟩=>⟨a,b,c,f,g.B (fun _ _ h=>h.A (fun _ _ h=>OprC.F h) fun _ p _=>⟨p,rfl⟩) fun _ p _=>⟨p,rfl⟩⟩
theorem OprC.G (h:s<=o){a:Opn}(k:OprC P st s c a):OprC P st o c a:=by
 obtain⟨j,rfl⟩:=Nat.exists_eq_add_of_le h
 induction j with
 |zero=>exact k
 |succ j b=>exact(b (by omega)).F
theorem OprC.D :∀{d:Nat} {e:List V} {o:Opn},OprC P st d e o->e.length=7
 |d+1,_, .mk _ _ _ _ _ _ _,⟨b,c,a,_⟩=>by rw[a];rfl
end
structure EnvS where
 c:Nat
 a:List (Str×Nat)
 b:List (Int×List Str×Nat)
def varE (x:Str×Nat):List V:=[ofL x.1, .d .i64 (x.2:Nat)]
def NarC (P:Pt->Prop)(st:St)(e:List V)(x:Int×List Str×Nat):Prop:=∃pv,e=[.d .i64 x.1,pv, .d .i64 (x.2.2:Nat)]/\SlAt P st pv 1 (strs x.2.1)
def EnvC (P:Pt->Prop)(st:St)(e:List V)(E:EnvS):Prop:=∃vv nv,e=[.d .i64 (E.c:Nat),vv,nv]/\SlAt P st vv 2 (E.a.map varE)/\LstAt (NarC P st) P st nv 3 E.b
section
variable {P Q : Pt -> Prop} {st st' : St}
theorem NarC.A {e:List V}{x:Int×List Str×Nat}(h:NarC P st e x)(k:∀r,P r->st.A r≠ .none->Q r/\st'.A r=st.A r):NarC Q st' e x:=by
 obtain⟨a,b,c⟩:=h;exact⟨a,b,c.D k⟩
theorem EnvC.A {e:List V}{E:EnvS}(h:EnvC P st e E)(k:∀r,P r->st.A r≠ .none->Q r/\st'.A r=st.A r):EnvC Q st' e E:=by
 obtain⟨a,b,c,d,f⟩:=h;exact⟨a,b,c,d.D k,f.B (fun _ _ h=>h.A k) k⟩
end
end Eva
namespace Eva
open Go Go.RowKit
variable {s o:Nat}{v:List (Str×Ty)}{t:List Str->Prop}{z q x:Pt->Prop}{d:List Ty}{r:Int}{p:List Str}{f:Ty}{l u:St}{m:Str}{j:Tb}{c:List V}{w:List Nd}{y:List Nat}{U:List (List V)}{M:V}{N:V->St->Prop}{X Y Z:TypeId}
def jE (k:Int)(ns:List Str):Nat:=if k=4\/k=5\/k=6 then 1 else if k=7\/k=8 then ns.length else 0
structure JdE (n:Nd):Prop where
 e:1<=n.a/\n.a<=9
 a:n.c.length=jE n.a n.b
 c:n.b=[]\/n.a=7\/n.a=8
 d:n.b.Nodup
 b:n.b.length<=8
def Q6 (l:List Nd):Prop:=∀(i:Nat) (n:Nd),l[i]? =some n->JdE n/\∀k∈n.c,k<i
theorem Q6.F :Q6 []:=fun i n h=>by simp at h
theorem Q6.D {n:Nd}(h:Q6 w)(b:JdE n)(d:∀k∈n.c,k<w.length):Q6 (w++[n]):=by
 intro i m a;by_cases c:i<w.length
 ·rw[XP c]at a;exact h i m a
 grind
theorem Q6.A {n:Nd}(h:Q6 j.a)(b:JdE n)(d:∀k∈n.c,k<j.a.length):Q6 (layS j n).1.a:=by
 unfold layS
 split
 ·exact h
 ·split
  ·exact h
  ·exact h.D b d
mutual
def Jcl :Ty->Bool
 | .mk k n ns ks=>decide (1<=k/\k<=9)&&decide (ks.length=jE k ns)&&(decide (ns=[])||decide (k=7)||decide (k=8))&&decide ns.Nodup&&decide (ns.length<=8)&&Yv ks
def Yv :List Ty->Bool
 |[]=>true
 |t::r=>Jcl t&&Yv r
end
theorem JjC :∀(l:List Str) (p:Option Str),Km p l=0->l.Pairwise (fun a b=>Op.bytesLess a b=true)/\∀q,p=some q->∀n∈l,Op.bytesLess q n=true
 |[],p,_=>⟨.nil,fun _ _ n h=>by cases h⟩
 | n::r,p,h=>by
   rw[Km]at h
   split at h
   ·cases h
   split at h
   ·cases h
   rename_i g f
   obtain⟨a,b⟩:=JjC r (some n) h;refine⟨Hq.2 ⟨b n rfl,a⟩,fun q e m c=> ?_⟩;subst e;have d:Op.bytesLess q n=true:=by
    unfold Ky at f
    grind
   rcases Xw.1 c with rfl|c
   ·exact d
   ·exact qO d (b n rfl m c)
theorem JjD {t:Ty}(h:KH t=0):t.D.Nodup/\t.D.length<=8:=by
 unfold KH at h
 split at h
 ·cases h
 split at h
 ·omega
 rename_i a b
 exact⟨Jcc (JjC _ _ (by simpa using b)).1,by omega⟩
mutual
theorem JjE (f:Str->Bool):∀(t:Ty) (b g:Nat),(mayS f t b g).1=0->Jcl t=true
 | .mk k n e d,b,g,h=>by
   rw[qI]at h
   split at h
   ·cases h
   split at h
   ·cases h
   split at h
   ·cases h
   split at h
   ·cases h
   split at h
   ·cases h
   split at h
   ·rename_i c;exact absurd h c
   rename_i s u v l w o
   have m:=JjD (t:= .mk k n e d) (by simpa using o);have i:d.length=jE k e:=by
    have:¬d.length≠KX (.mk k n e d):=fun c=>l (.inl c);have:d.length=KX (.mk k n e d):=by simpa using this
    rw[this];rfl
   have j:e=[]\/k=7\/k=8:=by
    cases e with
    |nil=>exact .inl rfl
    | cons a r=>
      refine .inr ?_;have:=fun c=>l (.inr (.inr c));simp at this;omega
   rw[Jcl];have p:=m.1;have q:=m.2;simp[Zl];exact⟨⟨⟨⟨⟨by omega,i⟩,by rcases j with a|a|a;exact .inl (.inl a);exact .inl (.inr a);exact .inr a⟩,p⟩,q⟩,JaU f d _ _ h⟩
theorem JaU (b:Str->Bool):∀(e:List Ty) (a d:Nat),(JD b e a d).1=0->Yv e=true
 |[],_,_,_=>by rw[Yv]
 | t::r,a,d,h=>by
   rw[Kg]at h
   split at h
   ·rename_i c;exact absurd h c
   rename_i c
   rw[Yv,JjE b t a d (by simpa using c),JaU b r _ _ h];rfl
end
theorem Jfm :∀{c:List Ty},Yv c=true->∀t∈c,Jcl t=true
 |[],_,t,h=>by cases h
 | a::r,h,t,b=>by
   rw[Yv,Xj]at h;rcases Xw.1 b with rfl|b
   ·exact h.1
   ·exact Jfm h.2 t b
mutual
theorem JaV :∀(t:Ty) {left:Int} {tb:Tb},Jcl t=true->(addT t left tb).2.2.1=0->Q6 tb.a->Q6 (addT t left tb).1.a/\(addT t left tb).2.1<(addT t left tb).1.a.length
 | .mk k n l f,left,tb,d,b,h=>by
   rw[Qu]at b⊢
   split at b
   ·simp at b
   rename_i c
   rw[Xa c];have d:=Jcl.eq_1 k n l f▸d;simp[Zl]at d;obtain⟨⟨⟨⟨⟨m,o⟩,p⟩,q⟩,r⟩,s⟩:=d;have g:=Jfn f (left:=left-1) (tb:=tb) s;generalize K:JB f (left-1) tb=x at b g⊢;obtain⟨u,i,e,l1⟩:=x;simp only at b g⊢;by_cases j:e=0
   ·subst j;simp only[GA,XH,X2]at b⊢;obtain⟨v,w,y⟩:=g rfl h;have z:JdE ⟨k,n,l,i⟩:=⟨m,by rw[y];exact o,by rcases p with(a|a)|a;exact .inl a;exact .inr (.inl a);exact .inr (.inr a),q,r⟩
    refine⟨v.A z w, ?_⟩;obtain⟨_,_,r2,_⟩:=Jb8 b;have:=jC r2;rw[GZ]at this;exact(Xz.1 this.2).1
   ·rw[Xd j]at b;exact absurd b j
theorem Jfn :∀(d:List Ty) {left:Int} {tb:Tb},Yv d=true->(JB d left tb).2.2.1=0->Q6 tb.a->Q6 (JB d left tb).1.a/\(∀k∈(JB d left tb).2.1,k<(JB d left tb).1.a.length)/\(JB d left tb).2.1.length=d.length
 |[],left,tb,_,_,h=>by rw[KU];exact⟨h,(fun k a=>by cases a),rfl⟩
 | t::r,left,tb,g,b,h=>by
   rw[Kr]at b⊢;rw[Yv,Xj]at g;have j:=JaV t (left:=left) (tb:=tb) g.1;generalize v:addT t left tb=x at b j⊢;obtain⟨c,i,e,l1⟩:=x;simp only at b j⊢;by_cases m:e=0
   ·subst m;simp only[GA,XH,X2]at b⊢;obtain⟨s,w⟩:=j rfl h;have n:=Jfn r (left:=l1) (tb:=c) g.2;have f:(JB r l1 c).2.2.1=0:=by
     revert b;generalize JB r l1 c=y;exact fun b=>b
    obtain⟨z,r1,_⟩:=qb r f;obtain⟨o,p,q⟩:=n f s;generalize K:JB r l1 c=y at b o p q r1⊢;obtain⟨u,l,L,l2⟩:=y;simp only at o p q r1⊢;refine⟨o,fun k a=> ?_,by simp[q]⟩;rcases Xw.1 a with rfl|a
    ·rw[r1];simp;omega
    ·exact p k a
   ·rw[Xd m]at b;exact absurd b m
end
end Eva
