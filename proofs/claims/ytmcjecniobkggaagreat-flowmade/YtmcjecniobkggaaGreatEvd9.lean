/- Memory, tables and types, told for contracts. Slices and maps in memory: what is read o -/
import Derived.Test.YtmcjecniobkggaaGreatEvd8
set_option linter.constructorNameAsVariable false
set_option linter.defProp false
set_option linter.unusedVariables false
set_option linter.unusedSimpArgs false
set_option linter.unusedSectionVars false
namespace Eva
open Go Go.RowKit
variable {s u:Pt->Prop}{e g:St}{n h o:Nat}{k:List V}{d:List (List V)}{i Y:Pt}{r:V}{l:V->St->Prop}{m:Table}{j:Nat->Row}{w:List Nat}{x:Self->List V->St->Option (V×St)}{y:Out->Prop}{X:Fr}{Z:List (V×V)}
def RowL (x:Row)(l:List V):Prop:=(∃t,x= .a t l)\/x= .f l
theorem RowL.D {x:Row}(h:RowL x k):x≠ .none:=by
 rcases h with⟨t,rfl⟩|rfl<;>exact fun e=>by cases e
theorem RowL.A {x:Row}(h:RowL x k)(o:Nat):ld1 x o=(k[o]?).map fun v=>(v, .a):=by
 rcases h with⟨t,rfl⟩|rfl<;>rfl
theorem RowL.B {x:Row}(h:RowL x k)(o n:Nat):ldn x o n=if o+n<=k.length then some (.j ((k.drop o).take n), .a)else none:=by
 rcases h with⟨t,rfl⟩|rfl<;>rfl
def SlAt (P:Pt->Prop)(st:St)(v:V)(z:Nat)(es:List (List V)):Prop:=
 (∀e∈es,e.length=z)/\((v= .g/\es=[])\/∃r o,P r/\(v= .u r o es.length z\/∃c,es.length<=c/\v= .m r o es.length z c)/\∃l,RowL (st.A r) l/\o+es.length*z<=l.length/\(l.drop o).take (es.length*z)=es.flatten)
theorem JeJ {z:Nat}:∀{a:List (List V)} {i:Nat},(∀e∈a,e.length=z)->(b:i<a.length)->(a.flatten.drop (i*z)).take z=a[i]
 |e::r,0,h,_=>by grind
 | e::r,i+1,h,b=>by
   have c:=h e (by simp);have:=JeJ (i:=i) (fun x d=>h x (Xl _ d)) (by grind);rw[Zy,ZS,Hw,List.getElem_cons_succ,<-this];congr 1;rw[<-c,Gp];simp
theorem Jt {z:Nat}:∀{a:List (List V)},(∀e∈a,e.length=z)->a.flatten.length=a.length*z
 |[],_=>by simp
 | e::r,h=>by
   rw[Zy,X7,h e (by simp),Jt (fun x b=>h x (Xl _ b)),XJ,ZS,Hw]
section
variable {P Q : Pt -> Prop} {st st' : St} {v : V} {z : Nat} {es : List (List V)}
theorem SlAt.K (P:Pt->Prop)(st:St)(z:Nat):SlAt P st .g z []:=⟨by simp, .inl ⟨rfl,rfl⟩⟩
theorem SlAt.G (h:SlAt P st v z es):JU v=some (.d .i64 es.length, .a):=by
 rcases h.2 with⟨rfl,rfl⟩|⟨r,o,_,rfl|⟨c,_,rfl⟩,_⟩<;>rfl
theorem SlAt.N (h:SlAt P st v z es):slen v=some es.length:=by
 rcases h.2 with⟨rfl,rfl⟩|⟨r,o,_,rfl|⟨c,_,rfl⟩,_⟩<;>rfl
theorem SlAt.D (h:SlAt P st v z es)(k:∀r,P r->st.A r≠ .none->Q r/\st'.A r=st.A r):SlAt Q st' v z es:=by
 refine⟨h.1, ?_⟩;rcases h.2 with h|⟨r,o,a,c,l,b,d,e⟩
 ·grind
 ·obtain⟨f,g⟩:=k r a b.D
  grind
theorem SlAt.I (h:SlAt P st v z es){i:Nat}(b:i<es.length):
  ∃r q,Jo z v (.d .i64 i)=some (.e r q, .a)/\P r/\(st.A r≠ .none)/\ldn (st.A r) q z=some (.j es[i], .a)/\∀j (k:j<es[i].length),ld1 (st.A r) (q+j)=some (es[i][j], .a):=by
 rcases h.2 with⟨_,rfl⟩|⟨r,o,m,n,l,f,t,p⟩
 ·grind
 have u:es[i].length=z:=h.1 _ (Xh b);have s:i*z+z<=es.length*z:=by rw[<-ZS];exact Zb _ b
 have g:(l.drop (o+i*z)).take z=es[i]:=by
  rw[<-JeJ h.1 b,<-p,Gg,ZH,ZQ,Zd (by omega)]
 refine⟨r,o+i*z, ?_,m,f.D, ?_,fun j k=> ?_⟩
 ·rcases n with rfl|⟨c,_,rfl⟩
  ·rw[jX,Xd (by omega)];simp
  ·rw[qD,Xd (by omega)];simp
 ·rw[f.B,Xd (by omega),g]
 ·rw[f.A]
  grind
theorem SlAt.M {xs:List V}(h:SlAt P st v 1 (xs.map fun x=>[x])){i:Nat}(g:i<xs.length):
  ∃r q,Jo 1 v (.d .i64 i)=some (.e r q, .a)/\P r/\(st.A r≠ .none)/\ld1 (st.A r) q=some (xs[i], .a):=by
 obtain⟨r,q,b,c,f,_,j⟩:=h.I (i:=i) (by grind);refine⟨r,q,b,c,f, ?_⟩
 simp_all
end
def jY {α:Type}[DecidableEq α](k:α):List (α×V)->Nat->Option (Nat×V)
 |[],_=>none
 |(a,v)::r,i=>if k=a then some (i,v)else jY k r (i+1)
theorem Jbs {α:Type}[DecidableEq α]{b:α->V}{e:EK}(k:α):∀(d:List (α×V)) (i:Nat),(∀p∈d,e.B (b k) (b p.1)=some (decide (k=p.1)))->
  Yz e (b k) (d.map fun p=>(b p.1,p.2)) i=some (jY k d i)
 |[],_,_=>rfl
 | (a,v)::r,i,c=>by
   have f:=c (a,v) (by simp);simp[Yz,f,jY];by_cases h:k=a
   ·simp[h]
   ·simp[h,GE];exact Jbs k r (i+1) fun p g=>c p (by simp[g])
theorem Jqr (a b:List UInt8):EK.B (.a .s) (ofL a) (ofL b)=some (decide (a=b)):=by
 simp[EK.B,keq,ofL,Jb1]
def at_ {α:Type}[DecidableEq α](k:α):List (α×V)->Option V
 |[]=>none
 |(a,v)::r=>if k=a then some v else at_ k r
theorem Jhx {α:Type}[DecidableEq α](k:α):∀(b:List (α×V)) (i:Nat),(jY k b i).map (·.2)=at_ k b
 |[],_=>rfl
 | (a,v)::r,i=>by
   simp[jY,at_]
   split
   ·rfl
   ·exact Jhx k r (i+1)
theorem Jl1 {α:Type}[DecidableEq α]{k:α}:∀{b:List (α×V)} {i j:Nat} {v:V},jY k b i=some (j,v)->i<=j/\∃h:j-i<b.length,b[j-i]=(k,v)
 |[],_,_,_,h=>by cases h
 | (a,w)::r,i,j,v,h=>by
   simp[jY]at h
   split at h
   ·grind
   ·obtain⟨c,d,e⟩:=Jl1 h
    grind
def Ja0 {α:Type}[DecidableEq α](k:α)(v:V):List (α×V)->List (α×V)
 |[]=>[(k,v)]
 |(a,w)::r=>if k=a then(k,v)::r else(a,w)::Ja0 k v r
theorem JcM {α:Type}[DecidableEq α]{k:α}{v:V}:∀{b:List (α×V)} {i:Nat},jY k b i=none->Ja0 k v b=b++[(k,v)]
 |[],_,_=>rfl
 | (a,w)::r,i,h=>by
   simp[jY]at h
   split at h
   ·cases h
   ·rename_i e
    simp[Ja0,Xa e,JcM h]
theorem JiZ {α:Type}[DecidableEq α]{k:α}{v:V}:∀{b:List (α×V)} {i j:Nat} {w:V},jY k b i=some (j,w)->Ja0 k v b=b.modify (j-i) fun _=>(k,v)
 |[],_,_,_,h=>by cases h
 | (a,x)::r,i,j,w,h=>by
   simp[jY]at h
   split at h
   ·rename_i e
    injection h with h;injection h with c d;subst c;simp[Ja0,e]
   ·rename_i e
    have c:=(Jl1 h).1;have:j-i=(j-(i+1))+1:=by omega
    simp[Ja0,Xa e,JiZ h,this]
def qZ {α:Type}(st:St)(r:Pt)(enc:α->V)(es:List (α×V)):Prop:=∃t,st.A r= .b t (es.map fun p=>(enc p.1,p.2))
theorem Ji0 (a:Fr)(b:St)(e:EK)(z:V)(c:Bool)(m k:Opd):evOp a b (.lookup e z c m k)=jz b e z c (m.A a) (k.A a):=Xe (Xk _)
def ansL (z:V)(ok:Bool):Option V->V
 |some v=>if ok then .p [v, .h true]else v
 |none=>if ok then .p [z, .h false]else z
theorem kP {α:Type}[DecidableEq α]{enc:α->V}{e:EK}{b:List (α×V)}(h:qZ g i enc b)(z:V)(f:Bool)(k:α)(d:∀p∈b,e.B (enc k) (enc p.1)=some (decide (k=p.1)))(c:e.A (enc k)=true):
  jz g e z f (.q i) (enc k)=some (ansL z f (at_ k b), .a):=by
 obtain⟨t,h⟩:=h;simp[jz,Jd8,h,c,Jbs k b 0 d,<-Jhx k b 0]
 cases jY k b 0 with
 |none=>rfl
 |some p=>rfl
theorem Jow (a:Fr)(b:St)(e:EK)(m k v:Opd):evOp a b (.mupd e m k v)=Jf6 b e (m.A a) (k.A a) (v.A a):=rfl
theorem JeK {α β:Type}(f:α->β)(g:α->α)(b:β->β)(h:∀a,f (g a)=b (f a)):∀(l:List α) (i:Nat),(l.modify i g).map f=(l.map f).modify i b
 |[],_=>by simp
 |a::r,0=>by simp[h]
 |a::r,i+1=>by simp[JeK f g b h r i]
theorem JaK {α:Type}[DecidableEq α]{enc:α->V}{e:EK}{c:List (α×V)}(h:g.A i= .b n (c.map fun p=>(enc p.1,p.2)))(k:α)(v:V)(l:∀p∈c,e.B (enc k) (enc p.1)=some (decide (k=p.1)))(f:e.A (enc k)=true):
  Jf6 g e (.q i) (enc k) v=some (Kj, .d i n fun u=> .b u ((Ja0 k v c).map fun p=>(enc p.1,p.2))):=by
 simp[Jf6,h,f,Jbs k c 0 l]
 cases m:jY k c 0 with
 |none=>rw[JcM m];simp
 | some p=>
   obtain⟨j,w⟩:=p;rw[JiZ m,JeK (fun p:α×V=>(enc p.1,p.2)) (fun _=>(k,v)) (fun _=>(enc k,v)) (fun a=>rfl)];rfl
structure Ch (W:Pt->Prop) (a b:St):Prop where
 i:Mono a b
 d:∀r,a.A r≠ .none->¬W r->b.A r=a.A r
section
variable {W W' : Pt -> Prop} {a b c : St}
theorem Ch.D (h:Ch W a b):WF b:=h.i.wf
theorem Ch.G (W:Pt->Prop)(h:WF a):Ch W a a:=⟨Mono.B h,fun _ _ _=>rfl⟩
theorem Ch.H (W:Pt->Prop)(h:Gr a b):Ch W a b:=⟨h.i,fun r e _=>h.d r e⟩
theorem Ch.A (h:Ch W a b)(k:Ch W' b c)(g:∀r,W' r->W r\/a.A r= .none):Ch W a c:=
 ⟨h.i.A k.i,fun r e n=>by
  have f:=h.d r e n;rw[k.d r (by grind) (fun w=>by grind),f]⟩
theorem Ch.I (h:Ch W a b)(k:Gr b c):Ch W a c:=h.A (Ch.H W k) fun _ w=> .inl w
theorem Ch.K (h:Ch W a b)(c:∀u,(j u).A=u/\j u≠ .none):Ch W a (b.B j):=h.I (Gr.G h.D c)
theorem Ch.J (h:Ch W a b){p:Pt}{t:Nat}{f:Nat->Row}(c:b.A p≠ .none)(g:(b.A p).A=t)(l:W p\/a.A p= .none)(j:∀u,(f u).A=u/\f u≠ .none):Ch W a (b.D p t f):=by
 refine⟨h.i.A (Q9 h.D c g j),fun r e n=> ?_⟩;have:r≠p:=fun k=>by grind
 rw[Ji _ _ _ this,h.d r e n]
theorem Ch.B (h:Ch W a b)(c:b.A Y= .none):a.A Y= .none:=by
 apply Xf;intro e;by_cases k:b.A Y=a.A Y
 ·grind
 ·exact(h.i.d Y k).2 c
end
theorem Jbt (a:St)(f:Nat->Row)(h:i≠a.b):(a.B f).A i=a.A i:=by rw[St.F,Ju _ _ h]
theorem KC (a:WF e)(f:Nat->Row)(h:e.A i≠ .none):(e.B f).A i=e.A i:=Jbt e f (Jru a h)
abbrev Str :=List UInt8
inductive Ty where
 |mk (kind:Int) (name:Str) (names:List Str) (kids:List Ty)
 deriving Inhabited
def Ty.A :Ty->Int| .mk k _ _ _=>k
def Ty.B :Ty->Str| .mk _ n _ _=>n
def Ty.D :Ty->List Str| .mk _ _ l _=>l
def Ty.G :Ty->List Ty| .mk _ _ _ l=>l
def strs (l:List Str):List (List V):=(l.map ofL).map fun x=>[x]
inductive TyC (P:Pt->Prop) (st:St):List V->Ty->Prop
 | mk {k:Int} {n:Str} {ns:List Str} {ks:List Ty} {nv kv:V} {es:List (List V)} (h1:SlAt P st nv 1 (strs ns)) (h2:SlAt P st kv 4 es) (h3:es.length=ks.length) (h4:∀i (h:i<es.length) (h':i<ks.length),TyC P st es[i] ks[i]):
   TyC P st [.d .i64 k,ofL n,nv,kv] (.mk k n ns ks)
theorem TyC.A {P Q:Pt->Prop}{st st':St}{e:List V}{t:Ty}(h:TyC P st e t)(k:∀r,P r->st.A r≠ .none->Q r/\st'.A r=st.A r):TyC Q st' e t:=by
 induction h with
 |mk a b c f d=>exact .mk (a.D k) (b.D k) c d
theorem TyC.H {t:Ty}(h:TyC s e k t)(a:Gr e g):TyC s g k t:=h.A fun r p k=>⟨p,a.d r k⟩
theorem SlAt.H (h:SlAt s e r n d)(a:Gr e g):SlAt s g r n d:=h.D fun b p c=>⟨p,a.d b c⟩
theorem TyC.B {P:Pt->Prop}{a:St}{e:List V}{t:Ty}(h:TyC P a e t):
  ∃c f b,e=[.d .i64 t.A,ofL t.B,c,f]/\SlAt P a c 1 (strs t.D)/\SlAt P a f 4 b/\b.length=t.G.length/\∀i (h:i<b.length) (m:i<t.G.length),TyC P a b[i] t.G[i]:=by
 cases h with
 |mk g j k l=>exact⟨_,_,_,rfl,g,j,k,l⟩
def Jl2 (P:Pt->Prop)(st:St)(v:V)(ts:List Ty):Prop:=∃es,SlAt P st v 4 es/\es.length=ts.length/\∀i (h:i<es.length) (h':i<ts.length),TyC P st es[i] ts[i]
theorem Jl2.A {P Q:Pt->Prop}{st st':St}{v:V}{t:List Ty}(h:Jl2 P st v t)(k:∀r,P r->st.A r≠ .none->Q r/\st'.A r=st.A r):Jl2 Q st' v t:=by
 obtain⟨a,b,c,d⟩:=h;exact⟨a,b.D k,c,fun i h e=>(d i h e).A k⟩
noncomputable def tsz (t:Ty):Nat:=SizeOf.sizeOf t
theorem YP {k:Int}{n:Str}{ns:List Str}{b:List Ty}(a:h<b.length):tsz b[h]<tsz (.mk k n ns b):=by
 have c:SizeOf.sizeOf b[h]<SizeOf.sizeOf b:=List.sizeOf_lt_of_mem (Xh a);show SizeOf.sizeOf b[h]<SizeOf.sizeOf (Ty.mk k n ns b)
 grind
theorem TyC.D {e:List V}{k:Int}{n:Str}{c:List Str}{a:List Ty}(h:TyC s g e (.mk k n c a)):
  ∃f j b,e=[.d .i64 k,ofL n,f,j]/\SlAt s g f 1 (strs c)/\SlAt s g j 4 b/\b.length=a.length/\∀i (h:i<b.length) (l:i<a.length),TyC s g b[i] a[i]:=h.B
theorem Gr.H (c:Gr e g):∀r,s r->e.A r≠ .none->s r/\g.A r=e.A r:=fun r p f=>⟨p,c.d r f⟩
theorem kR :∀r,s r->e.A r≠ .none->s r/\e.A r=e.A r:=fun _ p _=>⟨p,rfl⟩
theorem Gr.I {a:St}(g:Gr a e)(h:e.A Y= .none):a.A Y= .none:=(Ch.H (fun _=>False) g).B h
structure Nd where
 a:Int
 d:Str
 b:List Str
 c:List Nat
 deriving DecidableEq,Inhabited
structure Tb where
 a:List Nd
 c:List (Str×Nat)
 b:Nat
 d:List (Str×List Nat)
def idx (n:Nd):List Nd->Nat->Option Nat
 |[],_=>none
 |a::r,i=>if n=a then some i else idx n r (i+1)
def layS (tb:Tb)(n:Nd):Tb×Nat×Int:=match idx n tb.a 0 with
 |some i=>(tb,i,0)
 |none=>if 120<=tb.a.length then(tb,0,20)else({tb with a:=tb.a++[n]},tb.a.length,0)
mutual
def addT :Ty->Int->Tb->Tb×Nat×Int×Int
 | .mk k n ns ks,left,tb=>
   if left-1<0\/8<ks.length\/8<ns.length then(tb,0,20,left-1)else
   match JB ks (left-1) tb with
   | (tb,ids,e,left)=>if e≠0 then(tb,0,e,left)else
     match layS tb ⟨k,n,ns,ids⟩with
     |(tb,i,e)=>(tb,i,e,left)
def JB :List Ty->Int->Tb->Tb×List Nat×Int×Int
 |[],left,tb=>(tb,[],0,left)
 | t::r,left,tb=>
   match addT t left tb with
   | (tb,i,e,left)=>if e≠0 then(tb,[],e,left)else
     match JB r left tb with
     |(tb,l,e,left)=>(tb,i::l,e,left)
end
theorem Qu (k:Int)(n:Str)(b:List Str)(c:List Ty)(left:Int)(a:Tb):addT (.mk k n b c) left a=
  if left-1<0\/8<c.length\/8<b.length then(a,0,20,left-1)else
  match JB c (left-1) a with
  | (a,d,e,left)=>if e≠0 then(a,0,e,left)else
    match layS a ⟨k,n,b,d⟩with
    |(a,i,e)=>(a,i,e,left):=by rfl
theorem KU (left:Int)(a:Tb):JB [] left a=(a,[],0,left):=by rfl
theorem Kr (t:Ty)(r:List Ty)(left:Int)(a:Tb):JB (t::r) left a=
  match addT t left a with
  | (a,i,e,left)=>if e≠0 then(a,[],e,left)else
    match JB r left a with
    |(a,l,e,left)=>(a,i::l,e,left):=by rfl
def pre (l:List Nat)(x:Tb×List Nat×Int×Int):Tb×List Nat×Int×Int:=(x.1,l++x.2.1,x.2.2.1,x.2.2.2)
theorem Jky {ids:List Nat}{t:Ty}{r:List Ty}{left:Int}{tb:Tb}(h:(addT t left tb).2.2.1=0):
  pre ids (JB (t::r) left tb)=pre (ids++[(addT t left tb).2.1]) (JB r (addT t left tb).2.2.2 (addT t left tb).1):=by
 rw[Kr];generalize addT t left tb=x at h⊢;obtain⟨b,i,e,a⟩:=x;simp at h;subst h;simp;simp[pre]
theorem Jkz {ids:List Nat}{t:Ty}{r:List Ty}{left:Int}{tb:Tb}(h:(addT t left tb).2.2.1≠0):
  pre ids (JB (t::r) left tb)=((addT t left tb).1,ids,(addT t left tb).2.2.1,(addT t left tb).2.2.2):=by
 rw[Kr];generalize addT t left tb=x at h⊢;obtain⟨b,i,e,a⟩:=x;simp at h;simp[pre,h]
mutual
theorem jZ :∀(t:Ty) (left:Int) (a:Tb),0<=left-> -1<=(addT t left a).2.2.2/\(addT t left a).2.2.2<=left/\((addT t left a).2.2.1=0->0<=(addT t left a).2.2.2)
 | .mk k n m f,left,a,h=>by
   rw[Qu]
   split
   ·simp;omega
   ·rename_i g
    have g:¬(left-1<0):=fun e=>g (.inl e);have b:=JeL f (left-1) a (by omega);generalize JB f (left-1) a=x at b⊢;obtain⟨i,j,e,c⟩:=x;simp only at b⊢
    split
    ·simp only;refine⟨b.1,by omega,fun l=>absurd l ‹_›⟩
    ·rename_i d
     have d:e=0:=by simpa using d
     simp;exact⟨b.1,by omega,fun _=>b.2.2 d⟩
theorem JeL :∀(l:List Ty) (left:Int) (b:Tb),0<=left-> -1<=(JB l left b).2.2.2/\(JB l left b).2.2.2<=left/\((JB l left b).2.2.1=0->0<=(JB l left b).2.2.2)
 |[],left,b,h=>by rw[KU];simp;omega
 | t::r,left,b,h=>by
   have c:=jZ t left b h;rw[Kr];generalize addT t left b=x at c⊢;obtain⟨d,i,e,a⟩:=x;simp only at c⊢
   split
   ·rename_i f
    simp only;exact⟨c.1,c.2.1,fun k=>absurd k f⟩
   ·rename_i f
    have f:e=0:=by simpa using f
    have g:=JeL r a d (c.2.2 f);generalize JB r a d=y at g⊢;obtain⟨m,l,n,j⟩:=y;simp at g⊢;exact⟨g.1,by omega,g.2.2⟩
end
structure Mon (a b:St):Prop where
 d:Mono a b
 f:b.a<a.a->b.a<a.t->∃r,a.A r≠ .none/\b.A r≠a.A r/\(a.A r).A<=b.a
theorem Mon.A (h:WF e):Mon e e:=⟨Mono.B h,fun h=>absurd h (Z9 _)⟩
theorem Mon.B {b:St}(n:WF e)(h:Mon e b)(k:Mon b g):Mon e g:=by
 refine⟨h.d.A k.d,fun o p=> ?_⟩;have l1:=h.d.g;have l2:=k.d.g;have t1:=h.d.t;have j:g.a<b.a->∃r,e.A r≠ .none/\g.A r≠e.A r/\(e.A r).A<=g.a:=fun l=>by
  obtain⟨r,r1,r2,r3⟩:=k.f l (by omega);have i:b.A r=e.A r:=by
   apply Xf;intro i;have:=(h.d.d r i).1;omega
  grind
 by_cases l:g.a<b.a
 ·grind
 ·have i:g.a=b.a:=by omega
  obtain⟨r,r1,r2,r3⟩:=h.f (by omega) (by omega);refine⟨r,r1,fun q=> ?_,by omega⟩;by_cases m:g.A r=b.A r
  ·grind
  ·have:=(k.d.d r m).1
   grind
theorem Jox (h:WF e){f:Nat->Row}(c:e.A i≠ .none)(g:(e.A i).A=n)(j:∀u,(f u).A=u/\f u≠ .none):Mon e (e.D i n f):=by
 refine⟨Q9 h c g j,fun d k=>⟨i,c,fun b=> ?_, ?_⟩⟩
 ·rw[Jk]at b;have l:=h.t i c
  grind
 ·have d:(if n<e.a then n else e.a)<e.a:=d;show _<=(if n<e.a then n else e.a)
  grind
theorem Jl3 (h:WF e)(a:∀u,(j u).A=u/\j u≠ .none):Mon e (e.B j):=⟨ja h a,fun h=>absurd h (Z9 _)⟩
theorem Jsw {i:St}(h:WF i){e:Eff}(g:e.B i):Mon i (i.I e):=by
 cases e with
 |a=>exact Mon.A h
 |b f=>exact Jl3 h g
 |d r t f=>exact Jox h g.1 g.2.1 g.2.2
 | e r t f=>
   have j:=Jox (f:= .c) h g.1 g.2.1 (fun u=>⟨rfl,by simp⟩);exact j.B h (Jl3 j.d.wf g.2.2)
def Jl4 (self:Self):Prop:=∀f args st v st',self f args st=some (v,st')->WF st->Mon st st'
section
variable {self : Self} (hself : Jl4 self)
include hself
theorem JeM {x:Iop}(b:K0 self X e x=some (r,g))(c:WF e):Mon e g:=by
 unfold K0 at b
 split at b
 ·exact hself _ _ _ _ _ b c
 ·split at b
  ·exact hself _ _ _ _ _ b c
  grind
 ·obtain⟨⟨h,a⟩,f,d⟩:=JJ b;injection d with _ d;subst d;exact Jsw c (Jal f).1
theorem Jhy {l:Option (List Nat)}{x:Iop}(o:KV self l X e x=some (r,g))(q:WF e):Mon e g:=by
 unfold KV at o
 cases s:K0 self X {e with a:=e.t} x with
 |none=>grind
 | some p=>
   obtain⟨N,h⟩:=p;rw[s]at o;have m:=JeM hself s (Js q _);have u:=m.d.g;have u:h.a<=e.t:=u;have z:∀k,k<=e.a->k<=h.a\/h.a=e.t->(k<e.a->k=h.a)->Mon e {h with a:=k}:=fun k K O L=>by
    refine⟨⟨⟨m.d.wf.a,m.d.wf.t⟩,m.d.t,m.d.i,m.d.d,K,fun b w M=> ?_,m.d.f⟩,fun n y=> ?_⟩
    ·have P:h.a<=(e.A b).A:=m.d.j b w M;have Q:=q.t b w
     grind
    ·have n:k<e.a:=n;have y:k<e.t:=y;have c:=L n;obtain⟨b,r1,r2,r3⟩:=m.f (by grind) (by grind);exact⟨b,r1,r2,by have r3:(e.A b).A<=h.a:=r3;grind⟩
   grind
theorem Jm2 {a:Bool}{b:Fr}{x:Ins}(d:Yk self a X e x=some (b,g))(c:WF e):Mon e g:=by
 obtain⟨v,_,h|h⟩:=jU d
 ·rw[h];exact Mon.A c
 ·split at h
  ·exact Jhy hself h c
  ·exact JeM hself h c
theorem qE {b:Bool}:∀{l:List Ins} {fr c:Fr} {e a:St},Kl self b l fr e=some (c,a)->WF e->Mon e a
 | [],_,_,_,_,h,f=>by
   simp[Kl]at h;obtain⟨_,rfl⟩:=h;exact Mon.A f
 | i::r,fr,c,e,a,h,f=>by
   simp[Kl]at h
   split at h
   ·rename_i j k m
    have g:=Jm2 hself m f;exact g.B f (qE h g.d.wf)
   grind
omit hself in
theorem Jgm {b:Fr->St->Option Out}{e:List Nat}(f:∀fr c a,b fr c=some a->WF c->Mon c a.A):∀(k:Nat) {fr:Fr} {c:St} {a:Out},qT b e k fr c=some a->WF c->Mon c a.A
 |0,_,_,_,h,_=>by cases h
 | k+1,fr,c,a,h,g=>by
   simp[qT]at h
   split at h
   ·rename_i j l m
    have i:=f _ _ _ m g;exact i.B g (Jgm f k h i.d.wf)
   ·exact f _ _ _ h g
theorem Jqs (K:Nat):∀(w:C) {fr:Fr} {o:St} {a:Out},evD self K w fr o=some a->WF o->Mon o a.A:=by
 intro w
 induction w with
 |d=>intro fr o a h b;simp[evD]at h;subst h;exact Mon.A b
 | k l=>
   intro fr o a h b;simp only[evD]at h;obtain⟨⟨q,p⟩,r,L⟩:=JJ h;subst L;exact qE hself r b
 | n l M=>
   intro fr o a h b;simp[evD]at h
   split at h
   ·rename_i q p r
    split at h
    ·injection h with h;subst h;exact qE hself r b
    grind
   grind
 | j x y s t=>
   intro fr o a h b;simp[evD]at h
   split at h
   ·rename_i q p r
    have u:=s r b;exact u.B b (t h u.d.wf)
   grind
 | h v x y s t=>
   intro fr o a h b;simp[evD]at h
   split at h
   ·rename_i q p r
    have u:=s r b;exact u.B b (t h u.d.wf)
   grind
 | f c x y s t=>
   intro fr o a h b;simp[evD]at h
   grind
 | e id x z=>
   intro fr o a h b;simp[evD]at h
   split at h
   ·rename_i i q p r
    have u:Mon o p:=z r b
    split at h
    ·injection h with h;subst h;exact u
    grind
   grind
 | g v x z=>
   intro fr o a h b;exact Jgm (fun fr o a h b=>z h b) _ h b
 |i i=>intro fr o a h b;simp[evD]at h;subst h;exact Mon.A b
 |m=>intro fr o a h b;simp[evD]at h;subst h;exact Mon.A b
end
def Jaa (b:Self->List V->St->Option (V×St)):Prop:=∀self,Jl4 self->∀args st v st',b self args st=some (v,st')->WF st->Mon st st'
theorem Jsx (f:Nat)(g:Fn):Jaa (evFn f g):=by
 intro self l args n v p h q;unfold evFn at h
 cases j:evD self f g.body (qr args) n with
 |none=>grind
 | some o=>
   have m:=Jqs l f g.body j q;rw[j]at h
   cases o with
   | a k e=>
     obtain⟨u,_,d⟩:=JJ h;injection d with _ d;subst d;exact m
   | c k e=>
     obtain⟨u,_,d⟩:=JJ h;injection d with _ d;subst d;exact m
   |b i k e=>cases h
theorem Joy (g:List V->Option V):Jaa (Jdm g).b:=by
 intro self e args c v a h d;have h:(match g args with
  |some v=>some (v,c)
  |none=>none)=some (v,a):=h
 split at h
 ·injection h with h;injection h with _ h;subst h;exact Mon.A d
 grind
theorem JrM {T:Table}(h:∀f b,T f=some b->Jaa b):∀n,Jl4 (run T n)
 |0=>fun _ _ _ _ _ k=>by cases k
 | n+1=>fun f a d v c k e=>by
   simp[run]at k
   split at k
   ·rename_i b g
    exact h f b g _ (JrM h n) a d v c k e
   grind
theorem Jtw {t:BT}(h:t.A fun _ e=>Jaa e.b):∀f,Jaa (selB t f):=by
 induction t with
 | a i e=>
   intro f;show Jaa (bif Nat.beq f i then e.b else Jf7)
   cases Nat.beq f i with
   |true=>exact h
   |false=>exact fun _ _ _ _ _ _ k=>by cases k
 | b n l r c d=>
   intro f;show Jaa (bif Nat.ble f n then selB l f else selB r f)
   cases Nat.ble f n with
   |true=>exact c h.1 f
   |false=>exact d h.2 f
def TabM (T:Table):Prop:=∀n,Jl4 (run T n)
theorem Jtx {t:BT}(h:t.A fun _ e=>Jaa e.b):TabM (tabT t):=JrM fun f b a=>by
 simp[tabT]at a;subst a;exact Jtw h f
theorem Does.B (b:TabM m){args:List V}(c:WF e)(h:Does m n args e l):Does m n args e fun v st'=>Mon e st'/\l v st':=by
 obtain⟨v,st',d,N,a⟩:=h;exact⟨v,st',⟨b _ _ _ _ _ _ (a N (Xb _)) c,d⟩,N,a⟩
theorem Mon.D {b:St}(h:Mon g b)(k:∀r,g.A r≠ .none->b.A r=g.A r):Gr g b:=by
 refine⟨h.d,k,fun e=> ?_⟩;have l:=h.d.g;apply Xf;intro c;obtain⟨r,r1,r2,_⟩:=h.f (by omega) (by omega)
 grind
theorem Does.G (c:TabM m){f:Nat}{args:List V}(d:WF e)(h:Does m f args e fun v b=>(∀r,e.A r≠ .none->b.A r=e.A r)/\l v b):
  Does m f args e fun v b=>Gr e b/\l v b:=(h.B c d).A fun _ _ ⟨a,k,q⟩=>⟨a.D k,q⟩
theorem Does.D (b:TabM m){W:Pt->Prop}{args:List V}{Q:V->St->Prop}(c:WF e)(h:Does m n args e fun v st'=>(∀r,e.A r≠ .none->¬W r->st'.A r=e.A r)/\Q v st'):
  Does m n args e fun v st'=>Ch W e st'/\Q v st':=(h.B b c).A fun _ _ ⟨a,k,q⟩=>⟨⟨a.d,k⟩,q⟩
def up :Nat->Pt->Pt
 |0,p=>p
 |k+1,p=>(up k p).F
theorem Y6 (k:Nat)(p:Pt):(up k p).F=up (k+1) p:=Xe (Xk _)
theorem JeN :∀(k:Nat) (p:Pt),(up k p).A=p.A+k
 |0,_=>rfl
 |k+1,p=>by show((up k p).F).A=_;rw[Pt.D,JeN k p];omega
theorem Jl5 (i j:Nat)(p:Pt):(up i p=up j p)=(i=j):=by
 apply propext;constructor
 ·intro h;have:=congrArg Pt.A h;rw[JeN,JeN]at this;omega
 grind
theorem Jab (i j:Nat)(p:Pt):(up i p≠up j p)=(i≠j):=by rw[Ne,Jl5]
theorem up0 (p:Pt):p=up 0 p:=Xe (Xk _)
theorem nxE (S:St):∃n,S.b=up 0 n:=⟨_,up0 _⟩
theorem exE {α:Sort _}(a:α):∃b,b=a:=⟨a,rfl⟩
theorem opE (P:Fr->St->Prop):∃I:Fr->St->Prop,∀fr S,I fr S<->P fr S:=⟨P,fun _ _=>Iff.rfl⟩
theorem loE (P:Nat->Fr->St->Prop):∃I:Nat->Fr->St->Prop,∀j fr S,I j fr S<->P j fr S:=⟨P,fun _ _ _=>Iff.rfl⟩
section
variable (st : St) (f : Nat -> Row) (p q : Pt) (t : Nat)
theorem Y7 :(st.B f).b=st.b.F:=Xe (Xk _)
theorem Jac :(st.D p t f).b=st.b:=Xe (Xk _)
theorem KW :(st.B f).A p=if p=st.b then f st.t else st.A p:=by
 rw[St.F];rfl
theorem J6 :(st.D q t f).A p=if p=q then f st.t else st.A p:=by
 rw[St.G];rfl
end
theorem jM (d:WF e)(f:e.b=up 0 i)(h:e.A Y≠ .none)(k:Nat):(Y=up k i)=False:=by
 apply propext;constructor
 ·intro c;have g:=d.a Y h;rw[f,c,JeN,JeN]at g;omega
 simp
theorem Jr (c:WF e)(d:e.b=up 0 i)(h:e.A Y≠ .none)(k:Nat):Y≠up k i:=fun a=>by
 have:=jM c d h k
 grind
theorem Jgn (l:List V):(V.j l).A=some l:=Xe (Xk _)
theorem Jgo (k:IntKind)(n:Int):(V.d k n).A=some [.d k n]:=Xe (Xk _)
theorem JeO (b:Bool):(V.h b).A=some [.h b]:=Xe (Xk _)
theorem Jgp (l:List UInt8):(ofL l).A=some [ofL l]:=Xe (Xk _)
theorem Jgq (r:Pt)(o:Nat):(V.e r o).A=some [.e r o]:=Xe (Xk _)
theorem JeP :V.g.A=some [.g]:=Xe (Xk _)
theorem Ji1 (r:Pt)(o n z:Nat):(V.u r o n z).A=some [.u r o n z]:=Xe (Xk _)
theorem Jgr (r:Pt)(o n z c:Nat):(V.m r o n z c).A=some [.m r o n z c]:=Xe (Xk _)
theorem Jgs (r:Pt):(V.q r).A=some [.q r]:=Xe (Xk _)
theorem Ji2 (f:Nat)(a b:List V):(V.D f a b).A=some [.D f a b]:=Xe (Xk _)
theorem Jbu (k:IntKind)(n:Int):(V.d k n).B=true:=Xe (Xk _)
theorem Jhz (b:Bool):(V.h b).B=true:=Xe (Xk _)
theorem JhA (l:List UInt8):(ofL l).B=true:=Xe (Xk _)
theorem Joz (r:Pt)(o:Nat):(V.e r o).B=true:=Xe (Xk _)
theorem Jl6 :V.g.B=true:=Xe (Xk _)
theorem JrN (r:Pt)(o n z:Nat):(V.u r o n z).B=true:=Xe (Xk _)
theorem JoA (r:Pt)(o n z c:Nat):(V.m r o n z c).B=true:=Xe (Xk _)
theorem JoB (r:Pt):(V.q r).B=true:=Xe (Xk _)
theorem JrO (f:Nat)(a b:List V):(V.D f a b).B=true:=Xe (Xk _)
theorem QB :Kk []=true:=Xe (Xk _)
theorem KN (a:V)(l:List V):Kk (a::l)=(a.B&&Kk l):=Xe (Xk _)
theorem JL (l:List V)(o:Nat)(a:List V):JF l o a=l.take o++a++l.drop (o+a.length):=Xe (Xk _)
def Jl7 (x:Row)(r:Pt)(o n:Nat)(vs:List V):Option (V×Eff):=match x with
 | .a t l=>if vs.length=n/\o+vs.length<=l.length/\Kk vs=true then some (Kj, .d r t fun u=> .a u (JF l o vs))else none
 |_=>none
def JoC (st:St)(n:Nat)(x:V)(c:Option (List V)):Option (V×Eff):=match c with
 | some vs=>match x with
   | .e r o=>Jl7 (st.A r) r o n vs
   |_=>none
 |none=>none
theorem Jgt (a:St)(n:Nat)(x v:V):Jot a n x v=JoC a n x v.A:=by
 unfold Jot JoC
 cases v.A with
 |none=>rfl
 | some b=>
   simp
   cases x with
   | e r o=>
     simp[JO,Jl7]
     grind
   |_=>simp[JO,ite_self]
theorem Jgu (a:St)(n:Nat)(r:Pt)(o:Nat)(b:List V):JoC a n (.e r o) (some b)=Jl7 (a.A r) r o n b:=Xe (Xk _)
theorem Jdq (t:Nat)(l:List V)(r:Pt)(o n:Nat)(b:List V):Jl7 (.a t l) r o n b=if b.length=n/\o+b.length<=l.length/\Kk b=true then some (Kj, .d r t fun u=> .a u (JF l o b))else none:=Xe (Xk _)
def boxB (st:St)(c:Option (List V)):Option (V×Eff):=match c with
 |some vs=>if Kk vs=true then some (.e st.b 0,Eff.b fun t=> .a t vs)else none
 |none=>none
theorem Ji3 (a:St)(x:V):boxV a x=boxB a x.A:=Xe (Xk _)
theorem Jgv (d:St)(c:List V):boxB d (some c)=if Kk c=true then some (.e d.b 0,Eff.b fun t=> .a t c)else none:=Xe (Xk _)
def JrP (z:List V)(o n:Nat)(r:List (Nat×Nat×V))(c:Option (List V)):Option (List V):=match c with
 |some vs=>if vs.length=n/\o+n<=z.length then YU (JF z o vs) r else none
 |none=>none
theorem Ji4 (z:List V):YU z []=some z:=Xe (Xk _)
theorem Jgw (z:List V)(o n:Nat)(v:V)(r:List (Nat×Nat×V)):YU z ((o,n,v)::r)=JrP z o n r v.A:=Xe (Xk _)
theorem JeQ (z:List V)(o n:Nat)(r:List (Nat×Nat×V))(a:List V):JrP z o n r (some a)=if a.length=n/\o+n<=z.length then YU (JF z o a) r else none:=Xe (Xk _)
theorem JeR (d:St)(b:List V)(c:List (Nat×Nat×V)):JnP d b c=(YU b c).map fun l=>(.j l, .a):=Xe (Xk _)
def bslB (st:St)(z n:Nat)(c:Option (List V)):Option (V×Eff):=match c with
 |some l=>if Kk l=true/\l.length=n*z then some (.m st.b 0 n z n,Eff.b fun t=> .a t l)else none
 |none=>none
theorem Ji5 (a:St)(z n:Nat)(b:List V)(c:List (Nat×Nat×V)):bslV a z n b c=bslB a z n (YU b c):=Xe (Xk _)
theorem Jgx (c:St)(z n:Nat)(l:List V):bslB c z n (some l)=if Kk l=true/\l.length=n*z then some (.m c.b 0 n z n,Eff.b fun t=> .a t l)else none:=Xe (Xk _)
theorem Jgy (a:Fr):evps a []=[]:=Xe (Xk _)
theorem JeS (c:Fr)(a b:Nat)(x:Opd)(r:List (Nat×Nat×Opd)):evps c ((a,b,x)::r)=(a,b,x.A c)::evps c r:=Xe (Xk _)
theorem JoD (a:Fr)(b:St)(z:Nat)(d x:Opd):evOp a b (.copy z d x)=copyV b z (d.A a) (x.A a):=Xe (Xk _)
theorem JoE (a:Fr)(b:St)(n z:Nat)(x:Opd)(c d e:Option Opd):evOp a b (.cutA n z x c d e)=Jrr b n z (x.A a) (c.map (Opd.A a)) (d.map (Opd.A a)) (e.map (Opd.A a)):=Xe (Xk _)
theorem Jl8 (c:Fr)(a:St):evOp c a .g=some (.q a.b,Eff.b fun t=> .b t []):=Xe (Xk _)
theorem JoF (a:Fr)(b:St)(z:Nat)(d:List V)(n c:Opd):evOp a b (.t z d n c)=Jlj b z d (n.A a) (c.A a):=Xe (Xk _)
def JoG (x:Row)(n z:Nat)(r:Pt)(o:Nat)(lo hi mx:Option V):Option (V×Eff):=match x with
 | .a _ l=>if o+n*z<=l.length then(YV z (.m r o n z n) lo hi mx).map fun v=>(v, .a)else none
 |_=>none
theorem Jgz (a:St)(n z:Nat)(r:Pt)(o:Nat)(b c d:Option V):Jrr a n z (.e r o) b c d=JoG (a.A r) n z r o b c d:=Xe (Xk _)
theorem JgA (t:Nat)(l:List V)(n z:Nat)(r:Pt)(o:Nat):JoG (.a t l) n z r o none none none=if o+n*z<=l.length then some (.m r o n z n, .a)else none:=by
 unfold JoG;simp
 split
 ·simp[YV,J7]
 ·rfl
theorem Jl9 (b:St)(c:Fr)(i n:Nat)(Q:V->St->Prop):resP b c [.a i n] Q=wW (Yo b n (c i)) b Q:=by
 have h:=qC c b n (.s i);have h:(Kw b n (c i)).map (fun l=>(V.j l,Eff.a))=Yo b n (c i):=h;rw[<-h];simp[resP,QA,jR]
 cases Kw b n (c i)<;>rfl
theorem JgB (b:St)(c:Fr)(i n j:Nat)(Q:V->St->Prop):resP b c [.a i n, .s j] Q=wW (Yo b n (c i)) b fun v b=>Q (.p [v,c j]) b:=by
 have h:=qC c b n (.s i);have h:(Kw b n (c i)).map (fun l=>(V.j l,Eff.a))=Yo b n (c i):=h;rw[<-h];simp[resP,QA,jR]
 cases Kw b n (c i)<;>rfl
theorem Jma (a:St)(R:V->St->Prop):wW none a R=False:=propext Iff.rfl
theorem SlAt.A {P:Pt->Prop}{st:St}{v:V}{z:Nat}{a:List (List V)}(h:SlAt P st v z a):v.A=some [v]:=by
 rcases h.2 with⟨rfl,rfl⟩|⟨r,o,_,rfl|⟨c,_,rfl⟩,_⟩<;>rfl
theorem SlAt.B {P:Pt->Prop}{a:St}{v:V}{z:Nat}{b:List (List V)}(h:SlAt P a v z b):v.B=true:=by
 rcases h.2 with⟨rfl,rfl⟩|⟨r,o,_,rfl|⟨c,_,rfl⟩,_⟩<;>rfl
theorem SlAt.O (h:SlAt s e r n d):JA e n d.length r=some d.flatten:=by
 rcases h.2 with⟨rfl,rfl⟩|⟨a,o,_,j,l,b,g,i⟩
 ·rfl
 ·have f:Kw e (d.length*n) (.e a o)=some d.flatten:=by
   rcases b with⟨t,b⟩|b
   ·simp[Kw,b,Xd g,i]
   ·simp[Kw,b,Xd g,i]
  rcases j with rfl|⟨c,_,rfl⟩
  ·simp[JA,f]
  ·simp[JA,f]
def okC (es:List (List V)):Prop:=∀e∈es,Kk e=true
theorem okC.A (h:okC d):Kk d.flatten=true:=by
 rw[Kk,List.all_flatten,Ze];intro e a;exact h e a
theorem SlAt.J {P:Pt->Prop}{st:St}{r:Pt}{t z:Nat}{es:List (List V)}(c:st.A r= .a t es.flatten)(d:P r)(b:∀e∈es,e.length=z):SlAt P st (.m r 0 es.length z es.length) z es:=
 ⟨b, .inr ⟨r,0,d, .inr ⟨_,Xb _,rfl⟩,es.flatten, .inl ⟨t,c⟩,by rw[Jt b];omega,by rw[XQ,<-Jt b,Zf]⟩⟩
theorem Jm3 (c:SlAt s e r n d)(f:okC d)(g:d.length<2^20)(j:0<d.length)(k:e.A i= .a h []):
  appV e n (.m i 0 0 n 0) r=some (.u e.b 0 d.length n, .b fun u=> .a u d.flatten):=by
 unfold appV;rw[c.N];simp only[c.O];rw[Xd ⟨g,f.A⟩];unfold JI
 grind
theorem JkA (h:SlAt s e r n []):
  appV e n (.m i 0 0 n 0) r=some (.m i 0 0 n 0, .a):=by
 unfold appV;rw[h.N];have b:=h.O;simp at b⊢;rw[b];rfl
theorem Jty (a:Nat)(c:Fn):Jaa (fnD a c).b:=Jsx a c
theorem nx0 (c:WF e)(d:e.b=up 0 i)(k:Nat):e.A (up k i)= .none:=by
 apply Xf;intro a;exact Jr c d a k rfl
theorem SlAt.U (h:SlAt s e r n d):slenX r=some d.length:=by
 rcases h.2 with⟨rfl,rfl⟩|⟨a,o,_,rfl|⟨c,_,rfl⟩,_⟩<;>rfl
theorem SlAt.T (h:SlAt s e r n d):cellsX e n d.length r=some d.flatten:=by
 have:=h.O;rcases h.2 with⟨rfl,rfl⟩|⟨a,o,_,rfl|⟨c,_,rfl⟩,_⟩<;>exact this
theorem Jmb {st0:St}(c:SlAt s st0 r n d)(K:∀i,st0.A i≠ .none->e.A i=st0.A i)(g:okC d){t:Nat}{l:List V}(q:e.A i= .a t l)(L:h+o*n<=l.length)(u:d.length<=o)
  {R:V->St->Prop} (k:∀S' M,S'.A i= .a M (JF l h d.flatten)->(∀p,p≠i->S'.A p=e.A p)->S'.b=e.b->R (.d .i64 d.length) S'):wW (copyV e n (.m i h o n o) r) e R:=by
 have w:SlAt s e r n d:=c.D fun i p f=>⟨p,K i f⟩
 have x:=Jt c.1;have N:Nat.min d.length o=d.length:=Zd u;have y:d.length*n<=o*n:=Zb _ u;unfold copyV;rw[w.U];simp only[slen,N,w.T];by_cases j:d.length=0
 ·rw[Xd j];have:d=[]:=XB.1 j;subst this;refine k e t ?_ (fun _ _=>rfl) rfl;rw[q];simp[JL]
 ·rw[Xa j];simp only[jQ,JO,q];rw[Xd ⟨by omega,g.A⟩];refine k _ e.t ?_ (fun p O=> ?_) rfl
  ·rw[JlC,Jk]
  ·rw[JlC,Ji _ _ _ O]
def ints (l:List Nat):List (List V):=(l.map fun n:Nat=>V.d .i64 (n:Int)).map fun x=>[x]
theorem Yp (l:List Str):okC (strs l):=fun e a=>by
 obtain⟨x,b,rfl⟩:=XA.1 a;obtain⟨y,_,rfl⟩:=XA.1 b;rfl
theorem JdT (l:List Nat):okC (ints l):=fun e a=>by
 obtain⟨x,b,rfl⟩:=XA.1 a;obtain⟨y,_,rfl⟩:=XA.1 b;rfl
theorem Jw (l:List Str):(strs l).length=l.length:=by simp[strs]
theorem JS (l:List Nat):(ints l).length=l.length:=by simp[ints]
theorem Jan (l:List V):(l.map fun x=>[x]).flatten=l:=by
 induction l with
 |nil=>rfl
 |cons a r b=>simp[b]
theorem JgC (l:List Str):(strs l).flatten=l.map ofL:=Jan _
theorem JgD (l:List Nat):(ints l).flatten=l.map fun n:Nat=>V.d .i64 (n:Int):=Jan _
def NdC (P:Pt->Prop)(st:St)(e:List V)(n:Nd):Prop:=∃nv kv,e=[.d .i64 n.a,ofL n.d,nv,kv]/\SlAt P st nv 1 (strs n.b)/\SlAt P st kv 1 (ints n.c)
theorem NdC.A {P Q:Pt->Prop}{st st':St}{e:List V}{n:Nd}(h:NdC P st e n)(k:∀r,P r->st.A r≠ .none->Q r/\st'.A r=st.A r):NdC Q st' e n:=by
 obtain⟨a,b,c,d,f⟩:=h;exact⟨a,b,c,d.D k,f.D k⟩
theorem NdC.B {st':St}{n:Nd}(h:NdC s e k n)(g:Gr e st'):NdC s st' k n:=h.A fun r p k=>⟨p,g.d r k⟩
def pad (l:List V)(z:V):List V:=l++List.replicate (8-l.length) z
def keyL (n:Nd):List V:=[.d .i64 n.a, .d .i64 n.b.length, .d .i64 n.c.length,ofL n.d]++(pad (n.b.map ofL) (ofL [])++pad (n.c.map fun k:Nat=>V.d .i64 (k:Int)) (.d .i64 0))
def Nd.A (n:Nd):Prop:=n.b.length<=8/\n.c.length<=8
theorem kG (a:Fr):JP a []=true:=Xe (Xk _)
theorem JdU {l:List V}{z:V}(h:l.length<=8):(pad l z).length=8:=by simp[pad];omega
theorem Jdr (a:List V)(s:V)(b c:List V)(h:c.length<=8):JF (a++(List.replicate 8 s++b)) a.length c=a++(pad c s++b):=by
 have d:(a++(List.replicate 8 s++b)).drop (a.length+c.length)=List.replicate (8-c.length) s++b:=by
  rw[Gp,Xm (by omega),GT,Gw (by grind),List.drop_replicate,XT]
 rw[JL,d,pad];simp
theorem YI {a:List V}(h:k.length=a.length):JF k 0 a=a:=by
 rw[JL,ZD,<-h];simp
theorem Jtz (a b c d:V)(s i:V)(e:List V)(h:e.length<=8):JF [a,b,c,d,s,s,s,s,s,s,s,s,i,i,i,i,i,i,i,i] 4 e=[a,b,c,d]++(pad e s++List.replicate 8 i):=Jdr [a,b,c,d] s (List.replicate 8 i) e h
theorem JtA (a b c d:V)(s i:V)(e f:List V)(g:e.length<=8)(h:f.length<=8):JF ([a,b,c,d]++(pad e s++List.replicate 8 i)) 12 f=[a,b,c,d]++(pad e s++pad f i):=by
 have:=Jdr ([a,b,c,d]++pad e s) i [] f h;rw[ZC,ZC,Za,X7,JdU g]at this
 grind
theorem qF (a b:List V):Kk (a++b)=(Kk a&&Kk b):=by simp[Kk]
theorem Jb3 {n:Nd}(h:n.A):(keyL n).length=20:=by
 have a:=JdU (l:=n.b.map ofL) (z:=ofL []) (by simpa using h.1);have e:=JdU (l:=n.c.map fun k:Nat=>V.d .i64 (k:Int)) (z:= .d .i64 0) (by simpa using h.2);simp only[keyL,X7,a,e];rfl
theorem JgE (h:Kk k=true)(a:r.B=true):Kk (pad k r)=true:=by
 rw[pad,qF,h];simp[Kk,a]
theorem JhB (n:Nd):Kk (keyL n)=true:=by
 rw[keyL,qF,qF,JgE,JgE]
 ·rfl
 ·simp[Kk,V.B]
 ·rfl
 ·rw[<-JgC];exact(Yp _).A
 ·rfl
theorem JeT :∀{ks c:List KD} {d a f g:List V} {b i:Bool},keqs ks d a=some b->keqs c f g=some i->keqs (ks++c) (d++f) (a++g)=some (b&&i)
 |[],_,[],[],_,_,b,i,h,j=>by simp[keqs]at h;grind
 | k::ks,_,x::d,y::a,_,_,b,i,h,j=>by
   simp[keqs]at h⊢
   split at h
   ·rename_i e;exact JeT h j
   ·grind
   grind
 |[],_,x::d,a,_,_,_,_,h,_=>by simp[keqs]at h
 |[],_,[],y::a,_,_,_,_,h,_=>by simp[keqs]at h
 |k::ks,_,[],a,_,_,_,_,h,_=>by simp[keqs]at h
 |k::ks,_,x::d,[],_,_,_,_,h,_=>by simp[keqs]at h
theorem Ji6 :∀{n:Nat} {l m:List Str},l.length=n->m.length=n->keqs (List.replicate n .s) (l.map ofL) (m.map ofL)=some (decide (l=m))
 | 0,l,m,c,d=>by
   rw[XB.1 c,XB.1 d];rfl
 |n+1,[],_,c,_=>by grind
 |n+1,_::_,[],_,d=>by grind
 | n+1,a::l,b::m,c,d=>by
   have e:=Ji6 (n:=n) (l:=l) (m:=m) (by grind) (by grind);simp only[ZO,XV,keqs,keq,ofL,Jb1];by_cases h:a=b
   ·simp_all
   ·simp[h]
theorem Jb4 :∀{n:Nat} {l m:List Int},l.length=n->m.length=n->keqs (List.replicate n .i) (l.map (V.d .i64)) (m.map (V.d .i64))=some (decide (l=m))
 | 0,l,m,c,f=>by
   rw[XB.1 c,XB.1 f];rfl
 |n+1,[],_,c,_=>by grind
 |n+1,_::_,[],_,f=>by grind
 | n+1,a::l,b::m,c,f=>by
   have g:=Jb4 (n:=n) (l:=l) (m:=m) (by grind) (by grind);simp only[ZO,XV,keqs,keq,ZT];by_cases h:a=b
   ·simp_all
   ·have e:(a==b)=false:=by grind
    rw[e];simp[h]
def padS (l:List Str):List Str:=l++List.replicate (8-l.length) []
def padI (l:List Nat):List Int:=l.map (fun n:Nat=>(n:Int))++List.replicate (8-l.length) 0
theorem JeU (n:Nd):keyL n=([n.a,(n.b.length:Int),(n.c.length:Int)]:List Int).map (V.d .i64)++((n.d::padS n.b).map ofL++(padI n.c).map (V.d .i64)):=by
 simp[keyL,pad,padS,padI,Function.comp_def]
abbrev ekN :EK:= .b [.i, .i, .i, .s, .s, .s, .s, .s, .s, .s, .s, .s, .i, .i, .i, .i, .i, .i, .i, .i]
theorem Jsy {a b:Nd}(e:a.A)(f:b.A):ekN.B (.j (keyL a)) (.j (keyL b))=some (decide (a=b)):=by
 have q:ekN.B (.j (keyL a)) (.j (keyL b))=keqs [.i, .i, .i, .s, .s, .s, .s, .s, .s, .s, .s, .s, .i, .i, .i, .i, .i, .i, .i, .i] (keyL a) (keyL b):=by
  show(if _ then _ else _)=_;rw[Xd ⟨by rw[Jb3 e];rfl,by rw[Jb3 f];rfl⟩]
 have l1:∀l:List Str,l.length<=8->(padS l).length=8:=fun l h=>by simp[padS];omega
 have l2:∀l:List Nat,l.length<=8->(padI l).length=8:=fun l h=>by simp[padI];omega
 have r:=JeT (Jb4 (n:=3) (l:=[a.a,(a.b.length:Int),(a.c.length:Int)]) (m:=[b.a,(b.b.length:Int),(b.c.length:Int)]) rfl rfl)
  (JeT (Ji6 (n:=9) (l:=a.d::padS a.b) (m:=b.d::padS b.b) (by simp[l1 _ e.1]) (by simp[l1 _ f.1])) (Jb4 (n:=8) (l:=padI a.c) (m:=padI b.c) (l2 _ e.2) (l2 _ f.2)))
 rw[q,JeU,JeU];refine r.trans ?_;congr 1;rw[<-Bool.decide_and,<-Bool.decide_and];apply decide_eq_decide.2;constructor
 ·rintro⟨g,k,t⟩;simp at g k;obtain⟨w,o,u⟩:=g;obtain⟨z,v⟩:=k;have o:a.b.length=b.b.length:=by omega
  have u:a.c.length=b.c.length:=by omega
  have K:a.b=b.b:=(List.append_inj v o).1;have p:a.c.map (fun n:Nat=>(n:Int))=b.c.map (fun n:Nat=>(n:Int)):=(List.append_inj t (by grind)).1;have p:a.c=b.c:=(List.map_inj_right (fun x y h=>by omega)).1 p
  cases a;simp_all
 grind
theorem Gr.M (h:Gr e g)(k:g.b=Y){f c:Nat->Row}(l:∀u,(f u).A=u/\f u≠ .none)(m:∀u,(c u).A=u/\c u≠ .none):Gr e ((g.B f).D Y g.t c):=by
 subst k;have n:=h.B (Gr.G h.D l);exact n.J h.K (by rw[JM];grind) (by rw[JM];grind) m
theorem Gr.L (h:Gr e g){f:Nat->Row}(b:∀u,(f u).A=u/\f u≠ .none):Gr e (g.B f):=h.B (Gr.G h.D b)
theorem Jd (l:List V):∀u,(Row.a u l).A=u/\Row.a u l≠ .none:=fun u=>⟨rfl,fun e=>by cases e⟩
theorem Q4 (l:List (V×V)):∀u,(Row.b u l).A=u/\Row.b u l≠ .none:=fun u=>⟨rfl,fun e=>by cases e⟩
theorem Jb (h:e.A i= .a n k):e.A i≠ .none:=by grind
abbrev zk :List V:=[.d .i64 0, .d .i64 0, .d .i64 0,ofL [],ofL [],ofL [],ofL [],ofL [],ofL [],ofL [],ofL [],ofL [], .d .i64 0, .d .i64 0, .d .i64 0, .d .i64 0, .d .i64 0, .d .i64 0, .d .i64 0, .d .i64 0]
theorem Jm4 {n:Nd}(h:n.A):((keyL n).drop 12).take 8=(padI n.c).map (V.d .i64):=by
 have l1:(padS n.b).length=8:=by have:=h.1;simp[padS];omega
 have l2:(padI n.c).length=8:=by have:=h.2;simp[padI];omega
 rw[JeU,<-Za,Gp,Xm (by simp[l1])];simp only[XT,X7,XU,XJ,l1];rw[Xr (by simp[l2])];rfl
theorem Jqt {l:List Int}(h:l.length=8):eqV (.b [.i, .i, .i, .i, .i, .i, .i, .i]) false (.j (l.map (V.d .i64))) (.j (l.map (V.d .i64)))=some (.h true, .a):=by
 have e:=Jb4 h h;have c:EK.B (.b [.i, .i, .i, .i, .i, .i, .i, .i]) (.j (l.map (V.d .i64))) (.j (l.map (V.d .i64)))=some true:=by
  show(if _ then _ else _)=_
  simp_all
 simp only[eqV,c];rfl
theorem NdC.D {e:List V}{n:Nd}(h:NdC s g e n)(k:Nat):NdC s {g with a:=k} e n:=h.A fun r p _=>⟨p,rfl⟩
theorem SlAt.L (h:SlAt s e r n d)(k:Nat):SlAt s {e with a:=k} r n d:=h.D fun b p _=>⟨p,rfl⟩
theorem SlAt.S (b:SlAt s {e with a:=h} r n d):SlAt s e r n d:=b.D fun c p _=>⟨p,rfl⟩
theorem TyC.I {t:Ty}(h:TyC s e k t)(b:Nat):TyC s {e with a:=b} k t:=h.A fun r p _=>⟨p,rfl⟩
theorem nes (h:i≠Y):(i=Y)=False/\(Y=i)=False:=⟨XF h,XF fun e=>h e.symm⟩
theorem Ch.L (h:Ch s e g){p:Pt}(k:g.b=p){c:Nat->Row}(l:∀u,(j u).A=u/\j u≠ .none)(m:∀u,(c u).A=u/\c u≠ .none):Ch s e ((g.B j).D p g.t c):=by
 subst k;have n:=h.K l;exact n.J (by rw[JM];grind) (by rw[JM];grind) (.inr (h.B (J9 h.D))) m
theorem Jn (i:TabM m){g:Fn}(j:m n=some x)(k:x=evFn h g){args:List V}(o:WF e)
  (c:∀K:V->St->Prop,(∀v S,(∀r,e.A r≠ .none->S.A r=e.A r)->(Gr e S->l v S)->K v S)->wC m h g.body (qr args) e (kRet g.a K)):Does m n args e fun v d=>Gr e d/\l v d:=
 (Does.G i o (Jl j k (c (fun v S=>(∀r,e.A r≠ .none->S.A r=e.A r)/\(Gr e S->l v S)) fun v S a x=>⟨a,x⟩))).A fun _ _ ⟨a,x⟩=>⟨a,x a⟩
theorem JeV (i:TabM m){g:Fn}(j:m n=some x)(k:x=evFn h g){args:List V}(o:WF e)
  (c:∀K:V->St->Prop,(∀v S,(∀r,e.A r≠ .none->¬s r->S.A r=e.A r)->(Ch s e S->l v S)->K v S)->wC m h g.body (qr args) e (kRet g.a K)):Does m n args e fun v d=>Ch s e d/\l v d:=
 (Does.D i o (Jl j k (c (fun v S=>(∀r,e.A r≠ .none->¬s r->S.A r=e.A r)/\(Ch s e S->l v S)) fun v S a x=>⟨a,x⟩))).A fun _ _ ⟨a,x⟩=>⟨a,x a⟩
theorem YQ {a b:C}(I:Fr->St->Prop)(c:wC m n a X e (kCut I y))(d:∀f s,I f s->wC m n b f s y):wC m n (.j a b) X e y:=
 QE (l:=[]) I c d
theorem Jz {l:List Nat}{a b:C}(P:Fr->St->Prop)(c:∀I:Fr->St->Prop,(∀f s,P f s->I f s)->wC m n a X e (kCut I y))(d:∀f s,P f s->wC m n b f s y):wC m n (.h l a b) X e y:=
 QE P (c P fun _ _ h=>h) d
theorem Ji7 {a b:C}(P:Fr->St->Prop)(c:∀I:Fr->St->Prop,(∀f s,P f s->I f s)->wC m n a X e (kCut I y))(d:∀f s,P f s->wC m n b f s y):wC m n (.j a b) X e y:=
 Jz (l:=[]) P c d
theorem Jy {b:C}(P:Nat->Fr->St->Prop)(a:Nat)(c:a<n)(h:P a X e)(d:∀I:Nat->Fr->St->Prop,(∀k f s,P k f s->I k f s)->∀k f s,P k f s->wC m n b f s (Jet I k y)):wC m n (.g w b) X e y:=
 JC P a c h (d P fun _ _ _ h=>h)
theorem wiN {i:Nat}(h:i<9000000000000000000):IntKind.i64.wrap ((i:Int)+1)=((i+1:Nat):Int):=JV (by omega) (by omega)
section
variable {P : Pt -> Prop} {st : St}
theorem TyC.G {t:Ty}(h:TyC P st k t):k.length=4:=by
 obtain⟨_,_,_,rfl,_⟩:=h.B;rfl
theorem TyC.J {t:Ty}(h:TyC P st k t):Kk k=true:=by
 obtain⟨_,_,_,rfl,a,b,_⟩:=h.B;simp[KN,QB,Jbu,JhA,a.B,b.B]
end
def encN (n:Nd):V:= .j (keyL n)
def LsAt (W:Pt->Prop)(st:St)(rt:Pt)(v:V)(z n:Nat)(cs:List V):Prop:=cs.length=n*z/\((v= .g/\n=0)\/∃r t,v= .u r 0 n z/\st.A r= .a t cs/\W r/\r≠rt)
structure jA (W F:Pt->Prop) (st:St) (rt:Pt) (tb:Tb) (lv:V) (ra rn rs:Pt) (es:List (List V)) (sv:List (Str×V)):Prop where
 s:∃t,st.A rt= .a t [lv, .q ra, .q rn, .d .i64 tb.b, .q rs]
 w:W rt/\W ra/\W rn/\W rs
 u:∀r,W r->st.A r≠ .none
 L:∀r,F r->¬W r
 G:ra≠rn/\ra≠rs/\rn≠rs
 l:LsAt W st rt lv 4 tb.a.length es.flatten
 z:∀e∈es,e.length=4
 D:es.length=tb.a.length
 H:∀i (h:i<es.length) (h':i<tb.a.length),NdC F st es[i] tb.a[i]
 J:∀n∈tb.a,n.A
 N:tb.a.length<=120
 y:qZ st ra encN (tb.a.zipIdx.map fun p=>(p.1,V.d .i64 (p.2:Int)))
 o:qZ st rn ofL (tb.c.map fun p=>(p.1,V.d .i64 (p.2:Int)))
 v:qZ st rs ofL sv
 K:sv.length=tb.d.length
 A:∀i (h:i<sv.length) (h':i<tb.d.length),sv[i].1=tb.d[i].1/\SlAt F st sv[i].2 1 (ints tb.d[i].2)
def Tab (W F:Pt->Prop)(st:St)(rt:Pt)(tb:Tb):Prop:=∃lv ra rn rs es sv,jA W F st rt tb lv ra rn rs es sv
section
variable {W W' F F' : Pt -> Prop} {st st' : St} {rt : Pt} {tb : Tb} {lv : V} {ra rn rs : Pt} {es : List (List V)} {sv : List (Str × V)}
theorem qZ.A {α:Type}{r:Pt}{a:α->V}{m:List (α×V)}(h:qZ st r a m):st.A r≠ .none:=by
 obtain⟨t,h⟩:=h
 grind
theorem qZ.B {α:Type}{a:α->V}{m:List (α×V)}(h:qZ st i a m)(k:st'.A i=st.A i):qZ st' i a m:=by
 obtain⟨t,h⟩:=h;exact⟨t,by rw[k,h]⟩
theorem jA.M (h:jA W F st rt tb lv ra rn rs es sv)(k:∀r,W r\/F r->st.A r≠ .none->st'.A r=st.A r):jA W F st' rt tb lv ra rn rs es sv:=by
 refine{h with u:=fun r w=>by rw[k r (.inl w) (h.u r w)];exact h.u r w,s:= ?_,l:= ?_,H:=fun i a b=>(h.H i a b).A fun r p e=>⟨p,k r (.inr p) e⟩,y:=h.y.B (k _ (.inl h.w.2.1) h.y.A),o:=h.o.B (k _ (.inl h.w.2.2.1) h.o.A),v:=h.v.B (k _ (.inl h.w.2.2.2) h.v.A),A:=fun i a b=>⟨(h.A i a b).1,(h.A i a b).2.D fun r p e=>⟨p,k r (.inr p) e⟩⟩}
 ·obtain⟨t,e⟩:=h.s;exact⟨t,by rw[k _ (.inl h.w.1) (by grind),e]⟩
 ·refine⟨h.l.1, ?_⟩;rcases h.l.2 with l|⟨r,t,l1,l2,l3⟩
  ·grind
  grind
theorem jA.T (h:jA W F st rt tb lv ra rn rs es sv)(g:Gr st st'):jA W F st' rt tb lv ra rn rs es sv:=h.M fun r _ e=>g.d r e
theorem Tab.A (h:Tab W F st rt tb)(k:∀r,W r\/F r->st.A r≠ .none->st'.A r=st.A r):Tab W F st' rt tb:=by
 obtain⟨lv,ra,rn,rs,es,sv,h⟩:=h;exact⟨lv,ra,rn,rs,es,sv,h.M k⟩
theorem Tab.G (h:Tab W F st rt tb)(g:Gr st st'):Tab W F st' rt tb:=h.A fun r _ e=>g.d r e
theorem Tab.B (h:Tab W F st rt tb):Tab W (fun r=>F r/\st.A r≠ .none) st rt tb:=by
 obtain⟨lv,ra,rn,rs,es,sv,h⟩:=h;exact⟨lv,ra,rn,rs,es,sv,{h with L:=fun r f=>h.L r f.1,H:=fun i a b=>(h.H i a b).A fun r p e=>⟨⟨p,e⟩,rfl⟩,A:=fun i a b=>⟨(h.A i a b).1,(h.A i a b).2.D fun r p e=>⟨⟨p,e⟩,rfl⟩⟩}⟩
theorem jA.B (h:jA W F st rt tb lv ra rn rs es sv):st.A rt≠ .none:=by
 obtain⟨t,e⟩:=h.s
 grind
theorem LsAt.B (b:LsAt W st rt lv n h k):JU lv=some (.d .i64 h, .a):=by
 rcases b.2 with⟨rfl,rfl⟩|⟨r,t,rfl,_⟩
 ·rfl
 ·rfl
theorem jA.I (h:jA W F st rt tb lv ra rn rs es sv){i:Nat}(f:i<es.length):
  ∃r q,Jo 4 lv (.d .i64 i)=some (.e r q, .a)/\(st.A r≠ .none)/\r≠rt/\W r/\ldn (st.A r) q 4=some (.j es[i], .a)/\∀j (k:j<es[i].length),ld1 (st.A r) (q+j)=some (es[i][j], .a):=by
 have g:SlAt (fun r=>r≠rt/\W r) st lv 4 es:=by
  refine⟨h.z, ?_⟩;rcases h.l.2 with⟨l,n⟩|⟨r,t,l1,l2,l3,l4⟩
  ·exact .inl ⟨l,XB.1 (by rw[h.D,n])⟩
  ·refine .inr ⟨r,0,⟨l4,l3⟩, .inl (by rw[l1,h.D]),es.flatten, .inl ⟨t,l2⟩,by rw[Jt h.z];omega, ?_⟩;rw[XQ,<-Jt h.z,Zf]
 obtain⟨r,q,a,b,c,d,e⟩:=g.I f
 grind
end
theorem JhC (n:Nd):∀(l:List Nd) (i:Nat),at_ n ((l.zipIdx i).map fun p=>(p.1,V.d .i64 (p.2:Int)))=(idx n l i).map fun k:Nat=>V.d .i64 (k:Int)
 |[],_=>rfl
 | a::r,i=>by
   simp[at_,idx]
   split
   ·rfl
   ·exact JhC n r (i+1)
theorem JoH {n:Nd}:∀{l:List Nd} {i k:Nat},idx n l i=some k->i<=k/\∃h:k-i<l.length,l[k-i]=n
 |[],_,_,h=>by cases h
 | a::r,i,k,h=>by
   simp[idx]at h
   split at h
   ·grind
   ·obtain⟨b,c,d⟩:=JoH h
    grind
theorem Jqu {n:Nd}{l:List Nd}(h:idx n l 0=none)(v:V):Ja0 n v ((l.zipIdx).map fun p=>(p.1,V.d .i64 (p.2:Int)))=(l.zipIdx.map fun p=>(p.1,V.d .i64 (p.2:Int)))++[(n,v)]:=by
 apply JcM (i:=0);have a:=JhC n l 0;rw[h,<-Jhx n _ 0]at a
 simp_all
theorem JoI {rt:Pt}(d:LsAt s e rt r n h k){tq:Nat}{new:List V}(N:e.A i= .a tq new)(O:new.length=n)(P:Kk new=true)(T:h+1<=2^24)(x:WF e){R:V->St->Prop}
  (f:∀S' Q,S'.A e.b= .a Q (k++new)->S'.b=e.b.F->(∀p,p≠e.b->rowOf r≠some p->S'.A p=e.A p)->(∀p,e.A p≠ .none->S'.A p≠ .none)->Mono e S'->R (.u e.b 0 (h+1) n) S'):wW (appV e n r (.m i 0 1 n 1)) e R:=by
 have o:JA e n 1 (.m i 0 1 n 1)=some new:=by
  simp[JA,Kw,N]
  grind
 have v:appV e n r (.m i 0 1 n 1)=JI e n 1 new r:=by
  simp[appV,slen,o]
  grind
 rw[v];rcases d.2 with⟨rfl,rfl⟩|⟨g,t,rfl,y,_⟩
 ·have K:k=[]:=XB.1 (by rw[d.1];simp);subst K;exact f (e.B fun t=> .a t new) e.t (by rw[JM];rfl) rfl (fun p l _=>Jbt _ _ l) (fun p l=>by rw[KC x _ l];exact l) (ja x (Jd _))
 ·have j:JI e n 1 new (.u g 0 h n)=some (.u e.b 0 (h+1) n, .e g t fun u=> .a u (k++new)):=by
   simp only[JI,y];rw[Xa (by decide),Xa (by omega),Xd (by rw[d.1];omega)];simp[<-d.1]
  rw[j];refine f ((e.D g t .c).B fun u=> .a u (k++new)) (e.t+1) ?_ rfl (fun p l L=> ?_) (fun p l=> ?_) ?_
  ·exact JM (e.D g t .c) _
  rotate_left
  ·have M:WF (e.D g t .c):=(Q9 x (by grind) (by rw[y];rfl) fun u=>⟨rfl,fun j=>by cases j⟩).wf;have w:(e.D g t .c).A p≠ .none:=by
    by_cases j:p=g
    ·subst j;rw[Jk];simp
    ·rw[Ji _ _ _ j];exact l
   rw[KC M _ w];exact w
  ·exact Jlb x (e:= .e g t fun u=> .a u (k++new)) ⟨(by grind),(by rw[y];rfl),Jd _⟩
  ·rw[Jbt _ _ (by exact l),Ji _ _ _ (fun j=>L (by rw[j];rfl))]
theorem LsAt.D {W:Pt->Prop}(b:LsAt W e i r n h k)(c:∀d t,W d->d≠i->e.A d= .a t k->g.A d=e.A d):LsAt W g i r n h k:=by
 refine⟨b.1, ?_⟩;rcases b.2 with b|⟨d,t,f,j,l,m⟩
 ·grind
 grind
theorem LsAt.A {W:Pt->Prop}{st:St}{c:Pt}{d:V}{z n:Nat}{e:List V}(h:LsAt W st c d z n e){r:Pt}(b:rowOf d=some r):W r/\r≠c/\∃t,st.A r= .a t e:=by
 rcases h.2 with⟨rfl,_⟩|⟨q,t,rfl,f,g,i⟩
 ·cases b
 ·injection b with b;grind
theorem jA.O {W F:Pt->Prop}{q:Pt}{Q:Tb}{X rn rs:Pt}{sv:List (Str×V)}{Z:Nd}(P:jA W F e Y Q r X rn rs d sv)(hq:e.A q= .none)
  (h1:∃t,g.A Y= .a t [.u q 0 (Q.a.length+1) 4, .q X, .q rn, .d .i64 Q.b, .q rs]) (h2:∃t,g.A q= .a t (d.flatten++k))
  (h3:∃t,g.A X= .b t ((Ja0 Z (.d .i64 (Q.a.length:Nat)) (Q.a.zipIdx.map fun p=>(p.1,V.d .i64 (p.2:Int)))).map fun p=>(encN p.1,p.2)))
  (h4:∀c,e.A c≠ .none->c≠Y->c≠X->rowOf r≠some c->g.A c=e.A c) (h5:∀c,e.A c≠ .none->g.A c≠ .none)
  {F':Pt->Prop} (hF:∀c,F c->F' c) (ae:∀c,F' c->¬W c/\c≠q) (he:NdC F' g k Z) (hf:Z.A) (hi:idx Z Q.a 0=none) (hl:Q.a.length<120):
  jA (fun c=>W c\/c=q) F' g Y {Q with a:=Q.a++[Z]} (.u q 0 (Q.a.length+1) 4) X rn rs (d++[k]) sv:=by
 obtain⟨t0,c0⟩:=P.s;have af:k.length=4:=by obtain⟨_,_,rfl,_⟩:=he;rfl
 have aa:∀c,(∃t m,e.A c= .b t m)->c≠X->g.A c=e.A c:=fun c ⟨t,m,h⟩ ad=>h4 c (by grind) (fun k=>by grind) ad fun k=>by
  obtain⟨_,_,t2,h2⟩:=P.l.A k
  grind
 have ab:∀c,F c->e.A c≠ .none->F' c/\g.A c=e.A c:=fun c f k=>have n:=P.L c f;⟨hF c f,h4 c k (fun j=>n (by rw[j];exact P.w.1)) (fun j=>n (by rw[j];exact P.w.2.1)) fun j=>n (P.l.A j).1⟩;refine{s:= ?_,w:=⟨.inl P.w.1, .inl P.w.2.1, .inl P.w.2.2.1, .inl P.w.2.2.2⟩,u:= ?_,L:= ?_,G:=P.G,l:= ?_,z:= ?_,D:=by simp[P.D],H:= ?_,J:= ?_,N:=by grind,y:= ?_,o:= ?_,v:= ?_,K:=P.K,A:= ?_}
 ·exact h1
 ·rintro c (w|rfl)
  ·exact h5 c (P.u c w)
  grind
 ·grind
 ·refine⟨?_, .inr ?_⟩
  ·rw[XS,X7,P.l.1];grind
  grind
 ·intro x U;rcases Xy.1 U with U|U
  ·exact P.z x U
  grind
 ·intro i ag ah;by_cases h:i<d.length
  ·have h':i<Q.a.length:=by rw[<-P.D];exact h
   simp[Xx h,Xx h'];exact(P.H i h h').A ab
  ·have e1:i=d.length:=by grind
   subst e1;have e2:d.length=Q.a.length:=P.D
   grind
 ·intro x U;rcases Xy.1 U with U|U
  ·exact P.J x U
  grind
 ·obtain⟨t,h3⟩:=h3;refine⟨t, ?_⟩;rw[h3,Jqu hi]
  grind
 ·exact P.o.B (aa rn (by obtain⟨t,h⟩:=P.o;grind) P.G.1.symm)
 ·exact P.v.B (aa rs (by obtain⟨t,h⟩:=P.v;grind) P.G.2.1.symm)
 ·exact fun i a b=>⟨(P.A i a b).1,(P.A i a b).2.D ab⟩
theorem LsAt.G {es:List (List V)}(a:LsAt s e i r n h es.flatten)(d:∀b∈es,b.length=n)(f:es.length=h):SlAt s e r n es:=by
 refine⟨d, ?_⟩;rcases a.2 with⟨l,g⟩|⟨c,t,l1,l2,l3,l4⟩
 ·grind
 ·refine .inr ⟨c,0,l3, .inl (by grind),es.flatten, .inl ⟨t,l2⟩,by rw[Jt d];omega, ?_⟩;rw[XQ,<-Jt d,Zf]
theorem Jb5 (l:List Nat):∀e∈ints l,e.length=1:=fun e a=>by
 obtain⟨x,_,rfl⟩:=XA.1 a;rfl
def defI (tb:Tb)(n:Str):Option Nat:=(tb.c.find? fun p=>n=p.1).map (·.2)
def Ku (tb:Tb):Nat->Nat->Nat×Bool
 |0,_=>(0,false)
 | f+1,id=>match tb.a[id]? with
   |none=>(0,false)
   | some x=>if x.a≠9 then(id,true)else match defI tb x.d with
     |none=>(0,false)
     |some j=>Ku tb f j
theorem qG {b:Tb}{id:Nat}(h:b.a.length<=id):Ku b (n+1) id=(0,false):=by
 rw[Ku,Gm h]
theorem qH {b:Tb}{id:Nat}(h:id<b.a.length)(k:b.a[id].a≠9):Ku b (n+1) id=(id,true):=by
 rw[Ku,Xg h]
 grind
theorem Jds {b:Tb}{id:Nat}(h:id<b.a.length)(k:b.a[id].a=9)(d:defI b b.a[id].d=none):Ku b (n+1) id=(0,false):=by
 rw[Ku,Xg h]
 grind
theorem j7 {b:Tb}{id:Nat}(h:id<b.a.length)(k:b.a[id].a=9)(d:defI b b.a[id].d=some o):Ku b (n+1) id=Ku b n o:=by
 rw[Ku,Xg h]
 grind
theorem Jmc (n:Str):∀(l:List (Str×Nat)),at_ n (l.map fun p=>(p.1,V.d .i64 (p.2:Int)))=((l.find? fun p=>n=p.1).map (·.2)).map fun k:Nat=>V.d .i64 (k:Int)
 |[]=>rfl
 | (a,k)::r=>by
   by_cases h:n=a
   ·simp[at_,List.find?,h]
   ·simp[at_,Jmc n r,List.find?,h,GE]
theorem JW {args:List V}{W:Pt->Prop}{P:V->St->Prop}(x:WF e)(h:Does m n args {e with a:=e.t} fun v c=>Ch W {e with a:=e.t} c/\P v c)
  (k:∀v c o,Ch W e {c with a:=o}->P v c->l v {c with a:=o}):J8 m true (some []) n args X e l:=by
 unfold J8;simp;refine h.A fun v c ⟨s,y⟩=> ?_;have b:=s.i;have p:∀o,o<=e.a->o<=c.a\/c.a=e.t->Ch W e {c with a:=o}:=fun o q K=>by
  refine⟨⟨⟨b.wf.a,b.wf.t⟩,b.t,b.i,b.d,q,fun r u z=> ?_,b.f⟩,s.d⟩;have L:c.a<=(e.A r).A:=b.j r u z;have M:=x.t r u
  grind
 have w:=b.g;have w:c.a<=e.t:=w;unfold Jes;by_cases q:c.a<e.t
 ·rw[Xd q];refine⟨rfl,k v c _ (p _ ?_ ?_) y⟩<;>split<;>omega
 grind
theorem YR {α:Type}(k:Str)(b:List (Str×α)):∀p∈b,EK.B (.a .s) (ofL k) (ofL p.1)=some (decide (k=p.1)):=fun p _=>Jqr k p.1
end Eva
namespace Eva
open Go Go.RowKit
set_option maxRecDepth 100000
set_option linter.unusedSimpArgs false
variable {s u:Pt->Prop}{e g:St}{n h o:Nat}{k:List V}{d:List (List V)}{i Y:Pt}{r:V}{l:V->St->Prop}{m:Table}{j:Nat->Row}{w:List Nat}{x:Self->List V->St->Option (V×St)}{y:Out->Prop}{X:Fr}{Z:List (V×V)}
def digB (x:Nat):Bool:=decide (48<=x)&&decide (x<=57)
def letB (x:Nat):Bool:=decide (x=95)||(decide (97<=x|||32)&&decide (x|||32<=122))
def okB (x:Nat):Bool:=letB x||digB x
theorem Jm5 {x:Nat}(a:x<256)(h:okB x=true):x<128:=by
 have:∀x:Fin 256,okB x.1=true->x.1<128:=by decide+kernel
 exact this ⟨x,a⟩ h
theorem JtB (x:Nat)(b:x<256):binV .or (.d .u8 x) (.d .u8 32)=some (.d .u8 ((x|||32:Nat):Int), .a):=by
 have h:(0:Int)<=(x:Int)/\(x:Int)<=IntKind.u8.max/\(0:Int)<=32/\(32:Int)<=IntKind.u8.max:=by
  have:IntKind.u8.max=255:=rfl;omega
 simp[binV,arith,h]
def Yq (l:List UInt8):Bool:=l.all fun c=>okB c.toNat
def fore :List UInt8->Nat
 |[]=>0
 |c::r=>if okB c.toNat then fore r+1 else 0
theorem Jm6 (l:List UInt8):fore l<=l.length:=by
 induction l with
 |nil=>exact Xb _
 |cons c r a=>simp[fore];grind
theorem JcN (l:List UInt8):fore l=l.length<->Yq l=true:=by
 induction l with
 |nil=>simp[fore,Yq]
 | cons c r a=>
   simp only[fore,XJ,Yq,ZE,Xj];have:=Jm6 r
   split
   ·rename_i h
    rw[show(r.all fun c=>okB c.toNat)=Yq r from rfl,<-a]
    grind
   grind
theorem Ji8 :∀(l:List UInt8) (p:Nat),p<=l.length->(∀j (d:j<l.length),j<p->okB l[j].toNat=true)->∀a:p<l.length,okB l[p].toNat=false->fore l=p
 |[],p,_,_,a,_=>by grind
 | c::r,0,_,_,_,h=>by
   have h:okB c.toNat=false:=h;simp[fore,h]
 | c::r,p+1,g,b,a,h=>by
   have e:okB c.toNat=true:=b 0 (by simp) (by omega);have:=Ji8 r p (by grind) (fun j d f=>b (j+1) (by omega) (by omega)) (by grind) h;simp[fore,e,this]
theorem JkB {l:List UInt8}(a:n<l.length)(h:l[n].toNat<128):(rune l n).2=1:=by
 have b:l.getD n 0=l[n]:=by grind
 unfold rune
 grind
def Yr :List UInt8:=[32,108,101,110,32,110,111,116,32,97,110,100,32,111,114,32,101,113,32,108,116,32,97,100,100,32,115,117,98,32,109,117,108,32,115,104,108,32,115,104,114,32,105,56,32,105,49,54,32,105,51,50,32,117,56,32,117,49,54,32,117,51,50,32,99,97,116,32,116,101,120,116,32,97,116,32,103,101,116,32,104,97,115,32,111,114,101,108,115,101,32]
def Ks (l:List UInt8):Bool:=match l with
 |[]=>false
 |c::r=>decide ((c::r).length<=16)&&(!digB c.toNat&&Yq (c::r))
theorem Jdt (a b:List UInt8)(h:a.length<4294967281):kN [ofL a,ofL b]=some (.h (Lib.contains a b)):=by
 simp[kN,ofL,Xd h];unfold Lib.contains;rw[Jdl]
 cases Jeo a.length (snum a) b.length (snum b)<;>simp
theorem JeW {l:List UInt8}(h:Ks l=true):l.length<=16:=by
 cases l with
 |nil=>simp
 | cons c r=>
   simp only[Ks,Xj,Zl]at h;exact h.1
structure Sg where
 c:Str
 a:List Ty
 b:Ty
structure Sch where
 b:Ty
 a:List (Str×Ty)
 c:List Sg
def KX (t:Ty):Nat:=if t.A=4\/t.A=5\/t.A=6 then 1 else if t.A=7\/t.A=8 then t.D.length else 0
def Ky (p:Option Str)(n:Str):Bool:=match p with
 |none=>false
 |some p=> !Op.bytesLess p n
def Km :Option Str->List Str->Int
 |_,[]=>0
 |p,n::r=>if Ks n=false then 15 else if Ky p n=true then 6 else Km (some n) r
def KH (t:Ty):Int:=if 8<t.D.length then 3 else if Km none t.D≠0 then Km none t.D else if t.A=8/\t.D=[]then 12 else 0
mutual
def mayS (has:Str->Bool):Ty->Nat->Nat->Int×Nat
 | .mk k n ns ks,deep,met=>
   if 400<met+1 then(3,met+1)else if 12<deep then(13,met+1)else if k<1\/9<k then(1,met+1)else
   if ks.length≠KX (.mk k n ns ks)\/(n≠[]/\k≠9)\/(0<ns.length/\¬(k=7\/k=8))then(12,met+1)else
   if k=9/\has n=false then(15,met+1)else
   if KH (.mk k n ns ks)≠0 then(KH (.mk k n ns ks),met+1)else JD has ks (deep+1) (met+1)
def JD (has:Str->Bool):List Ty->Nat->Nat->Int×Nat
 |[],_,met=>(0,met)
 |t::r,deep,met=>if(mayS has t deep met).1≠0 then mayS has t deep met else JD has r deep (mayS has t deep met).2
end
def words :Str:=[32,66,111,111,108,32,73,110,116,32,84,101,120,116,32,76,105,115,116,32,77,97,112,32,79,112,116,32,85,110,105,111,110,32]
def Ya (n:Str):Bool:= !Ks n||Lib.contains words (32::(n++[32]))
def Kb :Option Str->List Str->Int
 |_,[]=>0
 |p,n::r=>if Ya n=true then 15 else if Ky p n=true then 6 else Kb (some n) r
def JaL (n:Str):Bool:=Ks n&&Lib.contains Yr (32::(n++[32]))
def Qs (has:Str->Bool):Option Str->List Sg->Nat->Int×Nat
 |_,[],met=>(0,met)
 | p,f::r,met=>if(!Ks f.c||JaL f.c)=true then(15,met)else if Ky p f.c=true then(6,met)else if 4<f.a.length then(18,met)else
   if(JD has (f.a++[f.b]) 1 met).1≠0 then JD has (f.a++[f.b]) 1 met else Qs has (some f.c) r (JD has (f.a++[f.b]) 1 met).2
def hasN (l:List (Str×Ty))(n:Str):Bool:=l.any fun p=>p.1=n
def defN (l:List (Str×Ty))(n:Str):Option Ty:=(l.find? fun p=>p.1=n).map (·.2)
def QF :Ty:= .mk 0 [] [] []
def KP (l:List (Str×Ty)):Nat->Ty->Ty
 |0,t=>t
 |k+1,t=>KP l k (if t.A=9 then(defN l t.B).getD QF else t)
mutual
def Jba (l:List (Str×Ty)):Ty->Bool
 | .mk k n ns ks=>(if k=6/\ks.length=1 then decide ((KP l l.length (ks.headD QF)).A=6)else false)||jd l ks
def jd (l:List (Str×Ty)):List Ty->Bool
 |[]=>false
 |t::r=>Jba l t||jd l r
end
mutual
def Qd (has:Str->Bool):Ty->Nat->Bool
 | .mk k n ns ks,deep=>if 12<deep then false else if k=9 then has n else if k=8 then kH has ks (deep+1)else if k=7 then kI has ks (deep+1)else true
def kH (has:Str->Bool):List Ty->Nat->Bool
 |[],_=>false
 |t::r,deep=>Qd has t deep||kH has r deep
def kI (has:Str->Bool):List Ty->Nat->Bool
 |[],_=>true
 |t::r,deep=>Qd has t deep&&kI has r deep
end
def gB (n:Str):List (Str×Bool)->Bool
 |[]=>false
 |(a,c)::r=>if n=a then c else gB n r
def sB (n:Str)(b:Bool):List (Str×Bool)->List (Str×Bool)
 |[]=>[(n,b)]
 |(a,c)::r=>if n=a then(n,b)::r else(a,c)::sB n b r
def K8 :List (Str×Ty)->List (Str×Bool)->List (Str×Bool)
 |[],has=>has
 |(n,t)::r,has=>K8 r (sB n (gB n has||Qd (fun x=>gB x has) t 1) has)
def Ko (l:List (Str×Ty)):Nat->List (Str×Bool)->List (Str×Bool)
 |0,has=>has
 |k+1,has=>Ko l k (K8 l has)
def finS (l:List (Str×Ty))(t:Ty):Bool:=
 if(JD (hasN l) (l.map (·.2)) 1 0).1≠0 then false else if(mayS (hasN l) t 1 0).1≠0 then false else Qd (fun x=>gB x (Ko l l.length [])) t 1
def Qk (s:Sch):List Ty:=s.a.map (·.2)++[s.b]++(s.c.map fun f=>f.a++[f.b]).flatten
def Qv (s:Sch):Int:=
 if 12<s.a.length\/12<s.c.length then 3 else
 if Kb none (s.a.map (·.1))≠0 then Kb none (s.a.map (·.1))else
 let m1:=JD (hasN s.a) (s.a.map (·.2)) 1 0
 if m1.1≠0 then m1.1 else
 let m2:=mayS (hasN s.a) s.b 1 m1.2
 if m2.1≠0 then m2.1 else
 let m3:=Qs (hasN s.a) none s.c m2.2
 if m3.1≠0 then m3.1 else
 if s.a.any (fun p=> !finS s.a p.2)then 14 else
 if jd s.a (Qk s)then 17 else 0
def NmC (P:Pt->Prop)(st:St)(e:List V)(x:Str×Ty):Prop:=∃c,e=ofL x.1::c/\TyC P st c x.2
def SgC (P:Pt->Prop)(st:St)(e:List V)(f:Sg):Prop:=∃pv c,e=ofL f.c::pv::c/\Jl2 P st pv f.a/\TyC P st c f.b
def LstAt {α:Type}(C:List V->α->Prop)(P:Pt->Prop)(st:St)(v:V)(z:Nat)(l:List α):Prop:=∃es,SlAt P st v z es/\es.length=l.length/\∀i (h:i<es.length) (h':i<l.length),C es[i] l[i]
def SchC (P:Pt->Prop)(st:St)(e:List V)(s:Sch):Prop:=∃c tv sv,e=c++[tv,sv]/\TyC P st c s.b/\LstAt (NmC P st) P st tv 5 s.a/\LstAt (SgC P st) P st sv 6 s.c
section
variable {P Q : Pt -> Prop} {st st' : St}
theorem NmC.A {e:List V}{x:Str×Ty}(h:NmC P st e x)(k:∀r,P r->st.A r≠ .none->Q r/\st'.A r=st.A r):NmC Q st' e x:=by
 obtain⟨c,a,b⟩:=h;exact⟨c,a,b.A k⟩
theorem SgC.A {e:List V}{x:Sg}(h:SgC P st e x)(k:∀r,P r->st.A r≠ .none->Q r/\st'.A r=st.A r):SgC Q st' e x:=by
 obtain⟨a,c,b,d,f⟩:=h;exact⟨a,c,b,d.A k,f.A k⟩
theorem LstAt.B {α:Type}{C D:List V->α->Prop}{l:List α}(h:LstAt C P st r n l)(d:∀e x,C e x->D e x)(k:∀c,P c->st.A c≠ .none->Q c/\st'.A c=st.A c):LstAt D Q st' r n l:=by
 obtain⟨f,g,j,m⟩:=h;exact⟨f,g.D k,j,fun i a b=>d _ _ (m i a b)⟩
theorem SchC.A {e:List V}{s:Sch}(h:SchC P st e s)(k:∀r,P r->st.A r≠ .none->Q r/\st'.A r=st.A r):SchC Q st' e s:=by
 obtain⟨c,a,b,d,f,g,i⟩:=h;exact⟨c,a,b,d,f.A k,g.B (fun _ _ x=>x.A k) k,i.B (fun _ _ x=>x.A k) k⟩
theorem LstAt.H {α:Type}{C:List V->α->Prop}{l:List α}(h:LstAt C P st r n l):JU r=some (.d .i64 l.length, .a):=by
 obtain⟨e,b,c,_⟩:=h;rw[b.G,c]
theorem LstAt.G {α:Type}{C:List V->α->Prop}{l:List α}(h:LstAt C P st r n l):r.B=true/\r.A=some [r]:=by
 obtain⟨es,a,b,_⟩:=h;exact⟨a.B,a.A⟩
theorem LstAt.A {α:Type}{C:List V->α->Prop}{v:V}{z:Nat}{l:List α}(h:LstAt C P st v z l){i:Nat}(g:i<l.length):
  ∃r q e,Jo z v (.d .i64 i)=some (.e r q, .a)/\P r/\(st.A r≠ .none)/\ldn (st.A r) q z=some (.j e, .a)/\C e l[i]/\e.length=z/\∀j (n:j<e.length),ld1 (st.A r) (q+j)=some (e[j], .a):=by
 obtain⟨k,f,o,m⟩:=h;obtain⟨r,q,a,b,c,d,e⟩:=f.I (i:=i) (by omega);exact⟨r,q,k[i],a,b,c,d,m i (by omega) g,f.1 _ (Xh _),e⟩
end
theorem qI (c:Str->Bool)(k:Int)(n:Str)(e:List Str)(d:List Ty)(b a:Nat):mayS c (.mk k n e d) b a=
  if 400<a+1 then(3,a+1)else if 12<b then(13,a+1)else if k<1\/9<k then(1,a+1)else
  if d.length≠KX (.mk k n e d)\/(n≠[]/\k≠9)\/(0<e.length/\¬(k=7\/k=8))then(12,a+1)else
  if k=9/\c n=false then(15,a+1)else
  if KH (.mk k n e d)≠0 then(KH (.mk k n e d),a+1)else JD c d (b+1) (a+1):=by rfl
theorem QU (c:Str->Bool)(a b:Nat):JD c [] a b=(0,b):=by rfl
theorem Kg (b:Str->Bool)(t:Ty)(r:List Ty)(a c:Nat):JD b (t::r) a c=if(mayS b t a c).1≠0 then mayS b t a c else JD b r a (mayS b t a c).2:=by rfl
mutual
theorem QN (c:Str->Bool):∀(t:Ty) (a b:Nat),b<=400->(mayS c t a b).2<=401/\((mayS c t a b).1=0->(mayS c t a b).2<=400)
 | .mk k n f d,a,b,h=>by
   rw[qI]
   split
   ·simp only;exact⟨by omega,fun h=>by cases h⟩
   rename_i g
   have e:=YJ c d (a+1) (b+1) (by omega)
   repeat' split
   all_goals first
    |exact e
    |(simp only;exact⟨by omega,fun h=>by first|cases h|omega⟩)
theorem YJ (c:Str->Bool):∀(l:List Ty) (a b:Nat),b<=400->(JD c l a b).2<=401/\((JD c l a b).1=0->(JD c l a b).2<=400)
 |[],a,b,h=>by rw[QU];simp;omega
 | t::r,a,b,h=>by
   have d:=QN c t a b h;rw[Kg]
   split
   ·exact d
   ·rename_i e
    exact YJ c r a _ (d.2 (by simpa using e))
end
def Jdu (P:Pt->Prop)(st:St)(r:Pt)(l:List (Str×Ty)):Prop:=∃es:List (Str×List V),qZ st r ofL (es.map fun p=>(p.1,V.j p.2))/\es.length=l.length/\∀i (h:i<es.length) (h':i<l.length),es[i].1=l[i].1/\TyC P st es[i].2 l[i].2
theorem Jdu.A {P Q:Pt->Prop}{st st':St}{r:Pt}{l:List (Str×Ty)}(h:Jdu P st r l)(d:st'.A r=st.A r)(k:∀r,P r->st.A r≠ .none->Q r/\st'.A r=st.A r):Jdu Q st' r l:=by
 obtain⟨e,f,g,c⟩:=h;exact⟨e,f.B d,g,fun i a b=>⟨(c i a b).1,(c i a b).2.A k⟩⟩
theorem JrQ {P:Pt->Prop}{f:St}(n:Str):∀(d:List (Str×List V)) (l:List (Str×Ty)),d.length=l.length->(∀i (h:i<d.length) (r:i<l.length),d[i].1=l[i].1/\TyC P f d[i].2 l[i].2)->
  match defN l n with
  |some t=>∃c,at_ n (d.map fun p=>(p.1,V.j p.2))=some (.j c)/\TyC P f c t
  |none=>at_ n (d.map fun p=>(p.1,V.j p.2))=none
 |[],[],_,_=>rfl
 |[],_::_,h,_=>by simp at h
 |_::_,[],h,_=>by simp at h
 | (a,c)::d,(b,t)::l,h,k=>by
   have g:=k 0 (by simp) (by simp);simp at g;obtain⟨rfl,s⟩:=g;by_cases e:n=a
   ·subst e;simp[defN,List.find?,decide_true,at_]
    grind
   ·have m:¬a=n:=fun x=>e x.symm;have o:=JrQ n d l (by grind) (fun i u v=>by have:=k (i+1) (by grind) (by grind);simpa using this);have q:defN ((a,t)::l) n=defN l n:=by simp[defN,List.find?,m]
    rw[q];simp[at_,Xa e];exact o
theorem JeX (l:List (Str×Ty))(n:Str):hasN l n=(defN l n).isSome:=by
 induction l with
 |nil=>rfl
 | cons p l a=>
   by_cases h:p.1=n
   ·simp[hasN,defN,List.find?,h]
   ·have:hasN (p::l) n=hasN l n:=by simp[hasN,h]
    rw[this,a];simp[defN,List.find?,h]
theorem Jdu.B {P:Pt->Prop}{e:St}{r:Pt}{l:List (Str×Ty)}(h:Jdu P e r l)(z:V)(n:Str):∃v,(∀b (S:St),S.A r=e.A r->jz S (.a .s) z b (.q r) (ofL n)=some (if b then .p [v, .h (hasN l n)]else v, .a))/\(match defN l n with
  |some t=>∃c,v= .j c/\TyC P e c t
  |none=>v=z):=by
 obtain⟨g,k,m,o⟩:=h;have d:=JrQ n g l m o;rw[JeX];have f:∀b (S:St),S.A r=e.A r->jz S (.a .s) z b (.q r) (ofL n)=some (ansL z b (at_ n (g.map fun p=>(p.1,V.j p.2))), .a):=fun b S u=>kP (enc:=ofL) (k.B u) z b n (YR n _) rfl
 cases i:defN l n with
 | none=>
   rw[i]at d;simp at d;rw[d]at f;exact⟨z,f,rfl⟩
 | some t=>
   rw[i]at d;obtain⟨c,w,x⟩:=d;rw[w]at f;exact⟨.j c,f,c,rfl,x⟩
theorem Jqv (T:Table)(d:Bool)(c:Option (List Nat))(x:Opd)(b:Fr)(a:St)(R:V->St->Prop):wO T d c (.K x) b a R=wW (evOp b a (.K x)) a R:=propext Iff.rfl
theorem Jb6 (T:Table)(d:Bool)(c:Option (List Nat))(x:Opd)(b:Fr)(a:St)(R:V->St->Prop):wO T d c (.nextM x) b a R=wW (evOp b a (.nextM x)) a R:=propext Iff.rfl
theorem Jsz (a:Fr)(b:St)(x:Opd):evOp a b (.K x)=Jlk b (x.A a):=Xe (Xk _)
theorem JdV (a:Fr)(b:St)(x:Opd):evOp a b (.nextM x)=Jer b (x.A a):=Xe (Xk _)
theorem Jqw (h:e.A i= .b n Z):Jlk e (.q i)=some (.e e.b 0, .b fun n=> .d n (some i) Z.length 0):=by
 simp[Jlk,h]
theorem JkC {st:St}{q r:Pt}{t:Nat}{es:List (V×V)}(c:st.A q= .d t (some r) es.length n)(a:st.A r= .b h es)(f:n<es.length):
  Jer st (.e q 0)=some (.p [.h true, .y, .y], .d q t fun u=> .d u (some r) es.length (n+1)):=by
 simp[Jer,c,a]
 grind
theorem JkD {st:St}{q r:Pt}{t:Nat}{es:List (V×V)}(f:st.A q= .d t (some r) es.length n)(c:st.A r= .b h es)(g:¬n<es.length):
  Jer st (.e q 0)=some (.p [.h false], .a):=by
 simp[Jer,f,c]
 grind
def zTy :List V:=[.d .i64 0,ofL [], .g, .g]
theorem JoJ (P:Pt->Prop)(a:St):TyC P a zTy QF:= .mk (es:=[]) (SlAt.K _ _ _) (SlAt.K _ _ _) rfl fun i h=>absurd h (by simp)
theorem qJ (l:List (Str×Ty))(k:Nat)(t:Ty):KP l (k+1) t=KP l k (if t.A=9 then(defN l t.B).getD QF else t):=by rfl
theorem je (l:List (Str×Ty)):∀(k:Nat) (t:Ty),KP l (k+1) t=(if(KP l k t).A=9 then(defN l (KP l k t).B).getD QF else KP l k t)
 |0,t=>by rfl
 | k+1,t=>by
   rw[qJ,je l k,<-qJ]
theorem Ji9 (l:List (Str×Ty))(k:Int)(n:Str)(b:List Str)(a:List Ty):Jba l (.mk k n b a)=((if k=6/\a.length=1 then decide ((KP l l.length (a.headD QF)).A=6)else false)||jd l a):=by rfl
theorem qK (l:List (Str×Ty)):∀a:List Ty,jd l a=a.any (Jba l)
 |[]=>by rfl
 |t::r=>by rw[jd,qK l r];rfl
def qL (p:Ty->Bool):List Ty->Nat->Option Nat
 |[],_=>none
 |t::r,i=>if p t=true then some i else qL p r (i+1)
theorem JeY (p:Ty->Bool):∀(l:List Ty) (i:Nat),(qL p l i).isSome=l.any p
 |[],_=>rfl
 | t::r,i=>by
   simp[qL]
   cases h:p t with
   |true=>simp
   |false=>simpa using JeY p r (i+1)
mutual
def cntT :Ty->Nat
 | .mk _ _ _ ks=>1+j8 ks
def j8 :List Ty->Nat
 |[]=>0
 |t::r=>cntT t+j8 r
end
theorem Ys (k:Int)(n:Str)(b:List Str)(a:List Ty):cntT (.mk k n b a)=1+j8 a:=by rfl
theorem jf (t:Ty)(r:List Ty):j8 (t::r)=cntT t+j8 r:=by rfl
theorem JgF :j8 []=0:=by rfl
theorem JoK :∀t:Ty,1<=cntT t
 | .mk k n a b=>by rw[Ys];omega
theorem jB :∀{ks:List Ty} {i:Nat} (h:i<ks.length),cntT ks[i]<=j8 ks
 |t::r,0,_=>by rw[jf];simp
 | t::r,i+1,h=>by
   rw[jf];have:=jB (ks:=r) (i:=i) (by grind)
   grind
theorem Jb7 :∀ks:List Ty,ks.length<=j8 ks
 |[]=>XC _
 | t::r=>by
   rw[jf];have a:=Jb7 r;have b:=JoK t
   grind
mutual
theorem Jao (c:Str->Bool):∀(t:Ty) (a b:Nat),(mayS c t a b).1=0->(mayS c t a b).2=b+cntT t
 | .mk k n m d,a,b,h=>by
   rw[qI]at h⊢;rw[Ys]
   repeat' split at h
   all_goals first
    |(exfalso;simp only at h;first|omega|(exact absurd h (by assumption)))
    |skip
   rename_i e f g i j l
   rw[Xa e,Xa f,Xa g,Xa i,Xa j,Xa l,kQ c d _ _ h];omega
theorem kQ (c:Str->Bool):∀(l:List Ty) (a b:Nat),(JD c l a b).1=0->(JD c l a b).2=b+j8 l
 |[],a,b,h=>by rw[QU,JgF];rfl
 | t::r,a,b,h=>by
   rw[Kg]at h⊢;rw[jf]
   split at h
   ·rename_i d;exact absurd h d
   ·rename_i d
    rw[Xa d,kQ c r _ _ h,Jao c t _ _ (by simpa using d)];omega
end
theorem j9 {b:C}(d:0<n)(h:wC m n b X e (Jet (fun _ _ _=>False) 0 y)):wC m n (.g w b) X e y:=
 JC (fun _ f s=>f=X/\s=e) 0 d ⟨rfl,rfl⟩ fun k f s ⟨q,r⟩=>by
  subst q;subst r;refine Jl0 b (fun o p=> ?_) h
  cases o with
  |a f s=>obtain⟨j,t,_⟩:=p;omega
  |b i f s=>exact p
  |c f s=>exact p
theorem LstAt.I {α:Type}{C:List V->α->Prop}(h:LstAt C s e r n []):JU r=some (.d .i64 0, .a):=h.H
abbrev Was :=List (Nat×Nat)
def idxN (n:Str):List Str->Nat->Option Nat
 |[],_=>none
 |a::r,i=>if n=a then some i else idxN n r (i+1)
section
variable {W F : Pt -> Prop} {st st' : St} {rt kr rw : Pt} {tb : Tb} {was was' : Was}
end
def JE :Tb:=⟨[],[],0,[]⟩
def setI {α:Type}(n:Str)(x:α):List (Str×α)->List (Str×α)
 |[]=>[(n,x)]
 |(a,y)::r=>if n=a then(n,x)::r else(a,y)::setI n x r
def Jq :List (Str×Ty)->Tb->Tb×Int
 |[],tb=>(tb,0)
 |(n,t)::r,tb=>if(addT t 400 tb).2.2.1≠0 then((addT t 400 tb).1,(addT t 400 tb).2.2.1)else Jq r {(addT t 400 tb).1 with c:=setI n (addT t 400 tb).2.1 (addT t 400 tb).1.c}
def JN :List Ty->Tb->Tb×List Nat×Int
 |[],tb=>(tb,[],0)
 |t::r,tb=>if(addT t 400 tb).2.2.1≠0 then((addT t 400 tb).1,[],(addT t 400 tb).2.2.1)else((JN r (addT t 400 tb).1).1,(addT t 400 tb).2.1::(JN r (addT t 400 tb).1).2.1,(JN r (addT t 400 tb).1).2.2)
def Kc :List Sg->Tb->Tb×Int
 |[],tb=>(tb,0)
 |f::r,tb=>if(JN (f.a++[f.b]) tb).2.2≠0 then((JN (f.a++[f.b]) tb).1,(JN (f.a++[f.b]) tb).2.2)else Kc r {(JN (f.a++[f.b]) tb).1 with d:=setI f.c (JN (f.a++[f.b]) tb).2.1 (JN (f.a++[f.b]) tb).1.d}
def newS (s:Sch):Option Tb×Int:=
 if Qv s≠0 then(none,Qv s)else
 if(Jq s.a JE).2≠0 then(none,(Jq s.a JE).2)else
 if(addT s.b 400 (Jq s.a JE).1).2.2.1≠0 then(none,(addT s.b 400 (Jq s.a JE).1).2.2.1)else
 if(Kc s.c {(addT s.b 400 (Jq s.a JE).1).1 with b:=(addT s.b 400 (Jq s.a JE).1).2.1}).2≠0 then(none,(Kc s.c {(addT s.b 400 (Jq s.a JE).1).1 with b:=(addT s.b 400 (Jq s.a JE).1).2.1}).2)else
 (some (Kc s.c {(addT s.b 400 (Jq s.a JE).1).1 with b:=(addT s.b 400 (Jq s.a JE).1).2.1}).1,0)
theorem Tab.D {W F:Pt->Prop}{j:St}{p:Pt}{z:Tb}(h:Tab W F j p z)(id:Nat):∃t l,j.A p= .a t l/\l.length=5/\Tab W F (j.D p t fun u=> .a u (JF l 3 [.d .i64 (id:Int)])) p {z with b:=id}:=by
 obtain⟨K,M,N,O,Q,S,h⟩:=h;obtain⟨t,c⟩:=h.s;have g:∀r,r≠p->(j.D p t fun u=> .a u (JF [K, .q M, .q N, .d .i64 z.b, .q O] 3 [.d .i64 (id:Int)])).A r=j.A r:=fun r n=>Ji _ _ _ n;have x:∀r,(∃t m,j.A r= .b t m)->r≠p:=fun r ⟨_,_,e⟩ k=>by grind
 have P:∀r,F r->j.A r≠ .none->F r/\(j.D p t fun u=> .a u (JF [K, .q M, .q N, .d .i64 z.b, .q O] 3 [.d .i64 (id:Int)])).A r=j.A r:=fun r f _=>⟨f,g r fun k=>h.L r f (by rw[k];exact h.w.1)⟩
 refine⟨t,_,c,rfl,K,M,N,O,Q,S,{h with s:=⟨j.t,Jk _ _ _ _⟩,u:=fun r w=> ?_,l:= ?_,H:=fun i a b=>(h.H i a b).A P,y:=h.y.B (g _ (x _ (by obtain⟨t,e⟩:=h.y;grind))),o:=h.o.B (g _ (x _ (by obtain⟨t,e⟩:=h.o;grind))),v:=h.v.B (g _ (x _ (by obtain⟨t,e⟩:=h.v;grind))),A:=fun i a b=>⟨(h.A i a b).1,(h.A i a b).2.D P⟩}⟩
 ·by_cases e:r=p
  ·rw[e,Jk];simp
  ·rw[g r e];exact h.u r w
 ·exact h.l.D fun r t _ n _=>g r n
def SlF (S0 st:St)(v:V)(z:Nat)(es:List (List V)):Prop:=
 (∀e∈es,e.length=z)/\((v= .g/\es=[])\/∃r t,S0.A r= .none/\st.A r= .a t es.flatten/\(v= .u r 0 es.length z\/v= .m r 0 es.length z es.length))
section
variable {S0 st st' : St} {v : V} {z : Nat} {es : List (List V)}
theorem SlF.I (S0 st:St)(z:Nat):SlF S0 st .g z []:=⟨by simp, .inl ⟨rfl,rfl⟩⟩
theorem SlF.D (h:SlF S0 st v z es):SlAt (fun r=>S0.A r= .none) st v z es:=by
 refine⟨h.1, ?_⟩;rcases h.2 with a|⟨r,t,a,b,c⟩
 ·grind
 ·refine .inr ⟨r,0,a, ?_,es.flatten, .inl ⟨t,b⟩,by rw[Jt h.1];omega,by rw[XQ,<-Jt h.1,Zf]⟩
  grind
theorem SlF.B (h:SlF S0 st v z es)(k:∀r,rowOf v=some r->st'.A r=st.A r):SlF S0 st' v z es:=by
 refine⟨h.1, ?_⟩;rcases h.2 with a|⟨r,t,a,c,b⟩
 ·grind
 ·refine .inr ⟨r,t,a, ?_,b⟩;rw[k r (by rcases b with rfl|rfl<;>rfl),c]
theorem SlF.G (h:SlF S0 st v z es)(g:Gr st st'):SlF S0 st' v z es:=by
 refine h.B fun r a=>g.d r ?_;rcases h.2 with⟨rfl,_⟩|⟨q,t,c,e,b⟩
 ·cases a
 ·have:r=q:=by rcases b with rfl|rfl<;>(injection a with a;grind)
  grind
theorem SlF.J (h:SlF S0 st v z es)(g:∀r,S0.A r= .none->e.A r= .none):SlF e st v z es:=by
 refine⟨h.1, ?_⟩;rcases h.2 with a|⟨r,t,a,b,c⟩
 ·grind
 grind
theorem SlF.H (h:SlF S0 st v z es)(b:rowOf v=some i):S0.A i= .none/\∃t,st.A i= .a t es.flatten:=by
 rcases h.2 with⟨rfl,_⟩|⟨q,t,d,e,c⟩
 ·cases b
 ·have:i=q:=by rcases c with rfl|rfl<;>(injection b with b;grind)
  grind
theorem Jmd (i:Gr S0 st)(h:SlF S0 st v z es)(x:SlAt s st r z d)(y:okC d)(Y:d.length<2^20)(Z:es.length+d.length<=2^24){R:V->St->Prop}
  (k:∀S' W,Gr S0 S'->SlF S0 S' W z (es++d)->(∀p,st.A p≠ .none->rowOf v≠some p->S'.A p=st.A p)->R W S'):wW (appV st z v r) st R:=by
 have l:appV st z v r=JI st z d.length d.flatten v:=by
  unfold appV;rw[x.N];simp only[x.O];rw[Xd ⟨Y,y.A⟩]
 have M:∀e∈es++d,e.length=z:=fun e n=>by
  rcases Xy.1 n with n|n
  ·exact h.1 e n
  ·exact x.1 e n
 rw[l];have w:=i.D;by_cases h0:d.length=0
 ·have aa:d=[]:=XB.1 h0;have j:JI st z d.length d.flatten v=some (v, .a):=by
   have hs:(slen v).isSome=true:=by rw[h.D.N];rfl
   unfold JI
   grind
  rw[j];refine k st v i ?_ fun _ _ _=>rfl
  grind
 rcases h.2 with⟨rfl,S⟩|⟨f,t,h2,X,h4⟩
 ·have j:JI st z d.length d.flatten .g=some (.u st.b 0 d.length z, .b fun t=> .a t d.flatten):=by
   unfold JI
   grind
  rw[j];subst S;refine k (st.B fun t=> .a t d.flatten) _ (i.L (Jd _)) ⟨M, .inr ⟨st.b,st.t,i.K,by rw[JM];simp, .inl (by simp)⟩⟩ fun p o _=>KC w _ o
 ·have ab:=Jt h.1;have ad:0+es.length*z<=es.flatten.length:=by omega
  have ae:(es.flatten.drop 0).take (es.length*z)=es.flatten:=by grind
  rcases h4 with rfl|rfl
  ·have j:JI st z d.length d.flatten (.u f 0 es.length z)=some (.u st.b 0 (es.length+d.length) z, .e f t fun u=> .a u (es.flatten++d.flatten)):=by
    unfold JI
    grind
   rw[j];refine k ((st.D f t .c).B fun u=> .a u (es.flatten++d.flatten)) _ (i.Q h2 (by grind) (by rw[X];rfl) (Jd _)) ⟨M, .inr ⟨st.b,st.t+1,i.K, ?_, .inl (by simp)⟩⟩ fun p o T=> ?_
   ·rw[XS];exact JM (st.D f t .c) _
   ·have q:p≠f:=fun e=>T (by rw[e];rfl);have U:WF (st.D f t .c):=(Q9 w (by grind) (by rw[X];rfl) fun u=>⟨rfl,fun e=>by cases e⟩).wf;rw[KC U _ (by rw[Ji _ _ _ q];exact o),Ji _ _ _ q]
  ·have j:JI st z d.length d.flatten (.m f 0 es.length z es.length)=some (.u st.b 0 (es.length+d.length) z, .b fun u=> .a u (es.flatten++d.flatten)):=by
    unfold JI
    grind
   rw[j];refine k (st.B fun u=> .a u (es.flatten++d.flatten)) _ (i.L (Jd _)) ⟨M, .inr ⟨st.b,st.t,i.K, ?_, .inl (by simp)⟩⟩ fun p o _=>KC w _ o;rw[XS];exact JM st _
theorem JeZ (h:SlAt s st v z es){k:Nat}(p:k<=es.length):∃b,QV st z v none (some (.d .i64 (k:Int))) none=some (b, .a)/\SlAt s st b z (es.take k)/\rowOf b=rowOf v:=by
 rcases h.2 with⟨rfl,j⟩|⟨r,o,q,t,l,w,M,N⟩
 ·subst j;have:k=0:=by grind
  subst this;exact⟨.g,by rfl,⟨by simp, .inl ⟨rfl,by simp⟩⟩,rfl⟩
 ·have x:k*z<=es.length*z:=Zb _ p;have f:(es.take k).length=k:=by grind
  have y:(l.drop o).take (k*z)=(es.take k).flatten:=by
   have K:(l.drop o).take (k*z)=es.flatten.take (k*z):=by grind
   rw[K]
   conv=>lhs;rw[<-XW k es,XS]
   have O:(es.take k).flatten.length=k*z:=by rw[Jt fun e n=>h.1 e (Zh n),f]
   grind
  have i:∀b,(b= .u r o k z\/∃c,k<=c/\b= .m r o k z c)->SlAt s st b z (es.take k):=fun b L=>
   ⟨fun e n=>h.1 e (Zh n), .inr ⟨r,o,q,by grind,l,w,by grind,by grind⟩⟩
  rcases t with rfl|⟨c,Q,rfl⟩
  ·refine⟨.u r o k z, ?_,i _ (.inl rfl),rfl⟩;simp[QV,YV,J7,QT]
   grind
  ·refine⟨.m r o k z c, ?_,i _ (.inr ⟨c,by omega,rfl⟩),rfl⟩;simp[QV,YV,J7,QT]
   grind
theorem Je0 (h:SlAt s st v z es){k:Nat}(p:k<=es.length):∃b,QV st z v (some (.d .i64 (k:Int))) none none=some (b, .a)/\SlAt s st b z (es.drop k)/\rowOf b=rowOf v:=by
 rcases h.2 with⟨rfl,j⟩|⟨r,o,t,w,l,x,O,y⟩
 ·subst j;have:k=0:=by grind
  subst this;exact⟨.g,by rfl,⟨by simp, .inl ⟨rfl,by simp⟩⟩,rfl⟩
 ·have K:k*z<=es.length*z:=Zb _ p;have f:(es.length-k)*z=es.length*z-k*z:=Nat.sub_mul _ _ _;have q:(es.drop k).length=es.length-k:=GU;have L:(l.drop (o+k*z)).take ((es.length-k)*z)=(es.drop k).flatten:=by
   have M:(l.drop (o+k*z)).take ((es.length-k)*z)=es.flatten.drop (k*z):=by
    rw[<-y,Gg,ZH,f]
   rw[M]
   conv=>lhs;rw[<-XW k es,XS]
   have Q:(es.take k).flatten.length=k*z:=by rw[Jt fun e n=>h.1 e (Zh n),ZG,Zd p]
   grind
  have i:∀b,(b= .u r (o+k*z) (es.length-k) z\/∃c,es.length-k<=c/\b= .m r (o+k*z) (es.length-k) z c)->SlAt s st b z (es.drop k):=fun b N=>
   ⟨fun e n=>h.1 e (ZZ n), .inr ⟨r,o+k*z,t,by grind,l,x,by grind,by grind⟩⟩
  rcases w with rfl|⟨c,S,rfl⟩
  ·refine⟨.u r (o+k*z) (es.length-k) z, ?_,i _ (.inl rfl),rfl⟩;simp[QV,YV,J7,QT]
   grind
  ·refine⟨.m r (o+k*z) (es.length-k) z (c-k), ?_,i _ (.inr ⟨c-k,by omega,rfl⟩),rfl⟩;simp[QV,YV,J7,QT]
   grind
end
theorem JhD (c:Fr)(a b:Nat):JP c [([a],[b])]=(match rowOf (c a),rowOf (c b)with
  |some r,some q=>decide (r≠q)
  |_,_=>true):=by
 simp[JP];rfl
theorem JQ {v w:V}{q:Pt}(d:X n=v)(e:X h=w)(f:rowOf w=some q)(c:rowOf v≠some q):JP X [([n],[h])]=true:=by
 rw[JhD,d,e,f]
 grind
theorem Ql {st:St}{z:Nat}{e:List V}(c:e.length=z):SlAt (fun r=>r=st.b) (st.B fun t=> .a t e) (.m st.b 0 1 z 1) z [e]:=
 ⟨fun x d=>by grind, .inr ⟨st.b,0,rfl, .inr ⟨1,Xb 1,rfl⟩,e, .inl ⟨st.t,JM _ _⟩,by simp[c],by simp[<-c]⟩⟩
end Eva
namespace Eva
open Go Go.RowKit
set_option linter.unusedVariables false
set_option maxRecDepth 10000
variable {s u:Pt->Prop}{e g:St}{n h o:Nat}{k:List V}{d:List (List V)}{i Y:Pt}{r:V}{l:V->St->Prop}{m:Table}{j:Nat->Row}{w:List Nat}{x:Self->List V->St->Option (V×St)}{y:Out->Prop}{X:Fr}{Z:List (V×V)}
theorem an {a b:Prop}(x:a)(y:b):a/\b:=⟨x,y⟩
def XX := an (an (an (an (an (an (an (an (an @Jik @Jil) @Jew) (an @Jim @Jtq)) (an (an @JnW @Jey) (an @Jdp @Jln))) (an (an (an @Jrv @Jlo) (an @Jrw @Jlp)) (an (an @qC @JcK) (an @Jkr @kO)))) (an (an (an (an @Jez @JeA) (an @JeB @Jlq)) (an (an @JeC @Jf8) (an @Jtr @Jlr))) (an (an (an @Jls @Jlt) (an @Jlu @Jin)) (an (an @Jio @Jrx) (an @Jip @Jiq))))) (an (an (an (an (an (an @Jir @Jis) @Jit) (an @Jiu @Jiv)) (an (an @Jiw @Jix) (an @Jiy @JeD))) (an (an (an @Jf9 @Jry) (an @Jga @Jlv)) (an (an @JeE @JnX) (an @JnY @Jlw)))) (an (an (an (an @Jlx @Jgb) (an @Jiz @JnZ)) (an (an @Jly @JeF) (an @Jrz @JiA))) (an (an (an @Jgc @JiB) (an @jX @qD)) (an (an @Jn2 @JiC) (an @JrA @JiD)))))) (an (an (an (an (an (an (an @Jn3 @JiE) @Jn4) (an @JiF @Jlz)) (an (an @JiG @JV) (an @JrC @Jn6))) (an (an (an @Jn7 @JiH) (an @JrD @Jn8)) (an (an @JlC @JrE) (an @Jtt @Jtu)))) (an (an (an (an @JlD @JiI) (an @Jgd @JlE)) (an (an @Jn9 @JrF) (an @JrG @JrH))) (an (an (an @JlF @JlG) (an @Joa @Jge)) (an (an @Jgf @JiJ) (an @JeG @JeH))))) (an (an (an (an (an (an @Jgg @Jgh) @JiK) (an @JlH @JiL)) (an (an @Job @Joc) (an @Jod @Joe))) (an (an (an @JlI @JlJ) (an @Jof @Jog)) (an (an @JlK @JiM) (an @JlL @Joh)))) (an (an (an (an @Joi @JrI) (an @JrJ @JlM)) (an (an @JiN @Joj) (an @JrK @JlN))) (an (an (an @JiO @Jok) (an @JiP @Jol)) (an (an @JiQ @JiR) (an @JiS @JiT))))))) (an (an (an (an (an (an (an (an @JrL @Jom) @Jon) (an @JiU @Joo)) (an (an @JlO @JlP) (an @JlQ @JiV))) (an (an (an @Jop @Jgi) (an @JlR @Joq)) (an (an @JlS @JlT) (an @Jor @JlU)))) (an (an (an (an @JiW @JiX) (an @JlV @Jgj)) (an (an @JlW @JlX) (an @JlY @Jb2))) (an (an (an @Zu @Bool.not_eq_true') (an @XH @HA)) (an (an @ZK @Int.toNat_zero) (an @Int.toNat_one @ZD))))) (an (an (an (an (an (an @GW @Nat.one_ne_zero) @Nat.zero_ne_one) (an @Bool.true_eq_false @Bool.not_true)) (an (an @Bool.not_false @Bool.not_not) (an @decide_true @GE))) (an (an (an @Zo @X8) (an @ZL @Gf)) (an (an @Jou @Y7) (an @Jac @Y6)))) (an (an (an (an @Jl5 @Jab) (an @KW @J6)) (an (an @Jgt @Jgu) (an @Jdq @Ji3))) (an (an (an @Jgv @Ji4) (an @Jgw @JeQ)) (an (an @JeR @Ji5) (an @Jgx @Jgy)))))) (an (an (an (an (an (an (an @JeS @Jgn) @Jgo) (an @JeO @Jgp)) (an (an @Jgq @JeP) (an @Ji1 @Jgr))) (an (an (an @Jgs @Ji2) (an @Jbu @Jhz)) (an (an @JhA @Joz) (an @Jl6 @JrN)))) (an (an (an (an @JoA @JoB) (an @JrO @QB)) (an (an @KN @Bool.and_self) (an @Gt @Hm))) (an (an (an @Bool.and_false @GI) (an @JlA @JoD)) (an (an @JoE @Jgz) (an @JgA @Jl8))))) (an (an (an (an (an @JoF @Ji0) (an @Jow @Jl9)) (an (an @JgB @Jma) (an @Xb @kG))) (an (an (an @Jgk @Jgl) (an @JiY @Option.map_some.{0,0})) (an (an @Option.map_none.{0,0} (@List.getElem?_cons_zero.{0})) (an (@List.getElem?_cons_succ.{0}) (@List.getElem?_nil.{0}))))) (an (an (an (an @GR.{0} @Option.getD_none.{0}) (an @ZT.{1} @X2.{1})) (an (an @GA.{1} @XT.{0}) (an @X4.{0} @XJ.{0}))) (an (an (an @Zs.{0} @Hl.{0}) (an @GJ.{0} @Hj.{0})) (an (an @XQ.{0} @List.take_nil.{0}) (an @List.drop_nil.{0} @ZC.{0})))))))
def iq (d:Nat)(o:Iop):Ins:=⟨some d,o,none,none⟩
theorem JoL (d:Nat)(o:Iop):iq d o=⟨some d,o,none,none⟩:=Xe (Xk _)
def ig (d a:Nat)(b:Bool)(o:Iop):Ins:=⟨some d,o,some (a,b),none⟩
theorem JoM (d a:Nat)(b:Bool)(o:Iop):ig d a b o=⟨some d,o,some (a,b),none⟩:=Xe (Xk _)
def iz (o:Iop):Ins:=⟨none,o,none,none⟩
theorem JoN (o:Iop):iz o=⟨none,o,none,none⟩:=Xe (Xk _)
def im (d x:Nat):Ins:=⟨some d, .Q (.s x),none,none⟩
theorem JoO (d x:Nat):im d x=⟨some d, .Q (.s x),none,none⟩:=Xe (Xk _)
def ia (d o x:Nat):Ins:=⟨some d, .j o (.s x),none,none⟩
theorem JoP (d o x:Nat):ia d o x=⟨some d, .j o (.s x),none,none⟩:=Xe (Xk _)
def il (d x:Nat):Ins:=⟨some d, .l (.s x),none,none⟩
theorem JoQ (d x:Nat):il d x=⟨some d, .l (.s x),none,none⟩:=Xe (Xk _)
def ie (d n x:Nat):Ins:=⟨some d, .M n (.s x),none,none⟩
theorem JoR (d n x:Nat):ie d n x=⟨some d, .M n (.s x),none,none⟩:=Xe (Xk _)
def ik (d:Nat)(n:Int):Ins:=⟨some d, .Q (.c (.d .i64 n)),none,none⟩
theorem JoS (d:Nat)(n:Int):ik d n=⟨some d, .Q (.c (.d .i64 n)),none,none⟩:=Xe (Xk _)
def sr (l:List Ins)(c:C):C:= .j (.k l) c
theorem JoT (l:List Ins)(c:C):sr l c= .j (.k l) c:=Xe (Xk _)
def ci (n:Int):Opd:= .c (.d .i64 n)
theorem JoU (n:Int):ci n= .c (.d .i64 n):=Xe (Xk _)
theorem XI :type_of%(an (an @JoL (an @JoM @JoN)) (an (an @JoO @JoP) (an (an @JoQ (an @JoR @JoS)) (an @JoT @JoU)))):=an (an @JoL (an @JoM @JoN)) (an (an @JoO @JoP) (an (an @JoQ (an @JoR @JoS)) (an @JoT @JoU)))
theorem XN :type_of%(an XX XI):=an XX XI
theorem XM :type_of%(an XN (an @Ja @Je)):=an XN (an @Ja @Je)
theorem XY :type_of%(an XN @JL):=an XN @JL
theorem XZ :type_of%(an XM @JL):=an XM @JL
end Eva
