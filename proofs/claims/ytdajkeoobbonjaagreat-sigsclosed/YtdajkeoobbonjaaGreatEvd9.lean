/- Memory, tables and types, told for contracts. Slices and maps in memory: what is read o -/
import Derived.Test.YtdajkeoobbonjaaGreatEvd8
set_option linter.constructorNameAsVariable false
set_option linter.defProp false
set_option linter.unusedVariables false
set_option linter.unusedSimpArgs false
set_option linter.unusedSectionVars false
namespace Eva
open Go Go.RowKit
variable {s u:Pt->Prop}{e g:St}{n h o:Nat}{k:List V}{d:List (List V)}{i Z:Pt}{r:V}{l:V->St->Prop}{m:Table}{j:Nat->Row}{w:List Nat}{x:Self->List V->St->Option (V×St)}{y:Out->Prop}{X:Fr}{Y:List (V×V)}
def RowL (x:Row)(l:List V):Prop:=(∃t,x= .a t l)\/x= .f l
theorem RowL.D {x:Row}(h:RowL x k):x≠ .none:=by
 rcases h with⟨t,rfl⟩|rfl<;>exact fun e=>by cases e
theorem RowL.A {x:Row}(h:RowL x k)(o:Nat):ld1 x o=(k[o]?).map fun v=>(v, .a):=by
 rcases h with⟨t,rfl⟩|rfl<;>rfl
theorem RowL.B {x:Row}(h:RowL x k)(o n:Nat):ldn x o n=if o+n<=k.length then some (.j ((k.drop o).take n), .a)else none:=by
 rcases h with⟨t,rfl⟩|rfl<;>rfl
def SlAt (P:Pt->Prop)(st:St)(v:V)(z:Nat)(es:List (List V)):Prop:=
 (∀e∈es,e.length=z)/\((v= .e/\es=[])\/∃r o,P r/\(v= .w r o es.length z\/∃c,es.length<=c/\v= .m r o es.length z c)/\∃l,RowL (st.A r) l/\o+es.length*z<=l.length/\(l.drop o).take (es.length*z)=es.flatten)
theorem Je7 {z:Nat}:∀{a:List (List V)} {i:Nat},(∀e∈a,e.length=z)->(b:i<a.length)->(a.flatten.drop (i*z)).take z=a[i]
 |e::r,0,h,_=>by grind
 | e::r,i+1,h,b=>by
   have c:=h e (by simp);have:=Je7 (i:=i) (fun x d=>h x (Xi _ d)) (by grind);rw[Zf,Zm,HJ,Hj,<-this];congr 1;rw[<-c,Z9];simp
theorem Jp {z:Nat}:∀{a:List (List V)},(∀e∈a,e.length=z)->a.flatten.length=a.length*z
 |[],_=>by simp
 | e::r,h=>by
   rw[Zf,XW,h e (by simp),Jp (fun x b=>h x (Xi _ b)),XF,Zm,HJ]
section
variable {P Q : Pt -> Prop} {st st' : St} {v : V} {z : Nat} {es : List (List V)}
theorem SlAt.K (P:Pt->Prop)(st:St)(z:Nat):SlAt P st .e z []:=⟨by simp, .inl ⟨rfl,rfl⟩⟩
theorem SlAt.G (h:SlAt P st v z es):J8 v=some (.d .i64 es.length, .a):=by
 rcases h.2 with⟨rfl,rfl⟩|⟨r,o,_,rfl|⟨c,_,rfl⟩,_⟩<;>rfl
theorem SlAt.N (h:SlAt P st v z es):slen v=some es.length:=by
 rcases h.2 with⟨rfl,rfl⟩|⟨r,o,_,rfl|⟨c,_,rfl⟩,_⟩<;>rfl
theorem SlAt.D (h:SlAt P st v z es)(k:∀r,P r->st.A r≠ .none->Q r/\st'.A r=st.A r):SlAt Q st' v z es:=by
 refine⟨h.1, ?_⟩;rcases h.2 with h|⟨r,o,a,c,l,b,d,e⟩
 ·grind
 ·obtain⟨f,g⟩:=k r a b.D
  grind
theorem SlAt.H (h:SlAt P st v z es){i:Nat}(b:i<es.length):
  ∃r q,Js z v (.d .i64 i)=some (.g r q, .a)/\P r/\(st.A r≠ .none)/\ldn (st.A r) q z=some (.j es[i], .a)/\∀j (k:j<es[i].length),ld1 (st.A r) (q+j)=some (es[i][j], .a):=by
 rcases h.2 with⟨_,rfl⟩|⟨r,o,m,n,l,e,t,p⟩
 ·grind
 have u:es[i].length=z:=h.1 _ (Xh b);have s:i*z+z<=es.length*z:=by rw[<-Zm];exact XT _ b
 have f:(l.drop (o+i*z)).take z=es[i]:=by
  rw[<-Je7 h.1 b,<-p,Gm,ZH,ZU,Zd (by omega)]
 refine⟨r,o+i*z, ?_,m,e.D, ?_,fun j k=> ?_⟩
 ·rcases n with rfl|⟨c,_,rfl⟩
  ·rw[kX,Xe (by omega)];simp
  ·rw[jf,Xe (by omega)];simp
 ·rw[e.B,Xe (by omega),f]
 ·rw[e.A]
  grind
theorem SlAt.M {xs:List V}(h:SlAt P st v 1 (xs.map fun x=>[x])){i:Nat}(f:i<xs.length):
  ∃r q,Js 1 v (.d .i64 i)=some (.g r q, .a)/\P r/\(st.A r≠ .none)/\ld1 (st.A r) q=some (xs[i], .a):=by
 obtain⟨r,q,b,c,e,_,j⟩:=h.H (i:=i) (by grind);refine⟨r,q,b,c,e, ?_⟩
 simp_all
end
def Yn {α:Type}[DecidableEq α](k:α):List (α×V)->Nat->Option (Nat×V)
 |[],_=>none
 |(a,v)::r,i=>if k=a then some (i,v)else Yn k r (i+1)
theorem jg {α:Type}[DecidableEq α]{b:α->V}{e:EK}(k:α):∀(d:List (α×V)) (i:Nat),(∀p∈d,e.B (b k) (b p.1)=some (decide (k=p.1)))->
  KJ e (b k) (d.map fun p=>(b p.1,p.2)) i=some (Yn k d i)
 |[],_,_=>rfl
 | (a,v)::r,i,c=>by
   have f:=c (a,v) (by simp);simp[KJ,f,Yn];by_cases h:k=a
   ·simp[h]
   ·simp[h,Gn];exact jg k r (i+1) fun p g=>c p (by simp[g])
theorem Jcl (a b:List UInt8):EK.B (.a .s) (ofL a) (ofL b)=some (decide (a=b)):=by
 simp[EK.B,keq,ofL,Jcj]
def at_ {α:Type}[DecidableEq α](k:α):List (α×V)->Option V
 |[]=>none
 |(a,v)::r=>if k=a then some v else at_ k r
theorem Jh1 {α:Type}[DecidableEq α](k:α):∀(b:List (α×V)) (i:Nat),(Yn k b i).map (·.2)=at_ k b
 |[],_=>rfl
 | (a,v)::r,i=>by
   simp[Yn,at_]
   split
   ·rfl
   ·exact Jh1 k r (i+1)
theorem Jcm {α:Type}[DecidableEq α]{k:α}:∀{b:List (α×V)} {i j:Nat} {v:V},Yn k b i=some (j,v)->i<=j/\∃h:j-i<b.length,b[j-i]=(k,v)
 |[],_,_,_,h=>by cases h
 | (a,w)::r,i,j,v,h=>by
   simp[Yn]at h
   split at h
   ·grind
   ·obtain⟨c,d,e⟩:=Jcm h
    grind
def Y4 {α:Type}[DecidableEq α](k:α)(v:V):List (α×V)->List (α×V)
 |[]=>[(k,v)]
 |(a,w)::r=>if k=a then(k,v)::r else(a,w)::Y4 k v r
theorem qc {α:Type}[DecidableEq α]{k:α}{v:V}:∀{b:List (α×V)} {i:Nat},Yn k b i=none->Y4 k v b=b++[(k,v)]
 |[],_,_=>rfl
 | (a,w)::r,i,h=>by
   simp[Yn]at h
   split at h
   ·cases h
   ·rename_i e
    simp[Y4,Xa e,qc h]
theorem Je8 {α:Type}[DecidableEq α]{k:α}{v:V}:∀{b:List (α×V)} {i j:Nat} {w:V},Yn k b i=some (j,w)->Y4 k v b=b.modify (j-i) fun _=>(k,v)
 |[],_,_,_,h=>by cases h
 | (a,x)::r,i,j,w,h=>by
   simp[Yn]at h
   split at h
   ·rename_i e
    injection h with h;injection h with c d;subst c;simp[Y4,e]
   ·rename_i e
    have c:=(Jcm h).1;have:j-i=(j-(i+1))+1:=by omega
    simp[Y4,Xa e,Je8 h,this]
theorem Jk4 {α:Type}[DecidableEq α](k:α)(v:V)(x:α):∀(b:List (α×V)),at_ x (Y4 k v b)=if x=k then some v else at_ x b
 |[]=>rfl
 | (a,w)::r=>by
   simp[Y4];by_cases h:k=a
   ·subst h;simp[at_]
    grind
   ·simp[Xa h,at_];by_cases c:x=a
    ·grind
    ·simp[Xa c];exact Jk4 k v x r
def Y5 {α:Type}(st:St)(r:Pt)(enc:α->V)(es:List (α×V)):Prop:=∃t,st.A r= .b t (es.map fun p=>(enc p.1,p.2))
theorem Jjt (a:Fr)(b:St)(e:EK)(z:V)(c:Bool)(m k:Opd):evOp a b (.lookup e z c m k)=Q9 b e z c (m.A a) (k.A a):=Xf (Xl _)
def ansL (z:V)(ok:Bool):Option V->V
 |some v=>if ok then .p [v, .h true]else v
 |none=>if ok then .p [z, .h false]else z
theorem K0 {α:Type}[DecidableEq α]{enc:α->V}{e:EK}{b:List (α×V)}(h:Y5 g i enc b)(z:V)(f:Bool)(k:α)(d:∀p∈b,e.B (enc k) (enc p.1)=some (decide (k=p.1)))(c:e.A (enc k)=true):
  Q9 g e z f (.q i) (enc k)=some (ansL z f (at_ k b), .a):=by
 obtain⟨t,h⟩:=h;simp[Q9,jO,h,c,jg k b 0 d,<-Jh1 k b 0]
 cases Yn k b 0 with
 |none=>rfl
 |some p=>rfl
theorem Jo1 (a:Fr)(b:St)(e:EK)(m k v:Opd):evOp a b (.mupd e m k v)=JdK b e (m.A a) (k.A a) (v.A a):=rfl
theorem Je9 {α β:Type}(f:α->β)(g:α->α)(b:β->β)(h:∀a,f (g a)=b (f a)):∀(l:List α) (i:Nat),(l.modify i g).map f=(l.map f).modify i b
 |[],_=>by simp
 |a::r,0=>by simp[h]
 |a::r,i+1=>by simp[Je9 f g b h r i]
theorem jD {α:Type}[DecidableEq α]{enc:α->V}{e:EK}{es:List (α×V)}(h:g.A i= .b n (es.map fun p=>(enc p.1,p.2)))(k:α)(v:V)(f:∀p∈es,e.B (enc k) (enc p.1)=some (decide (k=p.1)))(c:e.A (enc k)=true):
  JdK g e (.q i) (enc k) v=some (JY, .d i n fun u=> .b u ((Y4 k v es).map fun p=>(enc p.1,p.2))):=by
 simp[JdK,h,c,jg k es 0 f]
 cases l:Yn k es 0 with
 |none=>rw[qc l];simp
 | some p=>
   obtain⟨j,w⟩:=p;rw[Je8 l,Je9 (fun p:α×V=>(enc p.1,p.2)) (fun _=>(k,v)) (fun _=>(enc k,v)) (fun a=>rfl)];rfl
structure Ch (W:Pt->Prop) (a b:St):Prop where
 i:Mono a b
 d:∀r,a.A r≠ .none->¬W r->b.A r=a.A r
section
variable {W W' : Pt -> Prop} {a b c : St}
theorem Ch.D (h:Ch W a b):WF b:=h.i.wf
theorem Ch.G (W:Pt->Prop)(h:WF a):Ch W a a:=⟨Mono.B h,fun _ _ _=>rfl⟩
theorem Ch.H (W:Pt->Prop)(h:Gr a b):Ch W a b:=⟨h.i,fun r e _=>h.d r e⟩
theorem Ch.A (h:Ch W a b)(k:Ch W' b c)(g:∀r,W' r->W r\/a.A r= .none):Ch W a c:=
 ⟨h.i.A k.i,fun r e n=>by
  have f:=h.d r e n;rw[k.d r (by grind) (fun w=>by grind),f]⟩
theorem Ch.I (h:Ch W a b)(k:Gr b c):Ch W a c:=h.A (Ch.H W k) fun _ w=> .inl w
theorem Ch.L (h:Ch W a b)(c:∀u,(j u).A=u/\j u≠ .none):Ch W a (b.B j):=h.I (Gr.G h.D c)
theorem Ch.J (h:Ch W a b){p:Pt}{t:Nat}{f:Nat->Row}(c:b.A p≠ .none)(g:(b.A p).A=t)(l:W p\/a.A p= .none)(j:∀u,(f u).A=u/\f u≠ .none):Ch W a (b.D p t f):=by
 refine⟨h.i.A (Q8 h.D c g j),fun r e n=> ?_⟩;have:r≠p:=fun k=>by grind
 rw[Jj _ _ _ this,h.d r e n]
theorem Ch.B (h:Ch W a b)(c:b.A Z= .none):a.A Z= .none:=by
 apply Xd;intro e;by_cases k:b.A Z=a.A Z
 ·grind
 ·exact(h.i.d Z k).2 c
end
theorem JbK (a:St)(f:Nat->Row)(h:i≠a.b):(a.B f).A i=a.A i:=by rw[St.F,Jy _ _ h]
theorem KC (a:WF e)(f:Nat->Row)(h:e.A i≠ .none):(e.B f).A i=e.A i:=JbK e f (Jsb a h)
abbrev Str :=List UInt8
inductive Ty where
 |mk (kind:Int) (name:Str) (names:List Str) (kids:List Ty)
 deriving Inhabited
def Ty.A :Ty->Int| .mk k _ _ _=>k
def Ty.B :Ty->Str| .mk _ n _ _=>n
def Ty.D :Ty->List Str| .mk _ _ l _=>l
def Ty.G :Ty->List Ty| .mk _ _ _ l=>l
def strs (l:List Str):List (List V):=(l.map ofL).map fun x=>[x]
inductive TyC (P:Pt->Prop) (st:St):List V->Ty->Prop
 | mk {k:Int} {n:Str} {ns:List Str} {ks:List Ty} {nv kv:V} {es:List (List V)} (h1:SlAt P st nv 1 (strs ns)) (h2:SlAt P st kv 4 es) (h3:es.length=ks.length) (h4:∀i (h:i<es.length) (h':i<ks.length),TyC P st es[i] ks[i]):
   TyC P st [.d .i64 k,ofL n,nv,kv] (.mk k n ns ks)
theorem TyC.A {P Q:Pt->Prop}{st st':St}{e:List V}{t:Ty}(h:TyC P st e t)(k:∀r,P r->st.A r≠ .none->Q r/\st'.A r=st.A r):TyC Q st' e t:=by
 induction h with
 |mk a b c f d=>exact .mk (a.D k) (b.D k) c d
theorem TyC.H {t:Ty}(h:TyC s e k t)(a:Gr e g):TyC s g k t:=h.A fun r p k=>⟨p,a.d r k⟩
theorem SlAt.I (h:SlAt s e r n d)(a:Gr e g):SlAt s g r n d:=h.D fun b p c=>⟨p,a.d b c⟩
theorem TyC.B {P:Pt->Prop}{a:St}{e:List V}{t:Ty}(h:TyC P a e t):
  ∃c f b,e=[.d .i64 t.A,ofL t.B,c,f]/\SlAt P a c 1 (strs t.D)/\SlAt P a f 4 b/\b.length=t.G.length/\∀i (h:i<b.length) (m:i<t.G.length),TyC P a b[i] t.G[i]:=by
 cases h with
 |mk g j k l=>exact⟨_,_,_,rfl,g,j,k,l⟩
def JmA (P:Pt->Prop)(st:St)(v:V)(ts:List Ty):Prop:=∃es,SlAt P st v 4 es/\es.length=ts.length/\∀i (h:i<es.length) (h':i<ts.length),TyC P st es[i] ts[i]
theorem JmA.A {P Q:Pt->Prop}{st st':St}{v:V}{t:List Ty}(h:JmA P st v t)(k:∀r,P r->st.A r≠ .none->Q r/\st'.A r=st.A r):JmA Q st' v t:=by
 obtain⟨a,b,c,d⟩:=h;exact⟨a,b.D k,c,fun i h e=>(d i h e).A k⟩
noncomputable def tsz (t:Ty):Nat:=SizeOf.sizeOf t
theorem Yv {k:Int}{n:Str}{ns:List Str}{b:List Ty}(a:h<b.length):tsz b[h]<tsz (.mk k n ns b):=by
 have c:SizeOf.sizeOf b[h]<SizeOf.sizeOf b:=List.sizeOf_lt_of_mem (Xh a);show SizeOf.sizeOf b[h]<SizeOf.sizeOf (Ty.mk k n ns b)
 grind
theorem TyC.D {e:List V}{k:Int}{n:Str}{c:List Str}{a:List Ty}(h:TyC s g e (.mk k n c a)):
  ∃f j b,e=[.d .i64 k,ofL n,f,j]/\SlAt s g f 1 (strs c)/\SlAt s g j 4 b/\b.length=a.length/\∀i (h:i<b.length) (l:i<a.length),TyC s g b[i] a[i]:=h.B
theorem Gr.H (c:Gr e g):∀r,s r->e.A r≠ .none->s r/\g.A r=e.A r:=fun r p f=>⟨p,c.d r f⟩
theorem kR :∀r,s r->e.A r≠ .none->s r/\e.A r=e.A r:=fun _ p _=>⟨p,rfl⟩
theorem Gr.I {a:St}(g:Gr a e)(h:e.A Z= .none):a.A Z= .none:=(Ch.H (fun _=>False) g).B h
structure Nd where
 a:Int
 d:Str
 b:List Str
 c:List Nat
 deriving DecidableEq,Inhabited
structure Tb where
 a:List Nd
 c:List (Str×Nat)
 b:Nat
 d:List (Str×List Nat)
def idx (n:Nd):List Nd->Nat->Option Nat
 |[],_=>none
 |a::r,i=>if n=a then some i else idx n r (i+1)
def layS (tb:Tb)(n:Nd):Tb×Nat×Int:=match idx n tb.a 0 with
 |some i=>(tb,i,0)
 |none=>if 120<=tb.a.length then(tb,0,20)else({tb with a:=tb.a++[n]},tb.a.length,0)
mutual
def addT :Ty->Int->Tb->Tb×Nat×Int×Int
 | .mk k n ns ks,left,tb=>
   if left-1<0\/8<ks.length\/8<ns.length then(tb,0,20,left-1)else
   match JA ks (left-1) tb with
   | (tb,ids,e,left)=>if e≠0 then(tb,0,e,left)else
     match layS tb ⟨k,n,ns,ids⟩with
     |(tb,i,e)=>(tb,i,e,left)
def JA :List Ty->Int->Tb->Tb×List Nat×Int×Int
 |[],left,tb=>(tb,[],0,left)
 | t::r,left,tb=>
   match addT t left tb with
   | (tb,i,e,left)=>if e≠0 then(tb,[],e,left)else
     match JA r left tb with
     |(tb,l,e,left)=>(tb,i::l,e,left)
end
theorem QS (k:Int)(n:Str)(b:List Str)(c:List Ty)(left:Int)(a:Tb):addT (.mk k n b c) left a=
  if left-1<0\/8<c.length\/8<b.length then(a,0,20,left-1)else
  match JA c (left-1) a with
  | (a,d,e,left)=>if e≠0 then(a,0,e,left)else
    match layS a ⟨k,n,b,d⟩with
    |(a,i,e)=>(a,i,e,left):=by rfl
theorem Qm (left:Int)(a:Tb):JA [] left a=(a,[],0,left):=by rfl
theorem Ku (t:Ty)(r:List Ty)(left:Int)(a:Tb):JA (t::r) left a=
  match addT t left a with
  | (a,i,e,left)=>if e≠0 then(a,[],e,left)else
    match JA r left a with
    |(a,l,e,left)=>(a,i::l,e,left):=by rfl
def pre (l:List Nat)(x:Tb×List Nat×Int×Int):Tb×List Nat×Int×Int:=(x.1,l++x.2.1,x.2.2.1,x.2.2.2)
theorem Jk5 {ids:List Nat}{t:Ty}{r:List Ty}{left:Int}{tb:Tb}(h:(addT t left tb).2.2.1=0):
  pre ids (JA (t::r) left tb)=pre (ids++[(addT t left tb).2.1]) (JA r (addT t left tb).2.2.2 (addT t left tb).1):=by
 rw[Ku];generalize addT t left tb=x at h⊢;obtain⟨b,i,e,a⟩:=x;simp at h;subst h;simp;simp[pre]
theorem Jk6 {ids:List Nat}{t:Ty}{r:List Ty}{left:Int}{tb:Tb}(h:(addT t left tb).2.2.1≠0):
  pre ids (JA (t::r) left tb)=((addT t left tb).1,ids,(addT t left tb).2.2.1,(addT t left tb).2.2.2):=by
 rw[Ku];generalize addT t left tb=x at h⊢;obtain⟨b,i,e,a⟩:=x;simp at h;simp[pre,h]
mutual
theorem qe :∀(t:Ty) (left:Int) (a:Tb),0<=left-> -1<=(addT t left a).2.2.2/\(addT t left a).2.2.2<=left/\((addT t left a).2.2.1=0->0<=(addT t left a).2.2.2)
 | .mk k n m f,left,a,h=>by
   rw[QS]
   split
   ·simp;omega
   ·rename_i g
    have g:¬(left-1<0):=fun e=>g (.inl e);have b:=Jfa f (left-1) a (by omega);generalize JA f (left-1) a=x at b⊢;obtain⟨i,j,e,c⟩:=x;simp only at b⊢
    split
    ·simp only;refine⟨b.1,by omega,fun l=>absurd l ‹_›⟩
    ·rename_i d
     have d:e=0:=by simpa using d
     simp;exact⟨b.1,by omega,fun _=>b.2.2 d⟩
theorem Jfa :∀(l:List Ty) (left:Int) (b:Tb),0<=left-> -1<=(JA l left b).2.2.2/\(JA l left b).2.2.2<=left/\((JA l left b).2.2.1=0->0<=(JA l left b).2.2.2)
 |[],left,b,h=>by rw[Qm];simp;omega
 | t::r,left,b,h=>by
   have c:=qe t left b h;rw[Ku];generalize addT t left b=x at c⊢;obtain⟨d,i,e,a⟩:=x;simp only at c⊢
   split
   ·rename_i f
    simp only;exact⟨c.1,c.2.1,fun k=>absurd k f⟩
   ·rename_i f
    have f:e=0:=by simpa using f
    have g:=Jfa r a d (c.2.2 f);generalize JA r a d=y at g⊢;obtain⟨m,l,n,j⟩:=y;simp at g⊢;exact⟨g.1,by omega,g.2.2⟩
end
structure Mon (a b:St):Prop where
 d:Mono a b
 f:b.a<a.a->b.a<a.t->∃r,a.A r≠ .none/\b.A r≠a.A r/\(a.A r).A<=b.a
theorem Mon.A (h:WF e):Mon e e:=⟨Mono.B h,fun h=>absurd h (Gi _)⟩
theorem Mon.B {c:St}(q:WF e)(h:Mon e g)(k:Mon g c):Mon e c:=by
 refine⟨h.d.A k.d,fun s u=> ?_⟩;have v:=h.d.g;have w:=k.d.g;have x:=h.d.t;have j:c.a<g.a->∃r,e.A r≠ .none/\c.A r≠e.A r/\(e.A r).A<=c.a:=fun l=>by
  obtain⟨r,m,n,o⟩:=k.f l (by omega);have i:g.A r=e.A r:=by
   apply Xd;intro i;have:=(h.d.d r i).1;omega
  grind
 by_cases l:c.a<g.a
 ·grind
 ·have i:c.a=g.a:=by omega
  obtain⟨r,m,n,o⟩:=h.f (by omega) (by omega);refine⟨r,m,fun y=> ?_,by omega⟩;by_cases p:c.A r=g.A r
  ·grind
  ·have:=(k.d.d r p).1
   grind
theorem Jo2 (h:WF e){f:Nat->Row}(c:e.A i≠ .none)(g:(e.A i).A=n)(j:∀u,(f u).A=u/\f u≠ .none):Mon e (e.D i n f):=by
 refine⟨Q8 h c g j,fun d k=>⟨i,c,fun b=> ?_, ?_⟩⟩
 ·rw[Jh]at b;have l:=h.t i c
  grind
 ·have d:(if n<e.a then n else e.a)<e.a:=d;show _<=(if n<e.a then n else e.a)
  grind
theorem JmB (h:WF e)(a:∀u,(j u).A=u/\j u≠ .none):Mon e (e.B j):=⟨jd h a,fun h=>absurd h (Gi _)⟩
theorem Jtf {i:St}(h:WF i){e:Eff}(g:e.B i):Mon i (i.J e):=by
 cases e with
 |a=>exact Mon.A h
 |b f=>exact JmB h g
 |d r t f=>exact Jo2 h g.1 g.2.1 g.2.2
 | e r t f=>
   have j:=Jo2 (f:= .c) h g.1 g.2.1 (fun u=>⟨rfl,by simp⟩);exact j.B h (JmB j.d.wf g.2.2)
def JmC (self:Self):Prop:=∀f args st v st',self f args st=some (v,st')->WF st->Mon st st'
section
variable {self : Self} (hself : JmC self)
include hself
theorem Jfb {x:Iop}(b:KW self X e x=some (r,g))(c:WF e):Mon e g:=by
 unfold KW at b
 split at b
 ·exact hself _ _ _ _ _ b c
 ·split at b
  ·exact hself _ _ _ _ _ b c
  grind
 ·obtain⟨⟨h,a⟩,f,d⟩:=JH b;injection d with _ d;subst d;exact Jtf c (Jaw f).1
theorem Jh2 {l:Option (List Nat)}{x:Iop}(o:KQ self l X e x=some (r,g))(q:WF e):Mon e g:=by
 unfold KQ at o
 cases s:KW self X {e with a:=e.t} x with
 |none=>grind
 | some p=>
   obtain⟨P,h⟩:=p;rw[s]at o;have m:=Jfb hself s (Jq q _);have u:=m.d.g;have u:h.a<=e.t:=u;have J:∀k,k<=e.a->k<=h.a\/h.a=e.t->(k<e.a->k=h.a)->Mon e {h with a:=k}:=fun k K Q L=>by
    refine⟨⟨⟨m.d.wf.a,m.d.wf.t⟩,m.d.t,m.d.i,m.d.d,K,fun b w M=> ?_,m.d.f⟩,fun n y=> ?_⟩
    ·have S:h.a<=(e.A b).A:=m.d.j b w M;have T:=q.t b w
     grind
    ·have n:k<e.a:=n;have y:k<e.t:=y;have c:=L n;obtain⟨b,N,O,z⟩:=m.f (by grind) (by grind);exact⟨b,N,O,by have z:(e.A b).A<=h.a:=z;grind⟩
   grind
theorem Jnw {a:Bool}{b:Fr}{x:Ins}(d:Yq self a X e x=some (b,g))(c:WF e):Mon e g:=by
 obtain⟨v,_,h|h⟩:=kV d
 ·rw[h];exact Mon.A c
 ·split at h
  ·exact Jh2 hself h c
  ·exact Jfb hself h c
theorem qN {b:Bool}:∀{l:List Ins} {fr c:Fr} {e a:St},Kj self b l fr e=some (c,a)->WF e->Mon e a
 | [],_,_,_,_,h,f=>by
   simp[Kj]at h;obtain⟨_,rfl⟩:=h;exact Mon.A f
 | i::r,fr,c,e,a,h,f=>by
   simp[Kj]at h
   split at h
   ·rename_i j k m
    have g:=Jnw hself m f;exact g.B f (qN h g.d.wf)
   grind
omit hself in
theorem JgK {b:Fr->St->Option Out}{e:List Nat}(f:∀fr c a,b fr c=some a->WF c->Mon c a.A):∀(k:Nat) {fr:Fr} {c:St} {a:Out},Jad b e k fr c=some a->WF c->Mon c a.A
 |0,_,_,_,h,_=>by cases h
 | k+1,fr,c,a,h,g=>by
   simp[Jad]at h
   split at h
   ·rename_i j l m
    have i:=f _ _ _ m g;exact i.B g (JgK f k h i.d.wf)
   ·exact f _ _ _ h g
theorem Jq5 (J:Nat):∀(w:C) {fr:Fr} {o:St} {a:Out},evD self J w fr o=some a->WF o->Mon o a.A:=by
 intro w
 induction w with
 |d=>intro fr o a h b;simp[evD]at h;subst h;exact Mon.A b
 | k l=>
   intro fr o a h b;simp only[evD]at h;obtain⟨⟨q,p⟩,r,K⟩:=JH h;subst K;exact qN hself r b
 | n l L=>
   intro fr o a h b;simp[evD]at h
   split at h
   ·rename_i q p r
    split at h
    ·injection h with h;subst h;exact qN hself r b
    grind
   grind
 | j x y s t=>
   intro fr o a h b;simp[evD]at h
   split at h
   ·rename_i q p r
    have u:=s r b;exact u.B b (t h u.d.wf)
   grind
 | h v x y s t=>
   intro fr o a h b;simp[evD]at h
   split at h
   ·rename_i q p r
    have u:=s r b;exact u.B b (t h u.d.wf)
   grind
 | f c x y s t=>
   intro fr o a h b;simp[evD]at h
   grind
 | e id x z=>
   intro fr o a h b;simp[evD]at h
   split at h
   ·rename_i i q p r
    have u:Mon o p:=z r b
    split at h
    ·injection h with h;subst h;exact u
    grind
   grind
 | g v x z=>
   intro fr o a h b;exact JgK (fun fr o a h b=>z h b) _ h b
 |i i=>intro fr o a h b;simp[evD]at h;subst h;exact Mon.A b
 |m=>intro fr o a h b;simp[evD]at h;subst h;exact Mon.A b
end
def Jaj (b:Self->List V->St->Option (V×St)):Prop:=∀self,JmC self->∀args st v st',b self args st=some (v,st')->WF st->Mon st st'
theorem Jtg (f:Nat)(g:Fn):Jaj (evFn f g):=by
 intro self l args n v p h q;unfold evFn at h
 cases j:evD self f g.body (qG args) n with
 |none=>grind
 | some o=>
   have m:=Jq5 l f g.body j q;rw[j]at h
   cases o with
   | a k e=>
     obtain⟨u,_,d⟩:=JH h;injection d with _ d;subst d;exact m
   | c k e=>
     obtain⟨u,_,d⟩:=JH h;injection d with _ d;subst d;exact m
   |b i k e=>cases h
theorem Jo3 (g:List V->Option V):Jaj (JdL g).b:=by
 intro self e args c v a h d;have h:(match g args with
  |some v=>some (v,c)
  |none=>none)=some (v,a):=h
 split at h
 ·injection h with h;injection h with _ h;subst h;exact Mon.A d
 grind
theorem Jst {T:Table}(h:∀f b,T f=some b->Jaj b):∀n,JmC (run T n)
 |0=>fun _ _ _ _ _ k=>by cases k
 | n+1=>fun f a d v c k e=>by
   simp[run]at k
   split at k
   ·rename_i b g
    exact h f b g _ (Jst h n) a d v c k e
   grind
theorem Jue {t:BT}(h:t.A fun _ e=>Jaj e.b):∀f,Jaj (selB t f):=by
 induction t with
 | a i e=>
   intro f;show Jaj (bif Nat.beq f i then e.b else Jgv)
   cases Nat.beq f i with
   |true=>exact h
   |false=>exact fun _ _ _ _ _ _ k=>by cases k
 | b n l r c d=>
   intro f;show Jaj (bif Nat.ble f n then selB l f else selB r f)
   cases Nat.ble f n with
   |true=>exact c h.1 f
   |false=>exact d h.2 f
def TabM (T:Table):Prop:=∀n,JmC (run T n)
theorem Juf {t:BT}(h:t.A fun _ e=>Jaj e.b):TabM (tabT t):=Jst fun f b a=>by
 simp[tabT]at a;subst a;exact Jue h f
theorem Does.D (b:TabM m){args:List V}{Q:V->St->Prop}(c:WF e)(h:Does m n args e Q):Does m n args e fun v st'=>Mon e st'/\Q v st':=by
 obtain⟨v,st',d,N,a⟩:=h;exact⟨v,st',⟨b _ _ _ _ _ _ (a N (Xb _)) c,d⟩,N,a⟩
theorem Mon.D {b:St}(h:Mon g b)(k:∀r,g.A r≠ .none->b.A r=g.A r):Gr g b:=by
 refine⟨h.d,k,fun e=> ?_⟩;have l:=h.d.g;apply Xd;intro c;obtain⟨r,i,j,_⟩:=h.f (by omega) (by omega)
 grind
theorem Does.B (b:TabM m){args:List V}(c:WF e)(h:Does m n args e fun v st'=>(∀r,e.A r≠ .none->st'.A r=e.A r)/\l v st'):
  Does m n args e fun v st'=>Gr e st'/\l v st':=(h.D b c).A fun _ _ ⟨a,k,q⟩=>⟨a.D k,q⟩
theorem Does.G (c:TabM m){f:Nat}{args:List V}{st:St}(e:WF st)(h:Does m f args st fun v b=>(∀r,st.A r≠ .none->¬s r->b.A r=st.A r)/\l v b):
  Does m f args st fun v b=>Ch s st b/\l v b:=(h.D c e).A fun _ _ ⟨a,k,q⟩=>⟨⟨a.d,k⟩,q⟩
def up :Nat->Pt->Pt
 |0,p=>p
 |k+1,p=>(up k p).F
theorem ki (k:Nat)(p:Pt):(up k p).F=up (k+1) p:=Xf (Xl _)
theorem JbL :∀(k:Nat) (p:Pt),(up k p).A=p.A+k
 |0,_=>rfl
 |k+1,p=>by show((up k p).F).A=_;rw[Pt.D,JbL k p];omega
theorem JmD (i j:Nat)(p:Pt):(up i p=up j p)=(i=j):=by
 apply propext;constructor
 ·intro h;have:=congrArg Pt.A h;rw[JbL,JbL]at this;omega
 grind
theorem Jak (i j:Nat)(p:Pt):(up i p≠up j p)=(i≠j):=by rw[Ne,JmD]
theorem up0 (p:Pt):p=up 0 p:=Xf (Xl _)
theorem nxE (S:St):∃n,S.b=up 0 n:=⟨_,up0 _⟩
theorem exE {α:Sort _}(a:α):∃b,b=a:=⟨a,rfl⟩
theorem opE (P:Fr->St->Prop):∃I:Fr->St->Prop,∀fr S,I fr S<->P fr S:=⟨P,fun _ _=>Iff.rfl⟩
theorem loE (P:Nat->Fr->St->Prop):∃I:Nat->Fr->St->Prop,∀j fr S,I j fr S<->P j fr S:=⟨P,fun _ _ _=>Iff.rfl⟩
section
variable (st : St) (f : Nat -> Row) (p q : Pt) (t : Nat)
theorem kj :(st.B f).b=st.b.F:=Xf (Xl _)
theorem Jal :(st.D p t f).b=st.b:=Xf (Xl _)
theorem KR :(st.B f).A p=if p=st.b then f st.t else st.A p:=by
 rw[St.F];rfl
theorem JQ :(st.D q t f).A p=if p=q then f st.t else st.A p:=by
 rw[St.G];rfl
end
theorem jR (d:WF e)(f:e.b=up 0 i)(h:e.A Z≠ .none)(k:Nat):(Z=up k i)=False:=by
 apply propext;constructor
 ·intro c;have g:=d.a Z h;rw[f,c,JbL,JbL]at g;omega
 simp
theorem Jt (c:WF e)(d:e.b=up 0 i)(h:e.A Z≠ .none)(k:Nat):Z≠up k i:=fun a=>by
 have:=jR c d h k
 grind
theorem JgL (l:List V):(V.j l).A=some l:=Xf (Xl _)
theorem JgM (k:IntKind)(n:Int):(V.d k n).A=some [.d k n]:=Xf (Xl _)
theorem Jfc (b:Bool):(V.h b).A=some [.h b]:=Xf (Xl _)
theorem JgN (l:List UInt8):(ofL l).A=some [ofL l]:=Xf (Xl _)
theorem JgO (r:Pt)(o:Nat):(V.g r o).A=some [.g r o]:=Xf (Xl _)
theorem Jfd :V.e.A=some [.e]:=Xf (Xl _)
theorem Jju (r:Pt)(o n z:Nat):(V.w r o n z).A=some [.w r o n z]:=Xf (Xl _)
theorem JgP (r:Pt)(o n z c:Nat):(V.m r o n z c).A=some [.m r o n z c]:=Xf (Xl _)
theorem JgQ (r:Pt):(V.q r).A=some [.q r]:=Xf (Xl _)
theorem Jjv (f:Nat)(a b:List V):(V.D f a b).A=some [.D f a b]:=Xf (Xl _)
theorem jS (k:IntKind)(n:Int):(V.d k n).B=true:=Xf (Xl _)
theorem Ja2 (b:Bool):(V.h b).B=true:=Xf (Xl _)
theorem jT (l:List UInt8):(ofL l).B=true:=Xf (Xl _)
theorem Jo4 (r:Pt)(o:Nat):(V.g r o).B=true:=Xf (Xl _)
theorem JmE :V.e.B=true:=Xf (Xl _)
theorem Jsu (r:Pt)(o n z:Nat):(V.w r o n z).B=true:=Xf (Xl _)
theorem Jo5 (r:Pt)(o n z c:Nat):(V.m r o n z c).B=true:=Xf (Xl _)
theorem Jo6 (r:Pt):(V.q r).B=true:=Xf (Xl _)
theorem Jsv (f:Nat)(a b:List V):(V.D f a b).B=true:=Xf (Xl _)
theorem Kv :Kc []=true:=Xf (Xl _)
theorem J9 (a:V)(l:List V):Kc (a::l)=(a.B&&Kc l):=Xf (Xl _)
theorem JK (l:List V)(o:Nat)(a:List V):Jw l o a=l.take o++a++l.drop (o+a.length):=Xf (Xl _)
def JmF (x:Row)(r:Pt)(o n:Nat)(vs:List V):Option (V×Eff):=match x with
 | .a t l=>if vs.length=n/\o+vs.length<=l.length/\Kc vs=true then some (JY, .d r t fun u=> .a u (Jw l o vs))else none
 |_=>none
def Jo7 (st:St)(n:Nat)(x:V)(c:Option (List V)):Option (V×Eff):=match c with
 | some vs=>match x with
   | .g r o=>JmF (st.A r) r o n vs
   |_=>none
 |none=>none
theorem JgR (a:St)(n:Nat)(x v:V):JoY a n x v=Jo7 a n x v.A:=by
 unfold JoY Jo7
 cases v.A with
 |none=>rfl
 | some b=>
   simp
   cases x with
   | g r o=>
     simp[JO,JmF]
     grind
   |_=>simp[JO,ite_self]
theorem JgS (a:St)(n:Nat)(r:Pt)(o:Nat)(b:List V):Jo7 a n (.g r o) (some b)=JmF (a.A r) r o n b:=Xf (Xl _)
theorem JdP (t:Nat)(l:List V)(r:Pt)(o n:Nat)(b:List V):JmF (.a t l) r o n b=if b.length=n/\o+b.length<=l.length/\Kc b=true then some (JY, .d r t fun u=> .a u (Jw l o b))else none:=Xf (Xl _)
def boxB (st:St)(c:Option (List V)):Option (V×Eff):=match c with
 |some vs=>if Kc vs=true then some (.g st.b 0,Eff.b fun t=> .a t vs)else none
 |none=>none
theorem Jjw (a:St)(x:V):boxV a x=boxB a x.A:=Xf (Xl _)
theorem JgT (d:St)(c:List V):boxB d (some c)=if Kc c=true then some (.g d.b 0,Eff.b fun t=> .a t c)else none:=Xf (Xl _)
def Jsw (z:List V)(o n:Nat)(r:List (Nat×Nat×V))(c:Option (List V)):Option (List V):=match c with
 |some vs=>if vs.length=n/\o+n<=z.length then YZ (Jw z o vs) r else none
 |none=>none
theorem Jjx (z:List V):YZ z []=some z:=Xf (Xl _)
theorem JgU (z:List V)(o n:Nat)(v:V)(r:List (Nat×Nat×V)):YZ z ((o,n,v)::r)=Jsw z o n r v.A:=Xf (Xl _)
theorem Jfe (z:List V)(o n:Nat)(r:List (Nat×Nat×V))(a:List V):Jsw z o n r (some a)=if a.length=n/\o+n<=z.length then YZ (Jw z o a) r else none:=Xf (Xl _)
theorem Jff (d:St)(b:List V)(c:List (Nat×Nat×V)):Jok d b c=(YZ b c).map fun l=>(.j l, .a):=Xf (Xl _)
def bslB (st:St)(z n:Nat)(c:Option (List V)):Option (V×Eff):=match c with
 |some l=>if Kc l=true/\l.length=n*z then some (.m st.b 0 n z n,Eff.b fun t=> .a t l)else none
 |none=>none
theorem Jjy (a:St)(z n:Nat)(b:List V)(c:List (Nat×Nat×V)):bslV a z n b c=bslB a z n (YZ b c):=Xf (Xl _)
theorem JgV (c:St)(z n:Nat)(l:List V):bslB c z n (some l)=if Kc l=true/\l.length=n*z then some (.m c.b 0 n z n,Eff.b fun t=> .a t l)else none:=Xf (Xl _)
theorem JgW (a:Fr):evps a []=[]:=Xf (Xl _)
theorem Jfg (c:Fr)(a b:Nat)(x:Opd)(r:List (Nat×Nat×Opd)):evps c ((a,b,x)::r)=(a,b,x.A c)::evps c r:=Xf (Xl _)
theorem Jo8 (a:Fr)(b:St)(z:Nat)(d x:Opd):evOp a b (.copy z d x)=copyV b z (d.A a) (x.A a):=Xf (Xl _)
theorem Jo9 (a:Fr)(b:St)(n z:Nat)(x:Opd)(c d e:Option Opd):evOp a b (.cutA n z x c d e)=Jr8 b n z (x.A a) (c.map (Opd.A a)) (d.map (Opd.A a)) (e.map (Opd.A a)):=Xf (Xl _)
theorem JmG (c:Fr)(a:St):evOp c a .g=some (.q a.b,Eff.b fun t=> .b t []):=Xf (Xl _)
theorem Jpa (a:Fr)(b:St)(z:Nat)(d:List V)(n c:Opd):evOp a b (.t z d n c)=JlS b z d (n.A a) (c.A a):=Xf (Xl _)
def Jpb (x:Row)(n z:Nat)(r:Pt)(o:Nat)(lo hi mx:Option V):Option (V×Eff):=match x with
 | .a _ l=>if o+n*z<=l.length then(Y0 z (.m r o n z n) lo hi mx).map fun v=>(v, .a)else none
 |_=>none
theorem JgX (a:St)(n z:Nat)(r:Pt)(o:Nat)(b c d:Option V):Jr8 a n z (.g r o) b c d=Jpb (a.A r) n z r o b c d:=Xf (Xl _)
theorem JgY (t:Nat)(l:List V)(n z:Nat)(r:Pt)(o:Nat):Jpb (.a t l) n z r o none none none=if o+n*z<=l.length then some (.m r o n z n, .a)else none:=by
 unfold Jpb;simp
 split
 ·simp[Y0,JZ]
 ·rfl
theorem JmH (b:St)(c:Fr)(i n:Nat)(Q:V->St->Prop):resP b c [.a i n] Q=wW (QV b n (c i)) b Q:=by
 have h:=jC c b n (.s i);have h:(Kn b n (c i)).map (fun l=>(V.j l,Eff.a))=QV b n (c i):=h;rw[<-h];simp[resP,Ql,jx]
 cases Kn b n (c i)<;>rfl
theorem JgZ (b:St)(c:Fr)(i n j:Nat)(Q:V->St->Prop):resP b c [.a i n, .s j] Q=wW (QV b n (c i)) b fun v b=>Q (.p [v,c j]) b:=by
 have h:=jC c b n (.s i);have h:(Kn b n (c i)).map (fun l=>(V.j l,Eff.a))=QV b n (c i):=h;rw[<-h];simp[resP,Ql,jx]
 cases Kn b n (c i)<;>rfl
theorem JmI (a:St)(R:V->St->Prop):wW none a R=False:=propext Iff.rfl
theorem SlAt.A {P:Pt->Prop}{st:St}{v:V}{z:Nat}{a:List (List V)}(h:SlAt P st v z a):v.A=some [v]:=by
 rcases h.2 with⟨rfl,rfl⟩|⟨r,o,_,rfl|⟨c,_,rfl⟩,_⟩<;>rfl
theorem SlAt.B {P:Pt->Prop}{a:St}{v:V}{z:Nat}{b:List (List V)}(h:SlAt P a v z b):v.B=true:=by
 rcases h.2 with⟨rfl,rfl⟩|⟨r,o,_,rfl|⟨c,_,rfl⟩,_⟩<;>rfl
theorem SlAt.O (h:SlAt s e r n d):Jz e n d.length r=some d.flatten:=by
 rcases h.2 with⟨rfl,rfl⟩|⟨a,o,_,k,l,b,i,j⟩
 ·rfl
 ·have f:Kn e (d.length*n) (.g a o)=some d.flatten:=by
   rcases b with⟨t,b⟩|b
   ·simp[Kn,b,Xe i,j]
   ·simp[Kn,b,Xe i,j]
  rcases k with rfl|⟨c,_,rfl⟩
  ·simp[Jz,f]
  ·simp[Jz,f]
def okC (es:List (List V)):Prop:=∀e∈es,Kc e=true
theorem okC.A (h:okC d):Kc d.flatten=true:=by
 rw[Kc,List.all_flatten,Ze];intro e a;exact h e a
theorem SlAt.J {P:Pt->Prop}{st:St}{r:Pt}{t z:Nat}{es:List (List V)}(c:st.A r= .a t es.flatten)(d:P r)(b:∀e∈es,e.length=z):SlAt P st (.m r 0 es.length z es.length) z es:=
 ⟨b, .inr ⟨r,0,d, .inr ⟨_,Xb _,rfl⟩,es.flatten, .inl ⟨t,c⟩,by rw[Jp b];omega,by rw[XP,<-Jp b,XE]⟩⟩
theorem Jnx (c:SlAt s e r n d)(f:okC d)(g:d.length<2^20)(j:0<d.length)(k:e.A i= .a h []):
  appV e n (.m i 0 0 n 0) r=some (.w e.b 0 d.length n, .b fun u=> .a u d.flatten):=by
 unfold appV;rw[c.N];simp only[c.O];rw[Xe ⟨g,f.A⟩];unfold JG
 grind
theorem Jk7 (h:SlAt s e r n []):
  appV e n (.m i 0 0 n 0) r=some (.m i 0 0 n 0, .a):=by
 unfold appV;rw[h.N];have b:=h.O;simp at b⊢;rw[b];rfl
theorem Jug (a:Nat)(c:Fn):Jaj (fnD a c).b:=Jtg a c
theorem nx0 (c:WF e)(d:e.b=up 0 i)(k:Nat):e.A (up k i)= .none:=by
 apply Xd;intro a;exact Jt c d a k rfl
theorem SlAt.U (h:SlAt s e r n d):slenX r=some d.length:=by
 rcases h.2 with⟨rfl,rfl⟩|⟨a,o,_,rfl|⟨c,_,rfl⟩,_⟩<;>rfl
theorem SlAt.T (h:SlAt s e r n d):cellsX e n d.length r=some d.flatten:=by
 have:=h.O;rcases h.2 with⟨rfl,rfl⟩|⟨a,o,_,rfl|⟨c,_,rfl⟩,_⟩<;>exact this
theorem JmJ {st0:St}(c:SlAt s st0 r n d)(K:∀i,st0.A i≠ .none->e.A i=st0.A i)(j:okC d){t:Nat}{l:List V}(u:e.A i= .a t l)(L:h+o*n<=l.length)(w:d.length<=o)
  {R:V->St->Prop} (k:∀g M,g.A i= .a M (Jw l h d.flatten)->(∀p,p≠i->g.A p=e.A p)->g.b=e.b->R (.d .i64 d.length) g):wW (copyV e n (.m i h o n o) r) e R:=by
 have x:SlAt s e r n d:=c.D fun i p f=>⟨p,K i f⟩
 have y:=Jp c.1;have N:Nat.min d.length o=d.length:=Zd w;have J:d.length*n<=o*n:=XT _ w;unfold copyV;rw[x.U];simp only[slen,N,x.T];by_cases q:d.length=0
 ·rw[Xe q];have:d=[]:=XD.1 q;subst this;refine k e t ?_ (fun _ _=>rfl) rfl;rw[u];simp[JK]
 ·rw[Xa q];simp only[jY,JO,u];rw[Xe ⟨by omega,j.A⟩];refine k _ e.t ?_ (fun p O=> ?_) rfl
  ·rw[Jmb,Jh]
  ·rw[Jmb,Jj _ _ _ O]
def ints (l:List Nat):List (List V):=(l.map fun n:Nat=>V.d .i64 (n:Int)).map fun x=>[x]
theorem Ya (l:List Str):okC (strs l):=fun e a=>by
 obtain⟨x,b,rfl⟩:=Xz.1 a;obtain⟨y,_,rfl⟩:=Xz.1 b;rfl
theorem Jej (l:List Nat):okC (ints l):=fun e a=>by
 obtain⟨x,b,rfl⟩:=Xz.1 a;obtain⟨y,_,rfl⟩:=Xz.1 b;rfl
theorem Jv (l:List Str):(strs l).length=l.length:=by simp[strs]
theorem JP (l:List Nat):(ints l).length=l.length:=by simp[ints]
theorem Jaz (l:List V):(l.map fun x=>[x]).flatten=l:=by
 induction l with
 |nil=>rfl
 |cons a r b=>simp[b]
theorem Jg0 (l:List Str):(strs l).flatten=l.map ofL:=Jaz _
theorem Jg1 (l:List Nat):(ints l).flatten=l.map fun n:Nat=>V.d .i64 (n:Int):=Jaz _
def NdC (P:Pt->Prop)(st:St)(e:List V)(n:Nd):Prop:=∃nv kv,e=[.d .i64 n.a,ofL n.d,nv,kv]/\SlAt P st nv 1 (strs n.b)/\SlAt P st kv 1 (ints n.c)
theorem NdC.A {P Q:Pt->Prop}{st st':St}{e:List V}{n:Nd}(h:NdC P st e n)(k:∀r,P r->st.A r≠ .none->Q r/\st'.A r=st.A r):NdC Q st' e n:=by
 obtain⟨a,b,c,d,f⟩:=h;exact⟨a,b,c,d.D k,f.D k⟩
theorem NdC.B {st':St}{n:Nd}(h:NdC s e k n)(g:Gr e st'):NdC s st' k n:=h.A fun r p k=>⟨p,g.d r k⟩
def pad (l:List V)(z:V):List V:=l++List.replicate (8-l.length) z
def keyL (n:Nd):List V:=[.d .i64 n.a, .d .i64 n.b.length, .d .i64 n.c.length,ofL n.d]++(pad (n.b.map ofL) (ofL [])++pad (n.c.map fun k:Nat=>V.d .i64 (k:Int)) (.d .i64 0))
def Nd.A (n:Nd):Prop:=n.b.length<=8/\n.c.length<=8
theorem kL (a:Fr):JM a []=true:=Xf (Xl _)
theorem Jek {l:List V}{z:V}(h:l.length<=8):(pad l z).length=8:=by simp[pad];omega
theorem JdQ (a:List V)(s:V)(b c:List V)(h:c.length<=8):Jw (a++(List.replicate 8 s++b)) a.length c=a++(pad c s++b):=by
 have d:(a++(List.replicate 8 s++b)).drop (a.length+c.length)=List.replicate (8-c.length) s++b:=by
  rw[Z9,Xm (by omega),GZ,ZW (by grind),List.drop_replicate,X0]
 rw[JK,d,pad];simp
theorem YO {a:List V}(h:k.length=a.length):Jw k 0 a=a:=by
 rw[JK,Zv,<-h];simp
theorem Juh (a b c d:V)(s i:V)(e:List V)(h:e.length<=8):Jw [a,b,c,d,s,s,s,s,s,s,s,s,i,i,i,i,i,i,i,i] 4 e=[a,b,c,d]++(pad e s++List.replicate 8 i):=JdQ [a,b,c,d] s (List.replicate 8 i) e h
theorem Jui (a b c d:V)(s i:V)(e f:List V)(g:e.length<=8)(h:f.length<=8):Jw ([a,b,c,d]++(pad e s++List.replicate 8 i)) 12 f=[a,b,c,d]++(pad e s++pad f i):=by
 have:=JdQ ([a,b,c,d]++pad e s) i [] f h;rw[ZL,ZL,Za,XW,Jek g]at this
 grind
theorem qO (a b:List V):Kc (a++b)=(Kc a&&Kc b):=by simp[Kc]
theorem Jcn {n:Nd}(h:n.A):(keyL n).length=20:=by
 have a:=Jek (l:=n.b.map ofL) (z:=ofL []) (by simpa using h.1);have e:=Jek (l:=n.c.map fun k:Nat=>V.d .i64 (k:Int)) (z:= .d .i64 0) (by simpa using h.2);simp only[keyL,XW,a,e];rfl
theorem Jg2 (h:Kc k=true)(a:r.B=true):Kc (pad k r)=true:=by
 rw[pad,qO,h];simp[Kc,a]
theorem Jh3 (n:Nd):Kc (keyL n)=true:=by
 rw[keyL,qO,qO,Jg2,Jg2]
 ·rfl
 ·simp[Kc,V.B]
 ·rfl
 ·rw[<-Jg0];exact(Ya _).A
 ·rfl
theorem Jfh :∀{ks c:List KD} {d a f g:List V} {b i:Bool},keqs ks d a=some b->keqs c f g=some i->keqs (ks++c) (d++f) (a++g)=some (b&&i)
 |[],_,[],[],_,_,b,i,h,j=>by simp[keqs]at h;grind
 | k::ks,_,x::d,y::a,_,_,b,i,h,j=>by
   simp[keqs]at h⊢
   split at h
   ·rename_i e;exact Jfh h j
   ·grind
   grind
 |[],_,x::d,a,_,_,_,_,h,_=>by simp[keqs]at h
 |[],_,[],y::a,_,_,_,_,h,_=>by simp[keqs]at h
 |k::ks,_,[],a,_,_,_,_,h,_=>by simp[keqs]at h
 |k::ks,_,x::d,[],_,_,_,_,h,_=>by simp[keqs]at h
theorem Jjz :∀{n:Nat} {l m:List Str},l.length=n->m.length=n->keqs (List.replicate n .s) (l.map ofL) (m.map ofL)=some (decide (l=m))
 | 0,l,m,c,d=>by
   rw[XD.1 c,XD.1 d];rfl
 |n+1,[],_,c,_=>by grind
 |n+1,_::_,[],_,d=>by grind
 | n+1,a::l,b::m,c,d=>by
   have e:=Jjz (n:=n) (l:=l) (m:=m) (by grind) (by grind);simp only[ZR,XK,keqs,keq,ofL,Jcj];by_cases h:a=b
   ·simp_all
   ·simp[h]
theorem Jco :∀{n:Nat} {l m:List Int},l.length=n->m.length=n->keqs (List.replicate n .i) (l.map (V.d .i64)) (m.map (V.d .i64))=some (decide (l=m))
 | 0,l,m,c,f=>by
   rw[XD.1 c,XD.1 f];rfl
 |n+1,[],_,c,_=>by grind
 |n+1,_::_,[],_,f=>by grind
 | n+1,a::l,b::m,c,f=>by
   have g:=Jco (n:=n) (l:=l) (m:=m) (by grind) (by grind);simp only[ZR,XK,keqs,keq,ZS];by_cases h:a=b
   ·simp_all
   ·have e:(a==b)=false:=by grind
    rw[e];simp[h]
def padS (l:List Str):List Str:=l++List.replicate (8-l.length) []
def padI (l:List Nat):List Int:=l.map (fun n:Nat=>(n:Int))++List.replicate (8-l.length) 0
theorem Jfi (n:Nd):keyL n=([n.a,(n.b.length:Int),(n.c.length:Int)]:List Int).map (V.d .i64)++((n.d::padS n.b).map ofL++(padI n.c).map (V.d .i64)):=by
 simp[keyL,pad,padS,padI,Function.comp_def]
abbrev ekN :EK:= .b [.i, .i, .i, .s, .s, .s, .s, .s, .s, .s, .s, .s, .i, .i, .i, .i, .i, .i, .i, .i]
theorem Jth {a b:Nd}(e:a.A)(f:b.A):ekN.B (.j (keyL a)) (.j (keyL b))=some (decide (a=b)):=by
 have t:ekN.B (.j (keyL a)) (.j (keyL b))=keqs [.i, .i, .i, .s, .s, .s, .s, .s, .s, .s, .s, .s, .i, .i, .i, .i, .i, .i, .i, .i] (keyL a) (keyL b):=by
  show(if _ then _ else _)=_;rw[Xe ⟨by rw[Jcn e];rfl,by rw[Jcn f];rfl⟩]
 have g:∀l:List Str,l.length<=8->(padS l).length=8:=fun l h=>by simp[padS];omega
 have k:∀l:List Nat,l.length<=8->(padI l).length=8:=fun l h=>by simp[padI];omega
 have u:=Jfh (Jco (n:=3) (l:=[a.a,(a.b.length:Int),(a.c.length:Int)]) (m:=[b.a,(b.b.length:Int),(b.c.length:Int)]) rfl rfl)
  (Jfh (Jjz (n:=9) (l:=a.d::padS a.b) (m:=b.d::padS b.b) (by simp[g _ e.1]) (by simp[g _ f.1])) (Jco (n:=8) (l:=padI a.c) (m:=padI b.c) (k _ e.2) (k _ f.2)))
 rw[t,Jfi,Jfi];refine u.trans ?_;congr 1;rw[<-Bool.decide_and,<-Bool.decide_and];apply decide_eq_decide.2;constructor
 ·rintro⟨o,p,v⟩;simp at o p;obtain⟨J,q,w⟩:=o;obtain⟨K,z⟩:=p;have q:a.b.length=b.b.length:=by omega
  have w:a.c.length=b.c.length:=by omega
  have L:a.b=b.b:=(List.append_inj z q).1;have r:a.c.map (fun n:Nat=>(n:Int))=b.c.map (fun n:Nat=>(n:Int)):=(List.append_inj v (by grind)).1;have r:a.c=b.c:=(List.map_inj_right (fun x y h=>by omega)).1 r
  cases a;simp_all
 grind
theorem Gr.M (h:Gr e g){p:Pt}(k:g.b=p){f c:Nat->Row}(l:∀u,(f u).A=u/\f u≠ .none)(m:∀u,(c u).A=u/\c u≠ .none):Gr e ((g.B f).D p g.t c):=by
 subst k;have n:=h.A (Gr.G h.D l);exact n.J h.K (by rw[JI];grind) (by rw[JI];grind) m
theorem Gr.L (h:Gr e g){f:Nat->Row}(b:∀u,(f u).A=u/\f u≠ .none):Gr e (g.B f):=h.A (Gr.G h.D b)
theorem Jc (l:List V):∀u,(Row.a u l).A=u/\Row.a u l≠ .none:=fun u=>⟨rfl,fun e=>by cases e⟩
theorem Qb (l:List (V×V)):∀u,(Row.b u l).A=u/\Row.b u l≠ .none:=fun u=>⟨rfl,fun e=>by cases e⟩
theorem Jb (h:e.A i= .a n k):e.A i≠ .none:=by grind
abbrev zk :List V:=[.d .i64 0, .d .i64 0, .d .i64 0,ofL [],ofL [],ofL [],ofL [],ofL [],ofL [],ofL [],ofL [],ofL [], .d .i64 0, .d .i64 0, .d .i64 0, .d .i64 0, .d .i64 0, .d .i64 0, .d .i64 0, .d .i64 0]
theorem Jny {n:Nd}(h:n.A):((keyL n).drop 12).take 8=(padI n.c).map (V.d .i64):=by
 have a:(padS n.b).length=8:=by have:=h.1;simp[padS];omega
 have e:(padI n.c).length=8:=by have:=h.2;simp[padI];omega
 rw[Jfi,<-Za,Z9,Xm (by simp[a])];simp only[X0,XW,Xr,XF,a];rw[Xt (by simp[e])];rfl
theorem Jq6 {l:List Int}(h:l.length=8):eqV (.b [.i, .i, .i, .i, .i, .i, .i, .i]) false (.j (l.map (V.d .i64))) (.j (l.map (V.d .i64)))=some (.h true, .a):=by
 have e:=Jco h h;have c:EK.B (.b [.i, .i, .i, .i, .i, .i, .i, .i]) (.j (l.map (V.d .i64))) (.j (l.map (V.d .i64)))=some true:=by
  show(if _ then _ else _)=_
  simp_all
 simp only[eqV,c];rfl
theorem NdC.D {e:List V}{n:Nd}(h:NdC s g e n)(k:Nat):NdC s {g with a:=k} e n:=h.A fun r p _=>⟨p,rfl⟩
theorem SlAt.L (h:SlAt s e r n d)(k:Nat):SlAt s {e with a:=k} r n d:=h.D fun b p _=>⟨p,rfl⟩
theorem SlAt.S (b:SlAt s {e with a:=h} r n d):SlAt s e r n d:=b.D fun c p _=>⟨p,rfl⟩
theorem TyC.I {t:Ty}(h:TyC s e k t)(b:Nat):TyC s {e with a:=b} k t:=h.A fun r p _=>⟨p,rfl⟩
theorem nes (h:i≠Z):(i=Z)=False/\(Z=i)=False:=⟨Zi h,Zi fun e=>h e.symm⟩
theorem Ch.M (h:Ch s e g){p:Pt}(k:g.b=p){c:Nat->Row}(l:∀u,(j u).A=u/\j u≠ .none)(m:∀u,(c u).A=u/\c u≠ .none):Ch s e ((g.B j).D p g.t c):=by
 subst k;have n:=h.L l;exact n.J (by rw[JI];grind) (by rw[JI];grind) (.inr (h.B (J6 h.D))) m
theorem Jn (i:TabM m){g:Fn}(j:m n=some x)(k:x=evFn h g){args:List V}(o:WF e)
  (c:∀K:V->St->Prop,(∀v S,(∀r,e.A r≠ .none->S.A r=e.A r)->(Gr e S->l v S)->K v S)->wC m h g.body (qG args) e (kRet g.a K)):Does m n args e fun v d=>Gr e d/\l v d:=
 (Does.B i o (Jl j k (c (fun v S=>(∀r,e.A r≠ .none->S.A r=e.A r)/\(Gr e S->l v S)) fun v S a x=>⟨a,x⟩))).A fun _ _ ⟨a,x⟩=>⟨a,x a⟩
theorem Jfj (i:TabM m){g:Fn}(j:m n=some x)(k:x=evFn h g){args:List V}(o:WF e)
  (c:∀K:V->St->Prop,(∀v S,(∀r,e.A r≠ .none->¬s r->S.A r=e.A r)->(Ch s e S->l v S)->K v S)->wC m h g.body (qG args) e (kRet g.a K)):Does m n args e fun v d=>Ch s e d/\l v d:=
 (Does.G i o (Jl j k (c (fun v S=>(∀r,e.A r≠ .none->¬s r->S.A r=e.A r)/\(Ch s e S->l v S)) fun v S a x=>⟨a,x⟩))).A fun _ _ ⟨a,x⟩=>⟨a,x a⟩
theorem YU {a b:C}(I:Fr->St->Prop)(c:wC m n a X e (kCut I y))(d:∀f s,I f s->wC m n b f s y):wC m n (.j a b) X e y:=
 Yf (l:=[]) I c d
theorem Ju {l:List Nat}{a b:C}(P:Fr->St->Prop)(c:∀I:Fr->St->Prop,(∀f s,P f s->I f s)->wC m n a X e (kCut I y))(d:∀f s,P f s->wC m n b f s y):wC m n (.h l a b) X e y:=
 Yf P (c P fun _ _ h=>h) d
theorem Jcp {a b:C}(P:Fr->St->Prop)(c:∀I:Fr->St->Prop,(∀f s,P f s->I f s)->wC m n a X e (kCut I y))(d:∀f s,P f s->wC m n b f s y):wC m n (.j a b) X e y:=
 Ju (l:=[]) P c d
theorem Jo {b:C}(P:Nat->Fr->St->Prop)(a:Nat)(c:a<n)(h:P a X e)(d:∀I:Nat->Fr->St->Prop,(∀k f s,P k f s->I k f s)->∀k f s,P k f s->wC m n b f s (JeR I k y)):wC m n (.g w b) X e y:=
 JD P a c h (d P fun _ _ _ h=>h)
theorem wiN {i:Nat}(h:i<9000000000000000000):IntKind.i64.wrap ((i:Int)+1)=((i+1:Nat):Int):=JX (by omega) (by omega)
section
variable {P : Pt -> Prop} {st : St}
theorem TyC.G {e:List V}{t:Ty}(h:TyC P st e t):e.length=4:=by
 obtain⟨_,_,_,rfl,_⟩:=h.B;rfl
theorem TyC.J {t:Ty}(h:TyC P st k t):Kc k=true:=by
 obtain⟨_,_,_,rfl,a,b,_⟩:=h.B;simp[J9,Kv,jS,jT,a.B,b.B]
end
def encN (n:Nd):V:= .j (keyL n)
def LsAt (W:Pt->Prop)(st:St)(rt:Pt)(v:V)(z n:Nat)(cs:List V):Prop:=cs.length=n*z/\((v= .e/\n=0)\/∃r t,v= .w r 0 n z/\st.A r= .a t cs/\W r/\r≠rt)
structure jE (W F:Pt->Prop) (st:St) (rt:Pt) (tb:Tb) (lv:V) (ra rn rs:Pt) (es:List (List V)) (sv:List (Str×V)):Prop where
 s:∃t,st.A rt= .a t [lv, .q ra, .q rn, .d .i64 tb.b, .q rs]
 w:W rt/\W ra/\W rn/\W rs
 u:∀r,W r->st.A r≠ .none
 M:∀r,F r->¬W r
 G:ra≠rn/\ra≠rs/\rn≠rs
 l:LsAt W st rt lv 4 tb.a.length es.flatten
 z:∀e∈es,e.length=4
 D:es.length=tb.a.length
 H:∀i (h:i<es.length) (h':i<tb.a.length),NdC F st es[i] tb.a[i]
 J:∀n∈tb.a,n.A
 L:tb.a.length<=120
 y:Y5 st ra encN (tb.a.zipIdx.map fun p=>(p.1,V.d .i64 (p.2:Int)))
 o:Y5 st rn ofL (tb.c.map fun p=>(p.1,V.d .i64 (p.2:Int)))
 v:Y5 st rs ofL sv
 K:sv.length=tb.d.length
 A:∀i (h:i<sv.length) (h':i<tb.d.length),sv[i].1=tb.d[i].1/\SlAt F st sv[i].2 1 (ints tb.d[i].2)
def Tab (W F:Pt->Prop)(st:St)(rt:Pt)(tb:Tb):Prop:=∃lv ra rn rs es sv,jE W F st rt tb lv ra rn rs es sv
section
variable {W W' F F' : Pt -> Prop} {st st' : St} {rt : Pt} {tb : Tb} {lv : V} {ra rn rs : Pt} {es : List (List V)} {sv : List (Str × V)}
theorem Y5.A {α:Type}{r:Pt}{a:α->V}{m:List (α×V)}(h:Y5 st r a m):st.A r≠ .none:=by
 obtain⟨t,h⟩:=h
 grind
theorem Y5.B {α:Type}{a:α->V}{m:List (α×V)}(h:Y5 st i a m)(k:st'.A i=st.A i):Y5 st' i a m:=by
 obtain⟨t,h⟩:=h;exact⟨t,by rw[k,h]⟩
theorem jE.N (h:jE W F st rt tb lv ra rn rs es sv)(k:∀r,W r\/F r->st.A r≠ .none->st'.A r=st.A r):jE W F st' rt tb lv ra rn rs es sv:=by
 refine{h with u:=fun r w=>by rw[k r (.inl w) (h.u r w)];exact h.u r w,s:= ?_,l:= ?_,H:=fun i a b=>(h.H i a b).A fun r p e=>⟨p,k r (.inr p) e⟩,y:=h.y.B (k _ (.inl h.w.2.1) h.y.A),o:=h.o.B (k _ (.inl h.w.2.2.1) h.o.A),v:=h.v.B (k _ (.inl h.w.2.2.2) h.v.A),A:=fun i a b=>⟨(h.A i a b).1,(h.A i a b).2.D fun r p e=>⟨p,k r (.inr p) e⟩⟩}
 ·obtain⟨t,e⟩:=h.s;exact⟨t,by rw[k _ (.inl h.w.1) (by grind),e]⟩
 ·refine⟨h.l.1, ?_⟩;rcases h.l.2 with l|⟨r,t,c,d,f⟩
  ·grind
  grind
theorem jE.T (h:jE W F st rt tb lv ra rn rs es sv)(g:Gr st st'):jE W F st' rt tb lv ra rn rs es sv:=h.N fun r _ e=>g.d r e
theorem Tab.A (h:Tab W F st rt tb)(k:∀r,W r\/F r->st.A r≠ .none->st'.A r=st.A r):Tab W F st' rt tb:=by
 obtain⟨lv,ra,rn,rs,es,sv,h⟩:=h;exact⟨lv,ra,rn,rs,es,sv,h.N k⟩
theorem Tab.G (h:Tab W F st rt tb)(g:Gr st st'):Tab W F st' rt tb:=h.A fun r _ e=>g.d r e
theorem Tab.B (h:Tab W F st rt tb):Tab W (fun r=>F r/\st.A r≠ .none) st rt tb:=by
 obtain⟨lv,ra,rn,rs,es,sv,h⟩:=h;exact⟨lv,ra,rn,rs,es,sv,{h with M:=fun r f=>h.M r f.1,H:=fun i a b=>(h.H i a b).A fun r p e=>⟨⟨p,e⟩,rfl⟩,A:=fun i a b=>⟨(h.A i a b).1,(h.A i a b).2.D fun r p e=>⟨⟨p,e⟩,rfl⟩⟩}⟩
theorem jE.B (h:jE W F st rt tb lv ra rn rs es sv):st.A rt≠ .none:=by
 obtain⟨t,e⟩:=h.s
 grind
theorem LsAt.B (b:LsAt W st rt lv n h k):J8 lv=some (.d .i64 h, .a):=by
 rcases b.2 with⟨rfl,rfl⟩|⟨r,t,rfl,_⟩
 ·rfl
 ·rfl
theorem jE.I (h:jE W F st rt tb lv ra rn rs es sv){i:Nat}(f:i<es.length):
  ∃r q,Js 4 lv (.d .i64 i)=some (.g r q, .a)/\(st.A r≠ .none)/\r≠rt/\W r/\ldn (st.A r) q 4=some (.j es[i], .a)/\∀j (P:j<es[i].length),ld1 (st.A r) (q+j)=some (es[i][j], .a):=by
 have k:SlAt (fun r=>r≠rt/\W r) st lv 4 es:=by
  refine⟨h.z, ?_⟩;rcases h.l.2 with⟨l,n⟩|⟨r,t,m,p,w,x⟩
  ·exact .inl ⟨l,XD.1 (by rw[h.D,n])⟩
  ·refine .inr ⟨r,0,⟨x,w⟩, .inl (by rw[m,h.D]),es.flatten, .inl ⟨t,p⟩,by rw[Jp h.z];omega, ?_⟩;rw[XP,<-Jp h.z,XE]
 obtain⟨r,q,a,b,c,d,e⟩:=k.H f
 grind
end
theorem Jh4 (n:Nd):∀(l:List Nd) (i:Nat),at_ n ((l.zipIdx i).map fun p=>(p.1,V.d .i64 (p.2:Int)))=(idx n l i).map fun k:Nat=>V.d .i64 (k:Int)
 |[],_=>rfl
 | a::r,i=>by
   simp[at_,idx]
   split
   ·rfl
   ·exact Jh4 n r (i+1)
theorem Jpc {n:Nd}:∀{l:List Nd} {i k:Nat},idx n l i=some k->i<=k/\∃h:k-i<l.length,l[k-i]=n
 |[],_,_,h=>by cases h
 | a::r,i,k,h=>by
   simp[idx]at h
   split at h
   ·grind
   ·obtain⟨b,c,d⟩:=Jpc h
    grind
theorem Jq7 {n:Nd}{l:List Nd}(h:idx n l 0=none)(v:V):Y4 n v ((l.zipIdx).map fun p=>(p.1,V.d .i64 (p.2:Int)))=(l.zipIdx.map fun p=>(p.1,V.d .i64 (p.2:Int)))++[(n,v)]:=by
 apply qc (i:=0);have a:=Jh4 n l 0;rw[h,<-Jh1 n _ 0]at a
 simp_all
theorem Jpd {rt:Pt}(d:LsAt s e rt r n h k){tq:Nat}{new:List V}(O:e.A i= .a tq new)(P:new.length=n)(Q:Kc new=true)(U:h+1<=2^24)(J:WF e){R:V->St->Prop}
  (f:∀v T,v.A e.b= .a T (k++new)->v.b=e.b.F->(∀p,p≠e.b->rowOf r≠some p->v.A p=e.A p)->(∀p,e.A p≠ .none->v.A p≠ .none)->Mono e v->R (.w e.b 0 (h+1) n) v):wW (appV e n r (.m i 0 1 n 1)) e R:=by
 have o:Jz e n 1 (.m i 0 1 n 1)=some new:=by
  simp[Jz,Kn,O]
  grind
 have x:appV e n r (.m i 0 1 n 1)=JG e n 1 new r:=by
  simp[appV,slen,o]
  grind
 rw[x];rcases d.2 with⟨rfl,rfl⟩|⟨g,t,rfl,K,_⟩
 ·have L:k=[]:=XD.1 (by rw[d.1];simp);subst L;exact f (e.B fun t=> .a t new) e.t (by rw[JI];rfl) rfl (fun p l _=>JbK _ _ l) (fun p l=>by rw[KC J _ l];exact l) (jd J (Jc _))
 ·have j:JG e n 1 new (.w g 0 h n)=some (.w e.b 0 (h+1) n, .e g t fun u=> .a u (k++new)):=by
   simp only[JG,K];rw[Xa (by decide),Xa (by omega),Xe (by rw[d.1];omega)];simp[<-d.1]
  rw[j];refine f ((e.D g t .c).B fun u=> .a u (k++new)) (e.t+1) ?_ rfl (fun p l M=> ?_) (fun p l=> ?_) ?_
  ·exact JI (e.D g t .c) _
  rotate_left
  ·have N:WF (e.D g t .c):=(Q8 J (by grind) (by rw[K];rfl) fun u=>⟨rfl,fun j=>by cases j⟩).wf;have y:(e.D g t .c).A p≠ .none:=by
    by_cases j:p=g
    ·subst j;rw[Jh];simp
    ·rw[Jj _ _ _ j];exact l
   rw[KC N _ y];exact y
  ·exact JlJ J (e:= .e g t fun u=> .a u (k++new)) ⟨(by grind),(by rw[K];rfl),Jc _⟩
  ·rw[JbK _ _ (by exact l),Jj _ _ _ (fun j=>M (by rw[j];rfl))]
theorem LsAt.D (b:LsAt s e i r n h k)(c:∀d t,s d->d≠i->e.A d= .a t k->g.A d=e.A d):LsAt s g i r n h k:=by
 refine⟨b.1, ?_⟩;rcases b.2 with b|⟨d,t,f,j,l,m⟩
 ·grind
 grind
theorem LsAt.A {W:Pt->Prop}{st:St}{c:Pt}{d:V}{z n:Nat}{e:List V}(h:LsAt W st c d z n e){r:Pt}(b:rowOf d=some r):W r/\r≠c/\∃t,st.A r= .a t e:=by
 rcases h.2 with⟨rfl,_⟩|⟨q,t,rfl,f,g,i⟩
 ·cases b
 ·injection b with b;grind
theorem jE.O {W F:Pt->Prop}{U:Tb}{Y rn rs:Pt}{sv:List (Str×V)}{nd:Nd}(Q:jE W F e i U r Y rn rs d sv)(hq:e.A Z= .none)
  (h1:∃t,g.A i= .a t [.w Z 0 (U.a.length+1) 4, .q Y, .q rn, .d .i64 U.b, .q rs]) (h2:∃t,g.A Z= .a t (d.flatten++k))
  (h3:∃t,g.A Y= .b t ((Y4 nd (.d .i64 (U.a.length:Nat)) (U.a.zipIdx.map fun p=>(p.1,V.d .i64 (p.2:Int)))).map fun p=>(encN p.1,p.2)))
  (h4:∀c,e.A c≠ .none->c≠i->c≠Y->rowOf r≠some c->g.A c=e.A c) (h5:∀c,e.A c≠ .none->g.A c≠ .none)
  {F':Pt->Prop} (hF:∀c,F c->F' c) (ae:∀c,F' c->¬W c/\c≠Z) (he:NdC F' g k nd) (hf:nd.A) (hi:idx nd U.a 0=none) (hl:U.a.length<120):
  jE (fun c=>W c\/c=Z) F' g i {U with a:=U.a++[nd]} (.w Z 0 (U.a.length+1) 4) Y rn rs (d++[k]) sv:=by
 obtain⟨t0,c0⟩:=Q.s;have af:k.length=4:=by obtain⟨_,_,rfl,_⟩:=he;rfl
 have aa:∀c,(∃t m,e.A c= .b t m)->c≠Y->g.A c=e.A c:=fun c ⟨t,m,h⟩ ad=>h4 c (by grind) (fun k=>by grind) ad fun k=>by
  obtain⟨_,_,t2,h2⟩:=Q.l.A k
  grind
 have ab:∀c,F c->e.A c≠ .none->F' c/\g.A c=e.A c:=fun c f k=>have n:=Q.M c f;⟨hF c f,h4 c k (fun j=>n (by rw[j];exact Q.w.1)) (fun j=>n (by rw[j];exact Q.w.2.1)) fun j=>n (Q.l.A j).1⟩;refine{s:= ?_,w:=⟨.inl Q.w.1, .inl Q.w.2.1, .inl Q.w.2.2.1, .inl Q.w.2.2.2⟩,u:= ?_,M:= ?_,G:=Q.G,l:= ?_,z:= ?_,D:=by simp[Q.D],H:= ?_,J:= ?_,L:=by grind,y:= ?_,o:= ?_,v:= ?_,K:=Q.K,A:= ?_}
 ·exact h1
 ·rintro c (w|rfl)
  ·exact h5 c (Q.u c w)
  grind
 ·grind
 ·refine⟨?_, .inr ?_⟩
  ·rw[XJ,XW,Q.l.1];grind
  grind
 ·intro x X;rcases Xs.1 X with X|X
  ·exact Q.z x X
  grind
 ·intro P ag ah;by_cases h:P<d.length
  ·have h':P<U.a.length:=by rw[<-Q.D];exact h
   simp[Xw h,Xw h'];exact(Q.H P h h').A ab
  ·have e1:P=d.length:=by grind
   subst e1;have e2:d.length=U.a.length:=Q.D
   grind
 ·intro x X;rcases Xs.1 X with X|X
  ·exact Q.J x X
  grind
 ·obtain⟨t,h3⟩:=h3;refine⟨t, ?_⟩;rw[h3,Jq7 hi]
  grind
 ·exact Q.o.B (aa rn (by obtain⟨t,h⟩:=Q.o;grind) Q.G.1.symm)
 ·exact Q.v.B (aa rs (by obtain⟨t,h⟩:=Q.v;grind) Q.G.2.1.symm)
 ·exact fun P a b=>⟨(Q.A P a b).1,(Q.A P a b).2.D ab⟩
theorem LsAt.G {st:St}{es:List (List V)}(a:LsAt s st i r n h es.flatten)(c:∀e∈es,e.length=n)(g:es.length=h):SlAt s st r n es:=by
 refine⟨c, ?_⟩;rcases a.2 with⟨l,j⟩|⟨b,t,k,d,f,m⟩
 ·grind
 ·refine .inr ⟨b,0,f, .inl (by grind),es.flatten, .inl ⟨t,d⟩,by rw[Jp c];omega, ?_⟩;rw[XP,<-Jp c,XE]
theorem Jcq (l:List Nat):∀e∈ints l,e.length=1:=fun e a=>by
 obtain⟨x,_,rfl⟩:=Xz.1 a;rfl
def defI (tb:Tb)(n:Str):Option Nat:=(tb.c.find? fun p=>n=p.1).map (·.2)
def Ks (tb:Tb):Nat->Nat->Nat×Bool
 |0,_=>(0,false)
 | f+1,id=>match tb.a[id]? with
   |none=>(0,false)
   | some x=>if x.a≠9 then(id,true)else match defI tb x.d with
     |none=>(0,false)
     |some j=>Ks tb f j
theorem qP {b:Tb}{id:Nat}(h:b.a.length<=id):Ks b (n+1) id=(0,false):=by
 rw[Ks,ZJ h]
theorem qQ {b:Tb}{id:Nat}(h:id<b.a.length)(k:b.a[id].a≠9):Ks b (n+1) id=(id,true):=by
 rw[Ks,Xg h]
 grind
theorem JdR {b:Tb}{id:Nat}(h:id<b.a.length)(k:b.a[id].a=9)(d:defI b b.a[id].d=none):Ks b (n+1) id=(0,false):=by
 rw[Ks,Xg h]
 grind
theorem qf {b:Tb}{id:Nat}(h:id<b.a.length)(k:b.a[id].a=9)(d:defI b b.a[id].d=some o):Ks b (n+1) id=Ks b n o:=by
 rw[Ks,Xg h]
 grind
theorem JmK (n:Str):∀(l:List (Str×Nat)),at_ n (l.map fun p=>(p.1,V.d .i64 (p.2:Int)))=((l.find? fun p=>n=p.1).map (·.2)).map fun k:Nat=>V.d .i64 (k:Int)
 |[]=>rfl
 | (a,k)::r=>by
   by_cases h:n=a
   ·simp[at_,List.find?,h]
   ·simp[at_,JmK n r,List.find?,h,Gn]
theorem KB {args:List V}{W:Pt->Prop}{Q:V->St->Prop}(x:WF e)(h:Does m n args {e with a:=e.t} fun v c=>Ch W {e with a:=e.t} c/\l v c)
  (k:∀v c o,Ch W e {c with a:=o}->l v c->Q v {c with a:=o}):Kh m true (some []) n args X e Q:=by
 unfold Kh;simp;refine h.A fun v c ⟨s,y⟩=> ?_;have b:=s.i;have p:∀o,o<=e.a->o<=c.a\/c.a=e.t->Ch W e {c with a:=o}:=fun o q J=>by
  refine⟨⟨⟨b.wf.a,b.wf.t⟩,b.t,b.i,b.d,q,fun r u z=> ?_,b.f⟩,s.d⟩;have K:c.a<=(e.A r).A:=b.j r u z;have L:=x.t r u
  grind
 have w:=b.g;have w:c.a<=e.t:=w;unfold JeQ;by_cases q:c.a<e.t
 ·rw[Xe q];refine⟨rfl,k v c _ (p _ ?_ ?_) y⟩<;>split<;>omega
 grind
theorem YV {α:Type}(k:Str)(b:List (Str×α)):∀p∈b,EK.B (.a .s) (ofL k) (ofL p.1)=some (decide (k=p.1)):=fun p _=>Jcl k p.1
end Eva
namespace Eva
open Go Go.RowKit
set_option maxRecDepth 100000
set_option linter.unusedSimpArgs false
variable {s u:Pt->Prop}{e g:St}{n h o:Nat}{k:List V}{d:List (List V)}{i Z:Pt}{r:V}{l:V->St->Prop}{m:Table}{j:Nat->Row}{w:List Nat}{x:Self->List V->St->Option (V×St)}{y:Out->Prop}{X:Fr}{Y:List (V×V)}
def digB (x:Nat):Bool:=decide (48<=x)&&decide (x<=57)
def letB (x:Nat):Bool:=decide (x=95)||(decide (97<=x|||32)&&decide (x|||32<=122))
def okB (x:Nat):Bool:=letB x||digB x
theorem Jnz (a:n<256)(h:okB n=true):n<128:=by
 have:∀n:Fin 256,okB n.1=true->n.1<128:=by decide+kernel
 exact this ⟨n,a⟩ h
theorem Juj (x:Nat)(b:x<256):binV .or (.d .u8 x) (.d .u8 32)=some (.d .u8 ((x|||32:Nat):Int), .a):=by
 have h:(0:Int)<=(x:Int)/\(x:Int)<=IntKind.u8.max/\(0:Int)<=32/\(32:Int)<=IntKind.u8.max:=by
  have:IntKind.u8.max=255:=rfl;omega
 simp[binV,arith,h]
def Yw (l:List UInt8):Bool:=l.all fun c=>okB c.toNat
def fore :List UInt8->Nat
 |[]=>0
 |c::r=>if okB c.toNat then fore r+1 else 0
theorem JnA (l:List UInt8):fore l<=l.length:=by
 induction l with
 |nil=>exact Xb _
 |cons c r a=>simp[fore];grind
theorem Jda (l:List UInt8):fore l=l.length<->Yw l=true:=by
 induction l with
 |nil=>simp[fore,Yw]
 | cons c r a=>
   simp only[fore,XF,Yw,ZG,Xk];have:=JnA r
   split
   ·rename_i h
    rw[show(r.all fun c=>okB c.toNat)=Yw r from rfl,<-a]
    grind
   grind
theorem JjA :∀(l:List UInt8) (p:Nat),p<=l.length->(∀j (d:j<l.length),j<p->okB l[j].toNat=true)->∀a:p<l.length,okB l[p].toNat=false->fore l=p
 |[],p,_,_,a,_=>by grind
 | c::r,0,_,_,_,h=>by
   have h:okB c.toNat=false:=h;simp[fore,h]
 | c::r,p+1,g,b,a,h=>by
   have e:okB c.toNat=true:=b 0 (by simp) (by omega);have:=JjA r p (by grind) (fun j d f=>b (j+1) (by omega) (by omega)) (by grind) h;simp[fore,e,this]
theorem Jk8 {l:List UInt8}(a:n<l.length)(h:l[n].toNat<128):(rune l n).2=1:=by
 have b:l.getD n 0=l[n]:=by grind
 unfold rune
 grind
def Yx :List UInt8:=[32,108,101,110,32,110,111,116,32,97,110,100,32,111,114,32,101,113,32,108,116,32,97,100,100,32,115,117,98,32,109,117,108,32,115,104,108,32,115,104,114,32,105,56,32,105,49,54,32,105,51,50,32,117,56,32,117,49,54,32,117,51,50,32,99,97,116,32,116,101,120,116,32,97,116,32,103,101,116,32,104,97,115,32,111,114,101,108,115,101,32]
def Ko (l:List UInt8):Bool:=match l with
 |[]=>false
 |c::r=>decide ((c::r).length<=16)&&(!digB c.toNat&&Yw (c::r))
theorem JdS (a b:List UInt8)(h:a.length<4294967281):kW [ofL a,ofL b]=some (.h (Lib.contains a b)):=by
 simp[kW,ofL,Xe h];unfold Lib.contains;rw[JdJ]
 cases JeM a.length (snum a) b.length (snum b)<;>simp
theorem Jfk {l:List UInt8}(h:Ko l=true):l.length<=16:=by
 cases l with
 |nil=>simp
 | cons c r=>
   simp only[Ko,Xk,Zg]at h;exact h.1
structure Sg where
 c:Str
 a:List Ty
 b:Ty
structure Sch where
 b:Ty
 a:List (Str×Ty)
 c:List Sg
def KS (t:Ty):Nat:=if t.A=4\/t.A=5\/t.A=6 then 1 else if t.A=7\/t.A=8 then t.D.length else 0
def Kx (p:Option Str)(n:Str):Bool:=match p with
 |none=>false
 |some p=> !Op.bytesLess p n
def Kk :Option Str->List Str->Int
 |_,[]=>0
 |p,n::r=>if Ko n=false then 15 else if Kx p n=true then 6 else Kk (some n) r
def KG (t:Ty):Int:=if 8<t.D.length then 3 else if Kk none t.D≠0 then Kk none t.D else if t.A=8/\t.D=[]then 12 else 0
mutual
def mayS (has:Str->Bool):Ty->Nat->Nat->Int×Nat
 | .mk k n ns ks,deep,met=>
   if 400<met+1 then(3,met+1)else if 12<deep then(13,met+1)else if k<1\/9<k then(1,met+1)else
   if ks.length≠KS (.mk k n ns ks)\/(n≠[]/\k≠9)\/(0<ns.length/\¬(k=7\/k=8))then(12,met+1)else
   if k=9/\has n=false then(15,met+1)else
   if KG (.mk k n ns ks)≠0 then(KG (.mk k n ns ks),met+1)else JE has ks (deep+1) (met+1)
def JE (has:Str->Bool):List Ty->Nat->Nat->Int×Nat
 |[],_,met=>(0,met)
 |t::r,deep,met=>if(mayS has t deep met).1≠0 then mayS has t deep met else JE has r deep (mayS has t deep met).2
end
def words :Str:=[32,66,111,111,108,32,73,110,116,32,84,101,120,116,32,76,105,115,116,32,77,97,112,32,79,112,116,32,85,110,105,111,110,32]
def Yb (n:Str):Bool:= !Ko n||Lib.contains words (32::(n++[32]))
def Ka :Option Str->List Str->Int
 |_,[]=>0
 |p,n::r=>if Yb n=true then 15 else if Kx p n=true then 6 else Ka (some n) r
def Ja3 (n:Str):Bool:=Ko n&&Lib.contains Yx (32::(n++[32]))
def Qv (has:Str->Bool):Option Str->List Sg->Nat->Int×Nat
 |_,[],met=>(0,met)
 | p,f::r,met=>if(!Ko f.c||Ja3 f.c)=true then(15,met)else if Kx p f.c=true then(6,met)else if 4<f.a.length then(18,met)else
   if(JE has (f.a++[f.b]) 1 met).1≠0 then JE has (f.a++[f.b]) 1 met else Qv has (some f.c) r (JE has (f.a++[f.b]) 1 met).2
def hasN (l:List (Str×Ty))(n:Str):Bool:=l.any fun p=>p.1=n
def defN (l:List (Str×Ty))(n:Str):Option Ty:=(l.find? fun p=>p.1=n).map (·.2)
def QD :Ty:= .mk 0 [] [] []
def KL (l:List (Str×Ty)):Nat->Ty->Ty
 |0,t=>t
 |k+1,t=>KL l k (if t.A=9 then(defN l t.B).getD QD else t)
mutual
def Jbp (l:List (Str×Ty)):Ty->Bool
 | .mk k n ns ks=>(if k=6/\ks.length=1 then decide ((KL l l.length (ks.headD QD)).A=6)else false)||jh l ks
def jh (l:List (Str×Ty)):List Ty->Bool
 |[]=>false
 |t::r=>Jbp l t||jh l r
end
mutual
def Qc (has:Str->Bool):Ty->Nat->Bool
 | .mk k n ns ks,deep=>if 12<deep then false else if k=9 then has n else if k=8 then kN has ks (deep+1)else if k=7 then kO has ks (deep+1)else true
def kN (has:Str->Bool):List Ty->Nat->Bool
 |[],_=>false
 |t::r,deep=>Qc has t deep||kN has r deep
def kO (has:Str->Bool):List Ty->Nat->Bool
 |[],_=>true
 |t::r,deep=>Qc has t deep&&kO has r deep
end
def gB (n:Str):List (Str×Bool)->Bool
 |[]=>false
 |(a,c)::r=>if n=a then c else gB n r
def sB (n:Str)(b:Bool):List (Str×Bool)->List (Str×Bool)
 |[]=>[(n,b)]
 |(a,c)::r=>if n=a then(n,b)::r else(a,c)::sB n b r
def KX :List (Str×Ty)->List (Str×Bool)->List (Str×Bool)
 |[],has=>has
 |(n,t)::r,has=>KX r (sB n (gB n has||Qc (fun x=>gB x has) t 1) has)
def Km (l:List (Str×Ty)):Nat->List (Str×Bool)->List (Str×Bool)
 |0,has=>has
 |k+1,has=>Km l k (KX l has)
def finS (l:List (Str×Ty))(t:Ty):Bool:=
 if(JE (hasN l) (l.map (·.2)) 1 0).1≠0 then false else if(mayS (hasN l) t 1 0).1≠0 then false else Qc (fun x=>gB x (Km l l.length [])) t 1
def Qn (s:Sch):List Ty:=s.a.map (·.2)++[s.b]++(s.c.map fun f=>f.a++[f.b]).flatten
def Qx (s:Sch):Int:=
 if 12<s.a.length\/12<s.c.length then 3 else
 if Ka none (s.a.map (·.1))≠0 then Ka none (s.a.map (·.1))else
 let m1:=JE (hasN s.a) (s.a.map (·.2)) 1 0
 if m1.1≠0 then m1.1 else
 let m2:=mayS (hasN s.a) s.b 1 m1.2
 if m2.1≠0 then m2.1 else
 let m3:=Qv (hasN s.a) none s.c m2.2
 if m3.1≠0 then m3.1 else
 if s.a.any (fun p=> !finS s.a p.2)then 14 else
 if jh s.a (Qn s)then 17 else 0
def NmC (P:Pt->Prop)(st:St)(e:List V)(x:Str×Ty):Prop:=∃c,e=ofL x.1::c/\TyC P st c x.2
def SgC (P:Pt->Prop)(st:St)(e:List V)(f:Sg):Prop:=∃pv c,e=ofL f.c::pv::c/\JmA P st pv f.a/\TyC P st c f.b
def LstAt {α:Type}(C:List V->α->Prop)(P:Pt->Prop)(st:St)(v:V)(z:Nat)(l:List α):Prop:=∃es,SlAt P st v z es/\es.length=l.length/\∀i (h:i<es.length) (h':i<l.length),C es[i] l[i]
def SchC (P:Pt->Prop)(st:St)(e:List V)(s:Sch):Prop:=∃c tv sv,e=c++[tv,sv]/\TyC P st c s.b/\LstAt (NmC P st) P st tv 5 s.a/\LstAt (SgC P st) P st sv 6 s.c
section
variable {P Q : Pt -> Prop} {st st' : St}
theorem NmC.A {e:List V}{x:Str×Ty}(h:NmC P st e x)(k:∀r,P r->st.A r≠ .none->Q r/\st'.A r=st.A r):NmC Q st' e x:=by
 obtain⟨c,a,b⟩:=h;exact⟨c,a,b.A k⟩
theorem SgC.A {e:List V}{x:Sg}(h:SgC P st e x)(k:∀r,P r->st.A r≠ .none->Q r/\st'.A r=st.A r):SgC Q st' e x:=by
 obtain⟨a,c,b,d,f⟩:=h;exact⟨a,c,b,d.A k,f.A k⟩
theorem LstAt.G {α:Type}{C D:List V->α->Prop}{l:List α}(h:LstAt C P st r n l)(d:∀e x,C e x->D e x)(k:∀c,P c->st.A c≠ .none->Q c/\st'.A c=st.A c):LstAt D Q st' r n l:=by
 obtain⟨es,f,g,j⟩:=h;exact⟨es,f.D k,g,fun i a b=>d _ _ (j i a b)⟩
theorem SchC.A {e:List V}{s:Sch}(h:SchC P st e s)(k:∀r,P r->st.A r≠ .none->Q r/\st'.A r=st.A r):SchC Q st' e s:=by
 obtain⟨c,a,b,d,f,g,i⟩:=h;exact⟨c,a,b,d,f.A k,g.G (fun _ _ x=>x.A k) k,i.G (fun _ _ x=>x.A k) k⟩
theorem LstAt.H {α:Type}{C:List V->α->Prop}{l:List α}(h:LstAt C P st r n l):J8 r=some (.d .i64 l.length, .a):=by
 obtain⟨e,b,c,_⟩:=h;rw[b.G,c]
theorem LstAt.B {α:Type}{C:List V->α->Prop}{v:V}{z:Nat}{l:List α}(h:LstAt C P st v z l):v.B=true/\v.A=some [v]:=by
 obtain⟨b,a,c,_⟩:=h;exact⟨a.B,a.A⟩
theorem LstAt.A {α:Type}{C:List V->α->Prop}{v:V}{z:Nat}{l:List α}(h:LstAt C P st v z l){i:Nat}(k:i<l.length):
  ∃r q e,Js z v (.d .i64 i)=some (.g r q, .a)/\P r/\(st.A r≠ .none)/\ldn (st.A r) q z=some (.j e, .a)/\C e l[i]/\e.length=z/\∀j (o:j<e.length),ld1 (st.A r) (q+j)=some (e[j], .a):=by
 obtain⟨m,f,p,n⟩:=h;obtain⟨r,q,a,b,c,d,e⟩:=f.H (i:=i) (by omega);exact⟨r,q,m[i],a,b,c,d,n i (by omega) k,f.1 _ (Xh _),e⟩
end
theorem qR (c:Str->Bool)(k:Int)(n:Str)(e:List Str)(d:List Ty)(b a:Nat):mayS c (.mk k n e d) b a=
  if 400<a+1 then(3,a+1)else if 12<b then(13,a+1)else if k<1\/9<k then(1,a+1)else
  if d.length≠KS (.mk k n e d)\/(n≠[]/\k≠9)\/(0<e.length/\¬(k=7\/k=8))then(12,a+1)else
  if k=9/\c n=false then(15,a+1)else
  if KG (.mk k n e d)≠0 then(KG (.mk k n e d),a+1)else JE c d (b+1) (a+1):=by rfl
theorem QT (c:Str->Bool)(a b:Nat):JE c [] a b=(0,b):=by rfl
theorem Kg (b:Str->Bool)(t:Ty)(r:List Ty)(a c:Nat):JE b (t::r) a c=if(mayS b t a c).1≠0 then mayS b t a c else JE b r a (mayS b t a c).2:=by rfl
mutual
theorem QN (c:Str->Bool):∀(t:Ty) (a b:Nat),b<=400->(mayS c t a b).2<=401/\((mayS c t a b).1=0->(mayS c t a b).2<=400)
 | .mk k n f d,a,b,h=>by
   rw[qR]
   split
   ·simp only;exact⟨by omega,fun h=>by cases h⟩
   rename_i g
   have e:=YP c d (a+1) (b+1) (by omega)
   repeat' split
   all_goals first
    |exact e
    |(simp only;exact⟨by omega,fun h=>by first|cases h|omega⟩)
theorem YP (c:Str->Bool):∀(l:List Ty) (a b:Nat),b<=400->(JE c l a b).2<=401/\((JE c l a b).1=0->(JE c l a b).2<=400)
 |[],a,b,h=>by rw[QT];simp;omega
 | t::r,a,b,h=>by
   have d:=QN c t a b h;rw[Kg]
   split
   ·exact d
   ·rename_i e
    exact YP c r a _ (d.2 (by simpa using e))
end
def JdT (P:Pt->Prop)(st:St)(r:Pt)(l:List (Str×Ty)):Prop:=∃es:List (Str×List V),Y5 st r ofL (es.map fun p=>(p.1,V.j p.2))/\es.length=l.length/\∀i (h:i<es.length) (h':i<l.length),es[i].1=l[i].1/\TyC P st es[i].2 l[i].2
theorem JdT.A {P Q:Pt->Prop}{st st':St}{r:Pt}{l:List (Str×Ty)}(h:JdT P st r l)(d:st'.A r=st.A r)(k:∀r,P r->st.A r≠ .none->Q r/\st'.A r=st.A r):JdT Q st' r l:=by
 obtain⟨e,f,g,c⟩:=h;exact⟨e,f.B d,g,fun i a b=>⟨(c i a b).1,(c i a b).2.A k⟩⟩
theorem Jsx {P:Pt->Prop}{f:St}(n:Str):∀(d:List (Str×List V)) (l:List (Str×Ty)),d.length=l.length->(∀i (h:i<d.length) (r:i<l.length),d[i].1=l[i].1/\TyC P f d[i].2 l[i].2)->
  match defN l n with
  |some t=>∃c,at_ n (d.map fun p=>(p.1,V.j p.2))=some (.j c)/\TyC P f c t
  |none=>at_ n (d.map fun p=>(p.1,V.j p.2))=none
 |[],[],_,_=>rfl
 |[],_::_,h,_=>by simp at h
 |_::_,[],h,_=>by simp at h
 | (a,c)::d,(b,t)::l,h,k=>by
   have g:=k 0 (by simp) (by simp);simp at g;obtain⟨rfl,s⟩:=g;by_cases e:n=a
   ·subst e;simp[defN,List.find?,HY,at_]
    grind
   ·have m:¬a=n:=fun x=>e x.symm;have o:=Jsx n d l (by grind) (fun i u v=>by have:=k (i+1) (by grind) (by grind);simpa using this);have q:defN ((a,t)::l) n=defN l n:=by simp[defN,List.find?,m]
    rw[q];simp[at_,Xa e];exact o
theorem Jfl (l:List (Str×Ty))(n:Str):hasN l n=(defN l n).isSome:=by
 induction l with
 |nil=>rfl
 | cons p l a=>
   by_cases h:p.1=n
   ·simp[hasN,defN,List.find?,h]
   ·have:hasN (p::l) n=hasN l n:=by simp[hasN,h]
    rw[this,a];simp[defN,List.find?,h]
theorem JdT.B {P:Pt->Prop}{e:St}{r:Pt}{l:List (Str×Ty)}(h:JdT P e r l)(z:V)(n:Str):∃v,(∀b (S:St),S.A r=e.A r->Q9 S (.a .s) z b (.q r) (ofL n)=some (if b then .p [v, .h (hasN l n)]else v, .a))/\(match defN l n with
  |some t=>∃c,v= .j c/\TyC P e c t
  |none=>v=z):=by
 obtain⟨g,k,m,o⟩:=h;have d:=Jsx n g l m o;rw[Jfl];have f:∀b (S:St),S.A r=e.A r->Q9 S (.a .s) z b (.q r) (ofL n)=some (ansL z b (at_ n (g.map fun p=>(p.1,V.j p.2))), .a):=fun b S u=>K0 (enc:=ofL) (k.B u) z b n (YV n _) rfl
 cases i:defN l n with
 | none=>
   rw[i]at d;simp at d;rw[d]at f;exact⟨z,f,rfl⟩
 | some t=>
   rw[i]at d;obtain⟨c,w,x⟩:=d;rw[w]at f;exact⟨.j c,f,c,rfl,x⟩
theorem Jq8 (T:Table)(d:Bool)(c:Option (List Nat))(x:Opd)(b:Fr)(a:St)(R:V->St->Prop):wO T d c (.K x) b a R=wW (evOp b a (.K x)) a R:=propext Iff.rfl
theorem Jcr (T:Table)(d:Bool)(c:Option (List Nat))(x:Opd)(b:Fr)(a:St)(R:V->St->Prop):wO T d c (.nextM x) b a R=wW (evOp b a (.nextM x)) a R:=propext Iff.rfl
theorem Jti (a:Fr)(b:St)(x:Opd):evOp a b (.K x)=JlT b (x.A a):=Xf (Xl _)
theorem Jel (a:Fr)(b:St)(x:Opd):evOp a b (.nextM x)=JeP b (x.A a):=Xf (Xl _)
theorem Jq9 (h:e.A i= .b n Y):JlT e (.q i)=some (.g e.b 0, .b fun n=> .d n (some i) Y.length 0):=by
 simp[JlT,h]
theorem Jk9 {st:St}{q r:Pt}{t:Nat}{es:List (V×V)}(c:st.A q= .d t (some r) es.length n)(a:st.A r= .b h es)(e:n<es.length):
  JeP st (.g q 0)=some (.p [.h true, .y, .y], .d q t fun u=> .d u (some r) es.length (n+1)):=by
 simp[JeP,c,a]
 grind
theorem Jla {st:St}{q r:Pt}{t:Nat}{es:List (V×V)}(e:st.A q= .d t (some r) es.length n)(c:st.A r= .b h es)(f:¬n<es.length):
  JeP st (.g q 0)=some (.p [.h false], .a):=by
 simp[JeP,e,c]
 grind
def zTy :List V:=[.d .i64 0,ofL [], .e, .e]
theorem Jpe (P:Pt->Prop)(a:St):TyC P a zTy QD:= .mk (es:=[]) (SlAt.K _ _ _) (SlAt.K _ _ _) rfl fun i h=>absurd h (by simp)
theorem qS (l:List (Str×Ty))(k:Nat)(t:Ty):KL l (k+1) t=KL l k (if t.A=9 then(defN l t.B).getD QD else t):=by rfl
theorem ji (l:List (Str×Ty)):∀(k:Nat) (t:Ty),KL l (k+1) t=(if(KL l k t).A=9 then(defN l (KL l k t).B).getD QD else KL l k t)
 |0,t=>by rfl
 | k+1,t=>by
   rw[qS,ji l k,<-qS]
theorem JjB (l:List (Str×Ty))(k:Int)(n:Str)(b:List Str)(a:List Ty):Jbp l (.mk k n b a)=((if k=6/\a.length=1 then decide ((KL l l.length (a.headD QD)).A=6)else false)||jh l a):=by rfl
theorem qT (l:List (Str×Ty)):∀a:List Ty,jh l a=a.any (Jbp l)
 |[]=>by rfl
 |t::r=>by rw[jh,qT l r];rfl
def qU (p:Ty->Bool):List Ty->Nat->Option Nat
 |[],_=>none
 |t::r,i=>if p t=true then some i else qU p r (i+1)
theorem Jfm (p:Ty->Bool):∀(l:List Ty) (i:Nat),(qU p l i).isSome=l.any p
 |[],_=>rfl
 | t::r,i=>by
   simp[qU]
   cases h:p t with
   |true=>simp
   |false=>simpa using Jfm p r (i+1)
mutual
def cntT :Ty->Nat
 | .mk _ _ _ ks=>1+qg ks
def qg :List Ty->Nat
 |[]=>0
 |t::r=>cntT t+qg r
end
theorem Yy (k:Int)(n:Str)(b:List Str)(a:List Ty):cntT (.mk k n b a)=1+qg a:=by rfl
theorem jk (t:Ty)(r:List Ty):qg (t::r)=cntT t+qg r:=by rfl
theorem Jg3 :qg []=0:=by rfl
theorem Jpf :∀t:Ty,1<=cntT t
 | .mk k n a b=>by rw[Yy];omega
theorem jF :∀{ks:List Ty} {i:Nat} (h:i<ks.length),cntT ks[i]<=qg ks
 |t::r,0,_=>by rw[jk];simp
 | t::r,i+1,h=>by
   rw[jk];have:=jF (ks:=r) (i:=i) (by grind)
   grind
theorem Jcs :∀ks:List Ty,ks.length<=qg ks
 |[]=>XC _
 | t::r=>by
   rw[jk];have a:=Jcs r;have b:=Jpf t
   grind
mutual
theorem JaA (c:Str->Bool):∀(t:Ty) (a b:Nat),(mayS c t a b).1=0->(mayS c t a b).2=b+cntT t
 | .mk k n m d,a,b,h=>by
   rw[qR]at h⊢;rw[Yy]
   repeat' split at h
   all_goals first
    |(exfalso;simp only at h;first|omega|(exact absurd h (by assumption)))
    |skip
   rename_i e f g i j l
   rw[Xa e,Xa f,Xa g,Xa i,Xa j,Xa l,kY c d _ _ h];omega
theorem kY (c:Str->Bool):∀(l:List Ty) (a b:Nat),(JE c l a b).1=0->(JE c l a b).2=b+qg l
 |[],a,b,h=>by rw[QT,Jg3];rfl
 | t::r,a,b,h=>by
   rw[Kg]at h⊢;rw[jk]
   split at h
   ·rename_i d;exact absurd h d
   ·rename_i d
    rw[Xa d,kY c r _ _ h,JaA c t _ _ (by simpa using d)];omega
end
theorem Jct {b:C}(d:0<n)(h:wC m n b X e (JeR (fun _ _ _=>False) 0 y)):wC m n (.g w b) X e y:=
 JD (fun _ f s=>f=X/\s=e) 0 d ⟨rfl,rfl⟩ fun k f s ⟨q,r⟩=>by
  subst q;subst r;refine Jmz b (fun o p=> ?_) h
  cases o with
  |a f s=>obtain⟨j,t,_⟩:=p;omega
  |b i f s=>exact p
  |c f s=>exact p
theorem LstAt.I {α:Type}{C:List V->α->Prop}(h:LstAt C s e r n []):J8 r=some (.d .i64 0, .a):=h.H
abbrev Was :=List (Nat×Nat)
def idxN (n:Str):List Str->Nat->Option Nat
 |[],_=>none
 |a::r,i=>if n=a then some i else idxN n r (i+1)
section
variable {W F : Pt -> Prop} {st st' : St} {rt kr rw : Pt} {tb : Tb} {was was' : Was}
theorem Jtj (a:Fr)(st:St)(e:EK)(z:V)(m k:Opd):evOp a st (.ment e z m k)=Jgt st e z (m.A a) (k.A a):=rfl
theorem Jtk (a:Fr)(st:St)(m s v:Opd):evOp a st (.ests m s v)=Jgu st (m.A a) (s.A a) (v.A a):=rfl
theorem Jpg {α:Type}[DecidableEq α]{enc:α->V}{e:EK}{st:St}{a:List (α×V)}(h:st.A i= .b n (a.map fun p=>(enc p.1,p.2)))(k:α)(z:V)(f:∀p∈a,e.B (enc k) (enc p.1)=some (decide (k=p.1)))(c:e.A (enc k)=true)(g:e.D (enc k)=true)(j:Yn k a 0=none):
  Jgt st e z (.q i) (enc k)=some (.p [z, .d .i64 a.length], .d i n fun u=> .b u ((a++[(k,z)]).map fun p=>(enc p.1,p.2))):=by
 simp only[Jgt,h,c,g,jg k a 0 f,j];simp
theorem JnB {st:St}{z v:V}(h:st.A i= .b n (Y++[(r,z)])):Jgu st (.q i) (.d .i64 Y.length) v=some (JY, .d i n fun u=> .b u (Y++[(r,v)])):=by
 simp only[Jgu,Qw,GM,ZS,Zu,h];rw[Xe (by simp)];have e:(Y++[(r,z)]).modify Y.length (fun e=>(e.1,v))=Y++[(r,v)]:=by
  clear h
  induction Y with
  |nil=>rfl
  |cons a i c=>grind
 rw[e]
theorem Jra (T:Table)(d:Bool)(b:Option (List Nat))(e:EK)(z:V)(m k:Opd)(a:Fr)(st:St)(R:V->St->Prop):wO T d b (.ment e z m k) a st R=wW (evOp a st (.ment e z m k)) st R:=propext Iff.rfl
theorem Jrb (T:Table)(d:Bool)(b:Option (List Nat))(m s v:Opd)(a:Fr)(st:St)(R:V->St->Prop):wO T d b (.ests m s v) a st R=wW (evOp a st (.ests m s v)) st R:=propext Iff.rfl
end
def JF :Tb:=⟨[],[],0,[]⟩
def setI {α:Type}(n:Str)(x:α):List (Str×α)->List (Str×α)
 |[]=>[(n,x)]
 |(a,y)::r=>if n=a then(n,x)::r else(a,y)::setI n x r
def Jr :List (Str×Ty)->Tb->Tb×Int
 |[],tb=>(tb,0)
 |(n,t)::r,tb=>if(addT t 400 tb).2.2.1≠0 then((addT t 400 tb).1,(addT t 400 tb).2.2.1)else Jr r {(addT t 400 tb).1 with c:=setI n (addT t 400 tb).2.1 (addT t 400 tb).1.c}
def JN :List Ty->Tb->Tb×List Nat×Int
 |[],tb=>(tb,[],0)
 |t::r,tb=>if(addT t 400 tb).2.2.1≠0 then((addT t 400 tb).1,[],(addT t 400 tb).2.2.1)else((JN r (addT t 400 tb).1).1,(addT t 400 tb).2.1::(JN r (addT t 400 tb).1).2.1,(JN r (addT t 400 tb).1).2.2)
def Kb :List Sg->Tb->Tb×Int
 |[],tb=>(tb,0)
 |f::r,tb=>if(JN (f.a++[f.b]) tb).2.2≠0 then((JN (f.a++[f.b]) tb).1,(JN (f.a++[f.b]) tb).2.2)else Kb r {(JN (f.a++[f.b]) tb).1 with d:=setI f.c (JN (f.a++[f.b]) tb).2.1 (JN (f.a++[f.b]) tb).1.d}
def newS (s:Sch):Option Tb×Int:=
 if Qx s≠0 then(none,Qx s)else
 if(Jr s.a JF).2≠0 then(none,(Jr s.a JF).2)else
 if(addT s.b 400 (Jr s.a JF).1).2.2.1≠0 then(none,(addT s.b 400 (Jr s.a JF).1).2.2.1)else
 if(Kb s.c {(addT s.b 400 (Jr s.a JF).1).1 with b:=(addT s.b 400 (Jr s.a JF).1).2.1}).2≠0 then(none,(Kb s.c {(addT s.b 400 (Jr s.a JF).1).1 with b:=(addT s.b 400 (Jr s.a JF).1).2.1}).2)else
 (some (Kb s.c {(addT s.b 400 (Jr s.a JF).1).1 with b:=(addT s.b 400 (Jr s.a JF).1).2.1}).1,0)
theorem Tab.D {W F:Pt->Prop}{j:St}{p:Pt}{z:Tb}(h:Tab W F j p z)(id:Nat):∃t l,j.A p= .a t l/\l.length=5/\Tab W F (j.D p t fun u=> .a u (Jw l 3 [.d .i64 (id:Int)])) p {z with b:=id}:=by
 obtain⟨J,K,L,N,P,Q,h⟩:=h;obtain⟨t,c⟩:=h.s;have g:∀r,r≠p->(j.D p t fun u=> .a u (Jw [J, .q K, .q L, .d .i64 z.b, .q N] 3 [.d .i64 (id:Int)])).A r=j.A r:=fun r n=>Jj _ _ _ n;have x:∀r,(∃t m,j.A r= .b t m)->r≠p:=fun r ⟨_,_,e⟩ k=>by grind
 have O:∀r,F r->j.A r≠ .none->F r/\(j.D p t fun u=> .a u (Jw [J, .q K, .q L, .d .i64 z.b, .q N] 3 [.d .i64 (id:Int)])).A r=j.A r:=fun r f _=>⟨f,g r fun k=>h.M r f (by rw[k];exact h.w.1)⟩
 refine⟨t,_,c,rfl,J,K,L,N,P,Q,{h with s:=⟨j.t,Jh _ _ _ _⟩,u:=fun r w=> ?_,l:= ?_,H:=fun i a b=>(h.H i a b).A O,y:=h.y.B (g _ (x _ (by obtain⟨t,e⟩:=h.y;grind))),o:=h.o.B (g _ (x _ (by obtain⟨t,e⟩:=h.o;grind))),v:=h.v.B (g _ (x _ (by obtain⟨t,e⟩:=h.v;grind))),A:=fun i a b=>⟨(h.A i a b).1,(h.A i a b).2.D O⟩}⟩
 ·by_cases e:r=p
  ·rw[e,Jh];simp
  ·rw[g r e];exact h.u r w
 ·exact h.l.D fun r t _ n _=>g r n
def SlF (S0 st:St)(v:V)(z:Nat)(es:List (List V)):Prop:=
 (∀e∈es,e.length=z)/\((v= .e/\es=[])\/∃r t,S0.A r= .none/\st.A r= .a t es.flatten/\(v= .w r 0 es.length z\/v= .m r 0 es.length z es.length))
section
variable {S0 st st' : St} {v : V} {z : Nat} {es : List (List V)}
theorem SlF.I (S0 st:St)(z:Nat):SlF S0 st .e z []:=⟨by simp, .inl ⟨rfl,rfl⟩⟩
theorem SlF.D (h:SlF S0 st v z es):SlAt (fun r=>S0.A r= .none) st v z es:=by
 refine⟨h.1, ?_⟩;rcases h.2 with a|⟨r,t,a,b,c⟩
 ·grind
 ·refine .inr ⟨r,0,a, ?_,es.flatten, .inl ⟨t,b⟩,by rw[Jp h.1];omega,by rw[XP,<-Jp h.1,XE]⟩
  grind
theorem SlF.B (h:SlF S0 st v z es)(k:∀r,rowOf v=some r->st'.A r=st.A r):SlF S0 st' v z es:=by
 refine⟨h.1, ?_⟩;rcases h.2 with a|⟨r,t,a,c,b⟩
 ·grind
 ·refine .inr ⟨r,t,a, ?_,b⟩;rw[k r (by rcases b with rfl|rfl<;>rfl),c]
theorem SlF.G (h:SlF S0 st v z es)(g:Gr st st'):SlF S0 st' v z es:=by
 refine h.B fun r a=>g.d r ?_;rcases h.2 with⟨rfl,_⟩|⟨q,t,c,e,b⟩
 ·cases a
 ·have:r=q:=by rcases b with rfl|rfl<;>(injection a with a;grind)
  grind
theorem SlF.J (h:SlF S0 st v z es)(g:∀r,S0.A r= .none->e.A r= .none):SlF e st v z es:=by
 refine⟨h.1, ?_⟩;rcases h.2 with a|⟨r,t,a,b,c⟩
 ·grind
 grind
theorem SlF.H (h:SlF S0 st v z es)(b:rowOf v=some i):S0.A i= .none/\∃t,st.A i= .a t es.flatten:=by
 rcases h.2 with⟨rfl,_⟩|⟨q,t,d,e,c⟩
 ·cases b
 ·have:i=q:=by rcases c with rfl|rfl<;>(injection b with b;grind)
  grind
theorem JmL (g:Gr S0 st)(h:SlF S0 st v z es)(x:SlAt s st r z d)(y:okC d)(X:d.length<2^20)(Y:es.length+d.length<=2^24){R:V->St->Prop}
  (k:∀q U,Gr S0 q->SlF S0 q U z (es++d)->(∀p,st.A p≠ .none->rowOf v≠some p->q.A p=st.A p)->R U q):wW (appV st z v r) st R:=by
 have j:appV st z v r=JG st z d.length d.flatten v:=by
  unfold appV;rw[x.N];simp only[x.O];rw[Xe ⟨X,y.A⟩]
 have J:∀e∈es++d,e.length=z:=fun e l=>by
  rcases Xs.1 l with l|l
  ·exact h.1 e l
  ·exact x.1 e l
 rw[j];have w:=g.D;by_cases Z:d.length=0
 ·have aa:d=[]:=XD.1 Z;have i:JG st z d.length d.flatten v=some (v, .a):=by
   have hs:(slen v).isSome=true:=by rw[h.D.N];rfl
   unfold JG
   grind
  rw[i];refine k st v g ?_ fun _ _ _=>rfl
  grind
 rcases h.2 with⟨rfl,M⟩|⟨f,t,h2,W,h4⟩
 ·have i:JG st z d.length d.flatten .e=some (.w st.b 0 d.length z, .b fun t=> .a t d.flatten):=by
   unfold JG
   grind
  rw[i];subst M;refine k (st.B fun t=> .a t d.flatten) _ (g.L (Jc _)) ⟨J, .inr ⟨st.b,st.t,g.K,by rw[JI];simp, .inl (by simp)⟩⟩ fun p n _=>KC w _ n
 ·have ab:=Jp h.1;have ad:0+es.length*z<=es.flatten.length:=by omega
  have ae:(es.flatten.drop 0).take (es.length*z)=es.flatten:=by grind
  rcases h4 with rfl|rfl
  ·have i:JG st z d.length d.flatten (.w f 0 es.length z)=some (.w st.b 0 (es.length+d.length) z, .e f t fun u=> .a u (es.flatten++d.flatten)):=by
    unfold JG
    grind
   rw[i];refine k ((st.D f t .c).B fun u=> .a u (es.flatten++d.flatten)) _ (g.Q h2 (by grind) (by rw[W];rfl) (Jc _)) ⟨J, .inr ⟨st.b,st.t+1,g.K, ?_, .inl (by simp)⟩⟩ fun p n S=> ?_
   ·rw[XJ];exact JI (st.D f t .c) _
   ·have o:p≠f:=fun e=>S (by rw[e];rfl);have T:WF (st.D f t .c):=(Q8 w (by grind) (by rw[W];rfl) fun u=>⟨rfl,fun e=>by cases e⟩).wf;rw[KC T _ (by rw[Jj _ _ _ o];exact n),Jj _ _ _ o]
  ·have i:JG st z d.length d.flatten (.m f 0 es.length z es.length)=some (.w st.b 0 (es.length+d.length) z, .b fun u=> .a u (es.flatten++d.flatten)):=by
    unfold JG
    grind
   rw[i];refine k (st.B fun u=> .a u (es.flatten++d.flatten)) _ (g.L (Jc _)) ⟨J, .inr ⟨st.b,st.t,g.K, ?_, .inl (by simp)⟩⟩ fun p n _=>KC w _ n;rw[XJ];exact JI st _
theorem Jfn (h:SlAt s st v z es){k:Nat}(n:k<=es.length):∃b,QG st z v none (some (.d .i64 (k:Int))) none=some (b, .a)/\SlAt s st b z (es.take k)/\rowOf b=rowOf v:=by
 rcases h.2 with⟨rfl,i⟩|⟨r,o,p,q,l,t,K,L⟩
 ·subst i;have:k=0:=by grind
  subst this;exact⟨.e,by rfl,⟨by simp, .inl ⟨rfl,by simp⟩⟩,rfl⟩
 ·have u:k*z<=es.length*z:=XT _ n;have f:(es.take k).length=k:=by grind
  have x:(l.drop o).take (k*z)=(es.take k).flatten:=by
   have y:(l.drop o).take (k*z)=es.flatten.take (k*z):=by grind
   rw[y]
   conv=>lhs;rw[<-X4 k es,XJ]
   have M:(es.take k).flatten.length=k*z:=by rw[Jp fun e j=>h.1 e (Zj j),f]
   grind
  have g:∀b,(b= .w r o k z\/∃c,k<=c/\b= .m r o k z c)->SlAt s st b z (es.take k):=fun b J=>
   ⟨fun e j=>h.1 e (Zj j), .inr ⟨r,o,p,by grind,l,t,by grind,by grind⟩⟩
  rcases q with rfl|⟨c,N,rfl⟩
  ·refine⟨.w r o k z, ?_,g _ (.inl rfl),rfl⟩;simp[QG,Y0,JZ,Qw]
   grind
  ·refine⟨.m r o k z c, ?_,g _ (.inr ⟨c,by omega,rfl⟩),rfl⟩;simp[QG,Y0,JZ,Qw]
   grind
theorem JbM (h:SlAt s st v z es){k:Nat}(n:k<=es.length):∃b,QG st z v (some (.d .i64 (k:Int))) none none=some (b, .a)/\SlAt s st b z (es.drop k)/\rowOf b=rowOf v:=by
 rcases h.2 with⟨rfl,i⟩|⟨r,o,q,t,l,u,M,x⟩
 ·subst i;have:k=0:=by grind
  subst this;exact⟨.e,by rfl,⟨by simp, .inl ⟨rfl,by simp⟩⟩,rfl⟩
 ·have y:k*z<=es.length*z:=XT _ n;have f:(es.length-k)*z=es.length*z-k*z:=Nat.sub_mul _ _ _;have p:(es.drop k).length=es.length-k:=Ha;have J:(l.drop (o+k*z)).take ((es.length-k)*z)=(es.drop k).flatten:=by
   have K:(l.drop (o+k*z)).take ((es.length-k)*z)=es.flatten.drop (k*z):=by
    rw[<-x,Gm,ZH,f]
   rw[K]
   conv=>lhs;rw[<-X4 k es,XJ]
   have N:(es.take k).flatten.length=k*z:=by rw[Jp fun e j=>h.1 e (Zj j),XS,Zd n]
   grind
  have g:∀b,(b= .w r (o+k*z) (es.length-k) z\/∃c,es.length-k<=c/\b= .m r (o+k*z) (es.length-k) z c)->SlAt s st b z (es.drop k):=fun b L=>
   ⟨fun e j=>h.1 e (ZO j), .inr ⟨r,o+k*z,q,by grind,l,u,by grind,by grind⟩⟩
  rcases t with rfl|⟨c,O,rfl⟩
  ·refine⟨.w r (o+k*z) (es.length-k) z, ?_,g _ (.inl rfl),rfl⟩;simp[QG,Y0,JZ,Qw]
   grind
  ·refine⟨.m r (o+k*z) (es.length-k) z (c-k), ?_,g _ (.inr ⟨c-k,by omega,rfl⟩),rfl⟩;simp[QG,Y0,JZ,Qw]
   grind
end
theorem Jh5 (c:Fr)(a b:Nat):JM c [([a],[b])]=(match rowOf (c a),rowOf (c b)with
  |some r,some q=>decide (r≠q)
  |_,_=>true):=by
 simp[JM];rfl
theorem JU {v w:V}{q:Pt}(d:X n=v)(e:X h=w)(f:rowOf w=some q)(c:rowOf v≠some q):JM X [([n],[h])]=true:=by
 rw[Jh5,d,e,f]
 grind
theorem QE {st:St}{z:Nat}{e:List V}(c:e.length=z):SlAt (fun r=>r=st.b) (st.B fun t=> .a t e) (.m st.b 0 1 z 1) z [e]:=
 ⟨fun x d=>by grind, .inr ⟨st.b,0,rfl, .inr ⟨1,Xb 1,rfl⟩,e, .inl ⟨st.t,JI _ _⟩,by simp[c],by simp[<-c]⟩⟩
end Eva
namespace Eva
open Go Go.RowKit
set_option linter.unusedVariables false
set_option maxRecDepth 10000
variable {s u:Pt->Prop}{e g:St}{n h o:Nat}{k:List V}{d:List (List V)}{i Z:Pt}{r:V}{l:V->St->Prop}{m:Table}{j:Nat->Row}{w:List Nat}{x:Self->List V->St->Option (V×St)}{y:Out->Prop}{X:Fr}{Y:List (V×V)}
theorem an {a b:Prop}(x:a)(y:b):a/\b:=⟨x,y⟩
def XX := an (an (an (an (an (an (an (an (an @JiO @JiP) @JeU) (an @JiQ @Jt8)) (an (an @Jor @JeW) (an @JdO @JlW))) (an (an (an @Jsc @JlX) (an @Jsd @JlY)) (an (an @jC @Ja1) (an @JkX @Ym)))) (an (an (an (an @JeX @JeY) (an @JeZ @JlZ)) (an (an @Je0 @Jgw) (an @Jt9 @Jl0))) (an (an (an @Jl1 @Jl2) (an @Jl3 @JiR)) (an (an @JiS @Jse) (an @JiT @JiU))))) (an (an (an (an (an (an @JiV @JiW) @JiX) (an @JiY @JiZ)) (an (an @Ji0 @Ji1) (an @Ji2 @Je1))) (an (an (an @Jgx @Jsf) (an @Jgy @Jl4)) (an (an @Je2 @Jos) (an @Jot @Jl5)))) (an (an (an (an @Jl6 @Jgz) (an @Ji3 @Jou)) (an (an @Jl7 @Je3) (an @Jsg @Ji4))) (an (an (an @JgA @Ji5) (an @kX @jf)) (an (an @Jox @Ji6) (an @Jsh @Ji7)))))) (an (an (an (an (an (an (an @Joy @Ji8) @Joz) (an @Ji9 @Jl8)) (an (an @Jja @JX) (an @Jsj @JoB))) (an (an (an @JoC @Jjb) (an @Jsk @JoD)) (an (an @Jmb @Jsl) (an @Jub @Juc)))) (an (an (an (an @Jmc @Jjc) (an @JgB @Jmd)) (an (an @JoE @Jsm) (an @Jsn @Jso))) (an (an (an @Jme @Jmf) (an @JoF @JgC)) (an (an @JgD @Jjd) (an @Je4 @Je5))))) (an (an (an (an (an (an @JgE @JgF) @Jje) (an @Jmg @Jjf)) (an (an @JoG @JoH) (an @JoI @JoJ))) (an (an (an @Jmh @Jmi) (an @JoK @JoL)) (an (an @Jmj @Jjg) (an @Jmk @JoM)))) (an (an (an (an @JoN @Jsp) (an @Jsq @Jml)) (an (an @Jjh @JoO) (an @Jsr @Jmm))) (an (an (an @Jji @JoP) (an @Jjj @JoQ)) (an (an @Jjk @Jjl) (an @Jjm @Jjn))))))) (an (an (an (an (an (an (an (an @Jss @JoR) @JoS) (an @Jjo @JoT)) (an (an @Jmn @Jmo) (an @Jmp @Jjp))) (an (an (an @JoU @JgG) (an @Jmq @JoV)) (an (an @Jmr @Jms) (an @JoW @Jmt)))) (an (an (an (an @Jjq @Jjr) (an @Jmu @JgH)) (an (an @Jmv @Jmw) (an @Jmx @Jck))) (an (an (an @ZC @Bool.not_eq_true') (an @XQ @HM)) (an (an @Zu @Int.toNat_zero) (an @Int.toNat_one @Zv))))) (an (an (an (an (an (an @GI @Nat.one_ne_zero) @Nat.zero_ne_one) (an @Bool.true_eq_false @Bool.not_true)) (an (an @Bool.not_false @Bool.not_not) (an @HY @Gn))) (an (an (an @Z6 @GD) (an @ZP @ZM)) (an (an @JoZ @kj) (an @Jal @ki)))) (an (an (an (an @JmD @Jak) (an @KR @JQ)) (an (an @JgR @JgS) (an @JdP @Jjw))) (an (an (an @JgT @Jjx) (an @JgU @Jfe)) (an (an @Jff @Jjy) (an @JgV @JgW)))))) (an (an (an (an (an (an (an @Jfg @JgL) @JgM) (an @Jfc @JgN)) (an (an @JgO @Jfd) (an @Jju @JgP))) (an (an (an @JgQ @Jjv) (an @jS @Ja2)) (an (an @jT @Jo4) (an @JmE @Jsu)))) (an (an (an (an @Jo5 @Jo6) (an @Jsv @Kv)) (an (an @J9 @Bool.and_self) (an @Gz @HA))) (an (an (an @Bool.and_false @GN) (an @Jl9 @Jo8)) (an (an @Jo9 @JgX) (an @JgY @JmG))))) (an (an (an (an (an @Jpa @Jjt) (an @Jo1 @JmH)) (an (an @JgZ @JmI) (an @Xb @kL))) (an (an (an @JgI @JgJ) (an @Jjs @Option.map_some.{0,0})) (an (an @Option.map_none.{0,0} (@List.getElem?_cons_zero.{0})) (an (@List.getElem?_cons_succ.{0}) (@List.getElem?_nil.{0}))))) (an (an (an (an @GX.{0} @Option.getD_none.{0}) (an @ZS.{1} @X8.{1})) (an (an @GS.{1} @X0.{0}) (an @X2.{0} @XF.{0}))) (an (an (an @Zq.{0} @Hx.{0}) (an @GO.{0} @Hv.{0})) (an (an @XP.{0} @List.take_nil.{0}) (an @List.drop_nil.{0} @ZL.{0})))))))
def iq (d:Nat)(o:Iop):Ins:=⟨some d,o,none,none⟩
theorem Jph (d:Nat)(o:Iop):iq d o=⟨some d,o,none,none⟩:=Xf (Xl _)
def ig (d a:Nat)(b:Bool)(o:Iop):Ins:=⟨some d,o,some (a,b),none⟩
theorem Jpi (d a:Nat)(b:Bool)(o:Iop):ig d a b o=⟨some d,o,some (a,b),none⟩:=Xf (Xl _)
def iz (o:Iop):Ins:=⟨none,o,none,none⟩
theorem Jpj (o:Iop):iz o=⟨none,o,none,none⟩:=Xf (Xl _)
def im (d x:Nat):Ins:=⟨some d, .Q (.s x),none,none⟩
theorem Jpk (d x:Nat):im d x=⟨some d, .Q (.s x),none,none⟩:=Xf (Xl _)
def ia (d o x:Nat):Ins:=⟨some d, .j o (.s x),none,none⟩
theorem Jpl (d o x:Nat):ia d o x=⟨some d, .j o (.s x),none,none⟩:=Xf (Xl _)
def il (d x:Nat):Ins:=⟨some d, .l (.s x),none,none⟩
theorem Jpm (d x:Nat):il d x=⟨some d, .l (.s x),none,none⟩:=Xf (Xl _)
def ie (d n x:Nat):Ins:=⟨some d, .M n (.s x),none,none⟩
theorem Jpn (d n x:Nat):ie d n x=⟨some d, .M n (.s x),none,none⟩:=Xf (Xl _)
def ik (d:Nat)(n:Int):Ins:=⟨some d, .Q (.c (.d .i64 n)),none,none⟩
theorem Jpo (d:Nat)(n:Int):ik d n=⟨some d, .Q (.c (.d .i64 n)),none,none⟩:=Xf (Xl _)
def sr (l:List Ins)(c:C):C:= .j (.k l) c
theorem Jpp (l:List Ins)(c:C):sr l c= .j (.k l) c:=Xf (Xl _)
def ci (n:Int):Opd:= .c (.d .i64 n)
theorem Jpq (n:Int):ci n= .c (.d .i64 n):=Xf (Xl _)
theorem XI :type_of%(an (an @Jph (an @Jpi @Jpj)) (an (an @Jpk @Jpl) (an (an @Jpm (an @Jpn @Jpo)) (an @Jpp @Jpq)))):=an (an @Jph (an @Jpi @Jpj)) (an (an @Jpk @Jpl) (an (an @Jpm (an @Jpn @Jpo)) (an @Jpp @Jpq)))
theorem XN :type_of%(an XX XI):=an XX XI
theorem XM :type_of%(an XN (an @Ja @Jd)):=an XN (an @Ja @Jd)
theorem XY :type_of%(an XN @JK):=an XN @JK
theorem XZ :type_of%(an XM @JK):=an XM @JK
end Eva
