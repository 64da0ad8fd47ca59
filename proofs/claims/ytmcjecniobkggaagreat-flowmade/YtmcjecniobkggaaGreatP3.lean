/- A schema's table: its nodes have their forms; it keeps them as types are added. An Opt  -/
import Derived.Test.YtmcjecniobkggaaGreatP2
set_option linter.constructorNameAsVariable false
noncomputable section
set_option linter.defProp false
set_option linter.unusedVariables false
set_option linter.unusedSimpArgs false
set_option linter.unusedSectionVars false
set_option maxRecDepth 100000
namespace Eva
open Go Go.RowKit
variable {e j:Nat}{n:Tb}{t:List V}{f:Pt->Prop}{l:EnvS}{h:List (List V)}{g:List Str}{m:Int}{u:St}{x:Sch}{N:Pt}{O:List Nat}{X:V->St->Prop}{Y:Str}{o:Program}
theorem Jg0 (e:Str->Bool):∀(p:Option Str) (j:List Sg) (d:Nat),(Qs e p j d).1=0->∀f∈j,Yv (f.a++[f.b])=true
 |p,[],d,_,f,h=>by cases h
 | p,f::r,d,h,g,i=>by
   rw[Y2]at h
   split at h
   ·cases h
   split at h
   ·cases h
   split at h
   ·cases h
   split at h
   ·omega
   rename_i c
   rcases Xw.1 i with rfl|i
   ·exact JaU e _ 1 d (by omega)
   ·exact Jg0 e _ r _ h g i
theorem JkO {s:Sch}(h:Qv s=0):(∀p∈s.a,Jcl p.2=true)/\Jcl s.b=true/\∀f∈s.c,Yv (f.a++[f.b])=true:=by
 rw[qe]at h
 split at h
 ·cases h
 split at h
 ·omega
 split at h
 ·omega
 rename_i j
 split at h
 ·omega
 rename_i d
 split at h
 ·omega
 rename_i e
 have g:=JaU _ _ _ _ (show(JD (hasN s.a) (s.a.map Prod.snd) 1 0).1=0 by omega);exact⟨fun p i=>Jfm g p.2 (XA.2 ⟨p,i,rfl⟩),JjE _ _ _ _ (by simpa using d),Jg0 _ _ _ _ (by simpa using e)⟩
theorem Jcm :∀(l:List (Str×Ty)) {tb:Tb},(∀p∈l,Jcl p.2=true)->(Jq l tb).2=0->Q6 tb.a->Q6 (Jq l tb).1.a
 |[],tb,_,_,h=>h
 | (n,t)::r,tb,d,b,h=>by
   rw[Jq]at b⊢
   split at b
   ·omega
   rename_i c
   rw[Xa c];exact Jcm r (fun p e=>d p (Xl _ e)) b (JaV t (d _ (Xu ..)) (by omega) h).1
theorem Jcn :∀(d:List Ty) {b:Tb},Yv d=true->(JN d b).2.2=0->Q6 b.a->Q6 (JN d b).1.a
 |[],b,_,_,h=>h
 | t::r,b,e,f,h=>by
   rw[JN]at f⊢;rw[Yv,Xj]at e
   split at f
   ·grind
   rename_i c
   rw[Xa c];exact Jcn r e.2 f (JaV t e.1 (by omega) h).1
theorem Jco :∀(d:List Sg) {tb:Tb},(∀f∈d,Yv (f.a++[f.b])=true)->(Kc d tb).2=0->Q6 tb.a->Q6 (Kc d tb).1.a
 |[],tb,_,_,h=>h
 | f::r,tb,g,e,h=>by
   rw[Kc]at e⊢
   split at e
   ·omega
   rename_i c
   rw[Xa c];exact Jco r (fun p i=>g p (Xl _ i)) e (Jcn _ (g _ (Xu ..)) (by omega) h)
theorem Jpd (h:newS x=(some n,m)):Q6 n.a:=by
 unfold newS at h
 split at h
 ·grind
 split at h
 ·grind
 split at h
 ·grind
 split at h
 ·grind
 rename_i k l o p
 injection h with h _;injection h with h;subst h;obtain⟨d,f,g⟩:=JkO (s:=x) (by omega);have i:=Jcm x.a (tb:=JE) d (by omega) Q6.F;have j:=(JaV x.b (left:=400) f (by omega) i).1;exact Jco x.c (tb:={(addT x.b 400 (Jq x.a JE).1).1 with b:=(addT x.b 400 (Jq x.a JE).1).2.1}) g (by omega) j
structure OfF (s:Sch) (tb:Tb):Prop where
 l:kg s tb
 g:Q6 tb.a
theorem JqN (h:newS x=(some n,m)):m=0/\OfF x n:=⟨(JoZ h).1,(JoZ h).2,Jpd h⟩
section
variable {s : Sch} {tb : Tb}
theorem OfF.F (h:OfF s tb)(f:e<tb.a.length):∃o d,Ku tb (tb.a.length+1) e=(o,true)/\o<tb.a.length/\tb.a[o]? =some d/\d.a≠9/\JdE d/\∀k∈d.c,k<tb.a.length:=by
 obtain⟨j,d,a,b,c⟩:=h.l.D f;have m:=(Xz.1 b).1;exact⟨j,d,a,m,b,c,(h.g j d b).1,fun k n=>by have:=(h.g j d b).2 k n;omega⟩
def Jg (tb:Tb)(id:Nat):Nd:=tb.a.getD (Ku tb (tb.a.length+1) id).1 ⟨0,[],[],[]⟩
theorem OfF.B (h:OfF s tb)(m:e<tb.a.length):Ku tb (tb.a.length+1) e=((Ku tb (tb.a.length+1) e).1,true)/\(Ku tb (tb.a.length+1) e).1<tb.a.length/\tb.a[(Ku tb (tb.a.length+1) e).1]? =some (Jg tb e)/\(Jg tb e).a≠9/\JdE (Jg tb e)/\∀k∈(Jg tb e).c,k<tb.a.length:=by
 obtain⟨o,n,a,b,c,d,j,f⟩:=h.F m;have:Jg tb e=n:=by unfold Jg;grind
 grind
theorem OfF.I (h:OfF s tb)(c:1<=m/\m<=3)(b:(layS tb ⟨m,[],[],[]⟩).2.2=0):OfF s (layS tb ⟨m,[],[],[]⟩).1:=
 ⟨h.l.G (by omega) b,h.g.A ⟨⟨by grind,by grind⟩,by
  show 0=jE m [];unfold jE
  grind, .inl rfl,Gh,XC _⟩ fun m a=>by cases a⟩
end
mutual
theorem Jfo {e:Str->Bool}{b:List Nd}(f:∀(i:Nat) (n:Nd),b[i]? =some n->n.a=9->e n.d=true):∀(X:Ty) {i:Nat},Kh b X=some i->KS e X=true
 | .mk k n o g,i,h=>by
   obtain⟨j,l,m⟩:=YK h;rw[KS,JdF f g m,Gt,Zt,Zl];by_cases c:k=9
   ·exact .inr (f i _ l c)
   ·exact .inl c
theorem JdF {e:Str->Bool}{c:List Nd}(f:∀(i:Nat) (n:Nd),c[i]? =some n->n.a=9->e n.d=true):∀(X:List Ty) {i:List Nat},JT c X=some i->Kv e X=true
 |[],_,_=>by rw[Kv]
 | x::l,i,h=>by
   obtain⟨a,b,rfl,g,j⟩:=Qy h;rw[Kv,Jfo f x g,JdF f l j];rfl
end
theorem OfF.G (h:OfF x n){A:Nd}(q:n.a[e]? =some A):∃j,Kh n.a (.mk A.a A.d A.b j)=some e/\JT n.a j=some A.c/\Able (.mk A.a A.d A.b j):=by
 obtain⟨X,r,u⟩:=h.l.c.b e (Xz.1 q).1;obtain⟨k,f,t,j⟩:=X;obtain⟨m,o,p⟩:=YK r;have o:n.a[e]? =some ⟨k,f,t,m⟩:=o;have p:JT n.a j=some m:=p
 grind
theorem OfF.D (h:OfF x n){f:Nat}{A:Nd}(L:n.a[j]? =some A)(M:A.c=[f]):
  ∃K,Kh n.a K=some f/\KS (hasN x.a) (.mk 6 [] [] [K])=true/\(QO (.mk 6 [] [] [K]):Int)<=400/\fitT K=true/\∃left,addT (.mk 6 [] [] [K]) 400 n=((layS n ⟨6,[],[],[f]⟩).1,(layS n ⟨6,[],[],[f]⟩).2.1,(layS n ⟨6,[],[],[f]⟩).2.2,left):=by
 obtain⟨N,U,m,O,l0,tb0,W⟩:=h.G L;rw[M]at m
 cases N with
 |nil=>cases m
 | cons K r=>
   have P:r=[]:=by
    obtain⟨b,y,e,q,t⟩:=Qy m;injection e with w z;subst z
    cases r with
    |nil=>rfl
    |cons u v=>obtain⟨_,_,e,_⟩:=Qy t;cases e
   subst P;obtain⟨b,y,e,q,t⟩:=Qy m;injection e with w z;subst w;have k:Kh n.a K=some f:=q;have Q:QO K+1<=400:=by
    rw[QO,Qx,Qx]at O;omega
   have o:Able K:=h.l.A k;obtain⟨_,l1,S,T⟩:=o;have p:=Je3 K (left:=399) T k (by omega);refine⟨K,k, ?_, ?_,(h.l.A k).A,399-QO K, ?_⟩
   ·rw[KS,Kv,Kv,Jfo (fun i d=>h.l.c.a i d) K k];rfl
   ·rw[QO,Qx,Qx];omega
   ·rw[Qu,Xa (by simp),Kr,show(400:Int)-1=399 from rfl,p];rfl
theorem OfF.J (h:OfF x n){A:Nd}(b:n.a[e]? =some A)(d:A.c=[j])(m:(layS n ⟨6,[],[],[j]⟩).2.2=0):OfF x (layS n ⟨6,[],[],[j]⟩).1:=by
 obtain⟨K,o,f,_,_,left,i⟩:=h.D b d;have:=(h.l.F f (by grind)).1;rw[i]at this;refine⟨this,h.g.A ⟨⟨by simp,by simp⟩,rfl, .inl rfl,Gh,XC _⟩ fun k c=> ?_⟩;rcases Xw.1 c with rfl|c
 ·have:=(h.g e A b).2 k (by grind)
  grind
 grind
abbrev Ans3 :=Tb×Nat×Int
def QJ :List (Str×Nat)->Str->Option Nat
 |[],_=>none
 | x::r,n=>match QJ r n with
   |some i=>some (i+1)
   |none=>if x.1=n then some 0 else none
def KO (E:EnvS)(n:Str):Option Int:=if n=[]then some (-1)else(QJ E.a n).map fun i=>(i:Int)
def narS (v:Int)(path:List Str)(a:Nat×Nat)(x:Int×List Str×Nat):Nat×Nat:=if x.1=v/\a.2<=x.2.1.length/\x.2.1.length<=path.length/\x.2.1=path.take x.2.1.length then(x.2.2,x.2.1.length)else a
def ki (E:EnvS)(v:Int):Nat:=if v= -1 then E.c else(E.a.getD v.toNat ([],0)).2
def Jaw (E:EnvS)(v:Int)(path:List Str):Nat×Nat:=E.b.foldl (narS v path) (ki E v,0)
def fstN (n:Str):List Str->Option Nat
 |[]=>none
 |a::r=>if a=n then some 0 else(fstN n r).map (·+1)
def JbA (tb:Tb)(id:Nat)(n:Str):Option Nat:=if(Jg tb id).a=7 then match fstN n (Jg tb id).b with
 |some i=>(Jg tb id).c[i]?
 |none=>none else none
def Yw (tb:Tb):Nat->List Str->Nat×Int
 |id,[]=>(id,0)
 | id,n::r=>match JbA tb id n with
   |some k=>Yw tb k r
   |none=>(0,16)
def Qq (tb:Tb)(E:EnvS)(var:Str)(path:List Str):Nat×Int:=match KO E var with
 |none=>(0,15)
 |some v=>Yw tb (Jaw E v path).1 (path.drop (Jaw E v path).2)
def KE (n:Str):Nat:=if n∈[[108,101,110],[110,111,116],[116,101,120,116],[104,97,115],[105,56],[105,49,54],[105,51,50],[117,56],[117,49,54],[117,51,50]]then 1 else 2
def Jp (l:List Nd)(i:Nat)(k:Int):Bool:=match l[i]? with
 |some n=>decide (n.a=k)
 |none=>false
def okS (n:Str)(l:List Nd):Bool:=
 if n=[108,101,110]then Jp l 0 3||Jp l 0 4||Jp l 0 5
 else if n=[110,111,116]then Jp l 0 1
 else if n=[97,110,100]\/n=[111,114]then Jp l 0 1&&Jp l 1 1
 else if n=[101,113]then(Jp l 0 1&&Jp l 1 1)||(Jp l 0 2&&Jp l 1 2)||(Jp l 0 3&&Jp l 1 3)
 else if n=[108,116]\/n=[97,100,100]\/n=[115,117,98]\/n=[109,117,108]\/n=[115,104,108]\/n=[115,104,114]then Jp l 0 2&&Jp l 1 2
 else if n=[99,97,116]then Jp l 0 3&&Jp l 1 3
 else if n=[116,101,120,116]then Jp l 0 2||Jp l 0 1
 else if n=[104,97,115]then Jp l 0 6
 else Jp l 0 2
def resK (n:Str):Int:=if n∈[[110,111,116],[97,110,100],[111,114],[101,113],[108,116],[104,97,115]]then 1 else if n∈[[99,97,116],[116,101,120,116]]then 3 else 2
def kid0 (l:List Nd):Option Nat:=match l[0]? with
 |some n=>n.c[0]?
 |none=>none
def Jv (tb:Tb)(n:Str)(args:List Nat)(l:List Nd):Ans3:=
 if n=[97,116]then match Jp l 0 4&&Jp l 1 2,kid0 l with
  |true,some k=>(tb,k,0)
  |_,_=>(tb,0,17)
 else if n=[103,101,116]then match Jp l 0 5&&Jp l 1 3,kid0 l with
  |true,some k=>if(Jg tb k).a=6 then(tb,0,17)else layS tb ⟨6,[],[],[k]⟩
  |_,_=>(tb,0,17)
 else if n=[111,114,101,108,115,101]then match Jp l 0 6,kid0 l with
  |true,some k=>if args[1]? =some k then(tb,k,0)else(tb,0,17)
  |_,_=>(tb,0,17)
 else if okS n l then layS tb ⟨resK n,[],[],[]⟩else(tb,0,17)
def isBi (n:Str):Bool:=Ks n&&Lib.contains Yr (32::(n++[32]))
def ofK (sg:Tb->List Nat->List Nat->Nat×Int)(tb:Tb)(n:Str)(args:List Nat):Ans3:=
 if isBi n then if args.length≠KE n then(tb,0,18)else Jv tb n args (args.map (Jg tb))
 else match sigI tb n with
  |none=>(tb,0,15)
  |some ids=>(tb,sg tb ids args)
section
variable (sg : Tb -> List Nat -> List Nat -> Nat × Int)
def Qt (f:Tb->Opn->Ans3):Tb->List Opn->Tb×List Nat×Int
 |tb,[]=>(tb,[],0)
 | tb,o::r=>match f tb o with
   | (tb,id,e)=>if e≠0 then(tb,[],e)else match Qt f tb r with
     |(tb,l,e)=>(tb,id::l,e)
def Opn.k :Opn->Int| .mk k _ _ _ _ _ _=>k
def Opn.s :Opn->Str| .mk _ _ _ s _ _ _=>s
def Jmw (f:Tb->Opn->Ans3)(tb:Tb)(n:Str)(last:List Nat)(r:List Opn):Ans3:=match Qt f tb r with
 |(tb,l,e)=>if e≠0 then(tb,0,e)else ofK sg tb n (l++last)
def cmdS (f:Tb->Opn->Ans3)(tb:Tb)(last:List Nat):List Opn->Ans3
 |[]=>(tb,0,12)
 | o::r=>if o.k=6 then Jmw sg f tb o.s last r
   else match f tb o with
    |(tb,id,e)=>if e=0/\last≠[]then(tb,0,18)else(tb,id,e)
def pipS (f:Tb->Opn->Ans3):Tb->List Nat->Pipe->Ans3
 |tb,[],[]=>(tb,0,12)
 |tb,x::_,[]=>(tb,x,0)
 | tb,last,c::r=>match cmdS sg f tb last c with
   |(tb,id,e)=>if e≠0 then(tb,0,e)else pipS f tb [id] r
def opnS :Nat->EnvS->Tb->Opn->Ans3
 |0,_,tb,_=>(tb,0,12)
 | d+1,E,tb, .mk k var path s _ _ p=>
   if k=2 then layS tb ⟨3,[],[],[]⟩else if k=3 then layS tb ⟨2,[],[],[]⟩else if k=4 then layS tb ⟨1,[],[],[]⟩
   else if k=5 then pipS sg (opnS d E) tb [] p else if k=6 then ofK sg tb s []else(tb,Qq tb E var path)
def ofS (m:Nat)(E:EnvS)(tb:Tb)(p:Pipe):Ans3:=pipS sg (opnS sg m E) tb [] p
def Qf (E:EnvS)(p:Pipe):Option (Int×List Str):=match p with
 |[[.mk k var path _ _ _ _]]=>if k=1 then(KO E var).map fun v=>(v,path)else none
 |_=>none
abbrev Cls :=List (Str×Nat)
abbrev AnsR :=Tb×Cls×Int×Int
def KJ (E:EnvS)(id:Nat):EnvS:=⟨id,E.a,E.b.filter fun x=>decide (x.1≠-1)⟩
def varS (E:EnvS)(n:Str)(id:Nat):EnvS:=⟨E.c,E.a++[(n,id)],E.b⟩
def KB (E:EnvS)(x:Int×List Str×Nat):EnvS:=⟨E.c,E.a,E.b++[x]⟩
def setS (E:EnvS)(n:Str)(id:Nat):Int:=match QJ E.a n with
 |none=>15
 |some i=>if(E.a.getD i ([],0)).2≠id\/(E.b.any fun x=>decide (x.1=(i:Int)))=true then 17 else 0
def Qi (row:Tb->Cls->EnvS->List Nod->AnsR)(tb:Tb)(cs:Cls)(E1:EnvS)(b:List Nod)(E2:EnvS)(o:List Nod):AnsR:=match row tb cs E1 b with
 |(tb,cs,e,a)=>if e≠0 then(tb,cs,e,a)else row tb cs E2 o
def Q7 (row:Tb->Cls->EnvS->List Nod->AnsR)(E:EnvS)(nd:Nd):Tb->Cls->List Nat->List (Str×List Nod)->AnsR×List Nat
 |tb,cs,was,[]=>((tb,cs,0,-1),was)
 | tb,cs,was,(t,b)::r=>match fstN t nd.b with
   |none=>((tb,cs,19,-1),was)
   | some i=>if i∈was then((tb,cs,19,-1),was)else match row tb cs (KJ E (nd.c.getD i 0)) b with
     |(tb,cs,e,a)=>if e≠0 then((tb,cs,e,a),was)else Q7 row E nd tb cs (i::was) r
def oneS (row:Tb->Cls->EnvS->List Nod->AnsR)(names:List Str)(tb:Tb)(cs:Cls)(E:EnvS)(id:Nat):Nod->AnsR
 | .mk k _ _ name p body els he cases=>
   let x:=Jg tb id
   if k=2 then(tb,cs,if 1<=x.a/\x.a<=3 then 0 else 17,-1)
   else if k=4 then(tb,cs,setS E name id,-1)
   else if k=5 then
    if x.a=6 then match Qf E p with
     |some (v,path)=>Qi row tb cs (KB E (v,path,x.c.getD 0 0)) body E els
     |none=>Qi row tb cs E body E els
    else if x.a=1 then Qi row tb cs E body E els
    else(tb,cs,17,-1)
   else if k=6 then Qi row tb cs (KJ E (if x.a=6 then x.c.getD 0 0 else id)) body E els
   else if k=7 then if x.a=4\/x.a=5 then Qi row tb cs (KJ E (x.c.getD 0 0)) body E els else(tb,cs,17,-1)
   else if k=8 then
    if x.a=8 then match Q7 row E x tb cs [] cases with
     |((tb,cs,e,a),was)=>if e≠0 then(tb,cs,e,a)else if was.length<x.b.length/\he=false then(tb,cs,19,-1)else row tb cs E els
    else(tb,cs,17,-1)
   else if k=9 then if name∈names then(tb,cs++[(name,if p=[]then E.c else id)],0,-1)else(tb,cs,15,-1)
   else(tb,cs,0,-1)
def Nod.k :Nod->Int| .mk k _ _ _ _ _ _ _ _=>k
def Nod.a :Nod->Int| .mk _ a _ _ _ _ _ _ _=>a
def Nod.A :Nod->Str| .mk _ _ _ n _ _ _ _ _=>n
def Nod.B :Nod->Pipe| .mk _ _ _ _ p _ _ _ _=>p
def typS (m:Nat)(E:EnvS)(tb:Tb)(n:Nod):Ans3:=if n.k≠1/\(n.k≠9\/n.B≠[])then ofS sg m E tb n.B else(tb,0,0)
def Q8 (one:Tb->Cls->EnvS->Nat->Nod->AnsR)(m:Nat):Tb->Cls->EnvS->List Nod->AnsR
 |tb,cs,_,[]=>(tb,cs,0,-1)
 | tb,cs,E,n::r=>match typS sg m E tb n with
   | (tb,id,e)=>if e≠0 then(tb,cs,e,n.a)else match one tb cs E id n with
     |(tb,cs,e,a)=>if e≠0 then(tb,cs,e,if a<0 then n.a else a)else Q8 one m tb cs (if n.k=3 then varS E n.A id else E) r
def rowS (names:List Str)(m:Nat):Nat->Tb->Cls->EnvS->List Nod->AnsR
 |0,tb,cs,_,_=>(tb,cs,0,-1)
 |d+1,tb,cs,E,l=>Q8 sg (oneS (rowS names m d) names) m tb cs E l
end
end Eva
namespace Eva
open Go Go.RowKit
variable {e j:Nat}{n:Tb}{t:List V}{f:Pt->Prop}{l:EnvS}{h:List (List V)}{g:List Str}{m:Int}{u:St}{x:Sch}{N:Pt}{O:List Nat}{X:V->St->Prop}{Y:Str}{o:Program}
section
variable {T : Table} {lf : Nat} {c : C} {fr : Fr} {Q : Out -> Prop} {S : St} {n0 : Pt} {p q : Pt} {cs ds z y : List V}
theorem Ye (a:S.b=p)(f:Nat->Row):(S.B f).A p=f S.t:=by subst a;exact JM S f
theorem nm1 (d:WF S)(e:S.b=up 0 n0)(f:up 0 n0=p)(h:∀S',Gr S S'->S.A p= .none->(∃t,S'.A p= .a t cs)->wC T lf c fr S' Q):wC T lf c fr (S.B fun t=> .a t cs) Q:=by
 subst f;exact h _ (Gr.G d (Jd _)) (nx0 d e 0) ⟨_,Ye e _⟩
theorem nm2 (f:WF S)(d:S.b=up 0 n0)(l:up 0 n0=p)(m:up 1 n0=q)(h:∀S',Gr S S'->S.A p= .none->S.A q= .none->p≠q->(∃t,S'.A p= .a t cs)->(∃t,S'.A q= .a t ds)->wC T lf c fr S' Q):wC T lf c fr ((S.B fun t=> .a t cs).B fun t=> .a t ds) Q:=by
 subst l;subst m;have g:=Gr.G f (Jd cs);have n:(S.B fun t=> .a t cs).A (up 0 n0)= .a S.t cs:=Ye d _;have i:(S.B fun t=> .a t cs).b=up 1 n0:=by
  show up 1 S.b=_;rw[d];rfl
 have k:=Gr.G g.D (Jd ds);have j:up 0 n0≠up 1 n0:=fun e=>by
  have:=J9 g.D
  grind
 exact h _ (g.B k) (nx0 f d 0) (nx0 f d 1) j ⟨_,k.A n⟩ ⟨_,Ye i _⟩
theorem nmA (d:WF S)(e:S.b=up 0 n0)(f:up 0 n0=p)(h:∀S',Gr S S'->S.A p= .none->(∃t,S'.A p= .a t cs)->wC T lf c fr S' Q):wC T lf c fr ((S.B fun t=> .a t z).D p S.t fun t=> .a t cs) Q:=by
 subst f;exact h _ ((Gr.F d).M e (Jd _) (Jd _)) (nx0 d e 0) ⟨_,Jk _ _ _ _⟩
theorem nm1c {m:Bool}{c:Option (List Nat)}{args:List V}{R:V->St->Prop}(d:WF S)(g:S.b=up 0 n0)(i:up 0 n0=p)(h:∀S',Gr S S'->S.A p= .none->(∃t,S'.A p= .a t cs)->J8 T m c e args fr S' R):J8 T m c e args fr (S.B fun t=> .a t cs) R:=by
 subst i;exact h _ (Gr.G d (Jd _)) (nx0 d g 0) ⟨_,Ye g _⟩
end
theorem JbB {T:Table}{g:List V->St->Option V}(a:T e=some (Jap g).b){args:List V}{v:V}(c:g args u=some v){Q:V->St->Prop}(h:Q v u):Does T e args u Q:=by
 refine⟨v,u,h,1,fun n d=> ?_⟩;obtain⟨n,rfl⟩:∃k,n=k+1:=⟨n-1,by omega⟩
 simp[run,a,Jap,c]
theorem JbC :∀(l:List (Str×Nat)),kJ (l.map varE).flatten=some (l.map fun x=>(x.1.length,snum x.1,(x.2:Int)))
 |[]=>rfl
 | x::r=>by
   simp[varE,ofL,kJ,JbC r]
theorem JcX (n:Str):∀(l:List (Str×Nat)),jg (fun p=>p.1==n.length&&p.2.1==snum n) (l.map fun x=>(x.1.length,snum x.1,(x.2:Int)))=QJ l n
 |[]=>rfl
 | x::r=>by
   rw[XV,jg,QJ,JcX n r]
   cases QJ r n with
   |some i=>rfl
   | none=>
     simp;by_cases h:x.1=n
     ·grind
     ·rw[Xa h];have:¬((x.1.length==n.length&&snum x.1==snum n)=true):=fun e=>by
       simp[ZB]at e;exact h (Jqn.1 (by unfold ofL;grind))
      grind
def Jax (E:EnvS)(n:Str):V:=match KO E n with
 |some z=> .p [.d .i64 z, .h true]
 |none=> .p [.d .i64 (-1), .h false]
theorem Jfp {E:EnvS}(h:EnvC f u t E)(m:E.a.length<=100000)(n:Str):Je2 [.j t,ofL n] u=some (Jax E n):=by
 obtain⟨o,p,rfl,d,b⟩:=h;obtain⟨q,b,_⟩:=b;have g:=d.N;have l:=b.N;have i:=d.O;rw[XU]at g i;unfold Jax KO Je2 ofL;simp only[g,l];rw[Xa (by omega)];by_cases k:n=[]
 ·grind
 ·have c:¬n.length=0:=fun t=>k (Xp t);rw[Xa c,Xa k,i];simp[JbC,JcX]
  grind
theorem JjF {P:Pt->Prop}{f:St}:∀(c:List (List V)) (l:List (Int×List Str×Nat)),c.length=l.length->(∀i (h:i<c.length) (m:i<l.length),NarC P f c[i] l[i])->Jaq c.flatten=some (l.map (·.1))
 |[],[],_,_=>rfl
 |[],_::_,h,_=>by simp at h
 |_::_,[],h,_=>by simp at h
 | e::c,x::l,h,k=>by
   have d:=k 0 (by simp) (by simp);simp at d;obtain⟨n,rfl,g⟩:=d;have j:=JjF c l (by grind) fun i a b=>by have:=k (i+1) (by grind) (by grind);simpa using this
   simp[Jaq,g.N,j]
theorem Jpe {E:EnvS}(h:EnvC f u t E)(v:E.a.length<=100000)(w:E.b.length<=100000)(c:V)(n:Str)(id:Nat):setG [c, .j t,ofL n, .d .i64 (id:Nat)] u=some (.d .i64 (setS E n id)):=by
 obtain⟨y,z,rfl,k,g⟩:=h;obtain⟨r,g,l,s⟩:=g;have m:=k.N;have o:=g.N;have p:=k.O;have q:=g.O;rw[XU]at m p;rw[l]at o q;unfold setS setG ofL;simp only[m,o];rw[Xa (by omega),p,q];simp[JbC,JjF r E.b l s,JcX]
 cases K:QJ E.a n with
 |none=>rfl
 | some i=>
   simp;have L:((E.a.map fun x=>(x.1.length,snum x.1,(x.2:Int))).getD i default).2.2=(((E.a.getD i ([],0)).2:Nat):Int):=by
    rw[Xt,Xt,Hz]
    cases E.a[i]? with
    |none=>rfl
    |some x=>rfl
   grind
theorem Jpf {a:Nd}(h:(layS n a).2.2≠0):(layS n a).1=n:=by
 unfold layS at h⊢
 grind
theorem JqO {b:Nd}(h:(layS n b).2.2=0):(layS n b).2.1<(layS n b).1.a.length:=by
 obtain⟨_,_,r2,_⟩:=Jb8 h;have:=jC r2
 grind
structure Fine (s:Sch) (tb:Tb) (x:Ans3):Prop where
 b:OfF s x.1
 f:tb.a.length<=x.1.a.length
 g:x.2.2=0->x.2.1<x.1.a.length
theorem Fine.D (h:OfF x n){i:Nat}{e:Int}(k:e=0->i<n.a.length):Fine x n (n,i,e):=⟨h,Xb _,k⟩
theorem Fine.B (h:OfF x n)(k:m≠0):Fine x n (n,0,m):=Fine.D h fun c=>absurd c k
theorem Fine.G {a:Nd}(h:OfF x n)(k:(layS n a).2.2=0->OfF x (layS n a).1):Fine x n (layS n a):=by
 by_cases c:(layS n a).2.2=0
 ·obtain⟨r,e,_⟩:=Jb8 c;exact⟨k c,by grind,fun _=>JqO c⟩
 ·have:=Jpf c;exact⟨by grind,by grind,fun d=>absurd d c⟩
theorem Fine.F (h:OfF x n){k:Int}(a:1<=k/\k<=3):Fine x n (layS n ⟨k,[],[],[]⟩):=Fine.G h fun c=>h.I a c
theorem JqP (n:Str):1<=resK n/\resK n<=3:=by
 unfold resK;omega
theorem Fine.I (h:OfF x n){args:List Nat}(t:∀a∈args,a<n.a.length)(d:Str):Fine x n (Jv n d args (args.map (Jg n))):=by
 have e:∀{k:Nat},kid0 (args.map (Jg n))=some k->k<n.a.length/\∃a A,n.a[a]? =some A/\A.c[0]? =some k/\JdE A/\∀i:Int,Jp (args.map (Jg n)) 0 i=decide (A.a=i):=fun{k} m=>by
  unfold kid0 at m
  cases args with
  |nil=>grind
  | cons a r=>
    simp at m;obtain⟨_,o2,o3,_,u,v⟩:=h.B (t a (Xu ..));exact⟨v k (Gz m),_,_,o3,m,u,fun i=>rfl⟩
 unfold Jv
 split
 ·split
  ·rename_i o j;exact Fine.D h fun _=>(e j).1
  ·exact Fine.B h (by decide)
 split
 ·split
  ·rename_i k o j
   obtain⟨_,a,A,w,L,y,z⟩:=e j;rw[Xj,z]at o;have p:=X5 o.1
   split
   ·exact Fine.B h (by decide)
   ·have q:=y.a;rw[p]at q;have l:A.c=[k]:=by
     match M:A.c,q with
     |[c],_=>grind
    exact Fine.G h fun c=>h.J w l c
  ·exact Fine.B h (by decide)
 split
 ·split
  ·rename_i o j
   split
   ·exact Fine.D h fun _=>(e j).1
   ·exact Fine.B h (by decide)
  ·exact Fine.B h (by decide)
 split
 ·exact Fine.F h (JqP d)
 ·exact Fine.B h (by decide)
section
variable {sg : Tb -> List Nat -> List Nat -> Nat × Int} {s : Sch}
def SgOK (sg:Tb->List Nat->List Nat->Nat×Int)(s:Sch):Prop:=∀tb n ids args,OfF s tb->sigI tb n=some ids->(sg tb ids args).2=0->(sg tb ids args).1<tb.a.length
theorem SgOK.A (h:s.c=[]):SgOK sg s:=fun f n d args e b=>by
 rw[e.l.a n (by grind)]at b;cases b
theorem Fine.J (i:SgOK sg s)(h:OfF s n){args:List Nat}(j:∀a∈args,a<n.a.length)(c:Str):Fine s n (ofK sg n c args):=by
 unfold Eva.ofK
 split
 ·split
  ·exact Fine.B h (by decide)
  ·exact Fine.I h j c
 ·split
  ·exact Fine.B h (by decide)
  ·rename_i d k
   exact Fine.D (e:=(sg n d args).2) h (i n c d args h k)
end
structure EnvK (tb:Tb) (E:EnvS):Prop where
 f:E.c<tb.a.length
 b:∀x∈E.a,x.2<tb.a.length/\x.1≠[]
 c:∀x∈E.b,-1<=x.1/\x.2.1.length<100000/\x.2.2<tb.a.length
 e:E.a.length<100000
 d:E.b.length<100000
theorem EnvK.A {g:Tb}{E:EnvS}(h:EnvK n E)(k:n.a.length<=g.a.length):EnvK g E:=
 ⟨by have:=h.f;omega,fun x a=>by have:=h.b x a;grind,fun x a=>by have:=h.c x a;omega,h.e,h.d⟩
theorem Jfq {n:Str}:∀{l:List (Str×Nat)} {i:Nat},QJ l n=some i->i<l.length
 |[],_,h=>by cases h
 | x::r,i,h=>by
   rw[QJ]at h
   cases a:QJ r n with
   | some k=>
     rw[a]at h;injection h with h;subst h;have:=Jfq a
     grind
   | none=>
     grind
theorem kX {E:EnvS}(h:KO E Y=some m):m= -1\/∃i:Nat,m=i/\i<E.a.length:=by
 unfold KO at h
 split at h
 ·grind
 ·cases b:QJ E.a Y with
  |none=>grind
  |some i=>rw[b]at h;injection h with h;exact .inr ⟨i,h.symm,Jfq b⟩
theorem Jpg {E:EnvS}(h:EnvK n E)(e:m= -1\/∃i:Nat,m=i/\i<E.a.length):ki E m<n.a.length:=by
 unfold ki
 split
 ·exact h.f
 ·rename_i c
  rcases e with rfl|⟨i,rfl,d⟩
  ·omega
  ·rw[ZK,Xt,Xg d];exact(h.b _ (Xh d)).1
theorem Jmx {n:Nat}{v:Int}{b:List Str}:∀(l:List (Int×List Str×Nat)) (a:Nat×Nat),(∀x∈l,x.2.2<n)->a.1<n->a.2<=b.length->(l.foldl (narS v b) a).1<n/\(l.foldl (narS v b) a).2<=b.length
 |[],a,_,h,k=>⟨h,k⟩
 | x::r,a,c,h,k=>by
   rw[Zr];refine Jmx r _ (fun y d=>c y (Xl _ d)) ?_ ?_
   ·unfold narS;grind
   ·unfold narS;grind
theorem Jfr {E:EnvS}(h:EnvK n E)(e:m= -1\/∃i:Nat,m=i/\i<E.a.length)(d:List Str):(Jaw E m d).1<n.a.length/\(Jaw E m d).2<=d.length:=
 Jmx E.b _ (fun x a=>(h.c x a).2.2) (Jpg h e) (XC _)
theorem Jph (h:OfF x n){id:Nat}(c:id<n.a.length)(b:JbA n id Y=some j):j<n.a.length:=by
 obtain⟨_,_,_,_,_,d⟩:=h.B c;unfold JbA at b
 split at b
 ·split at b
  ·exact d j (Gz b)
  grind
 grind
theorem JjG {s:Sch}{b:Tb}(h:OfF s b):∀(l:List Str) {id:Nat},id<b.a.length->(Yw b id l).2=0->(Yw b id l).1<b.a.length
 |[],_,c,_=>c
 | n::r,id,c,e=>by
   rw[Yw]at e⊢
   cases d:JbA b id n with
   |none=>grind
   |some k=>rw[d]at e;exact JjG h r (Jph h c d) e
theorem Fine.K (h:OfF x n){E:EnvS}(j:EnvK n E)(d:Str)(a:List Str):Fine x n (n,Qq n E d a):=by
 refine Fine.D (e:=(Qq n E d a).2) h fun c=> ?_;show(Qq n E d a).1<_;unfold Qq at c⊢
 cases i:KO E d with
 |none=>grind
 |some v=>rw[i]at c;exact JjG h _ (Jfr j (kX i) a).1 c
section
variable {sg : Tb -> List Nat -> List Nat -> Nat × Int} {s : Sch} (hsg : SgOK sg s)
include hsg
def Jfs (s:Sch)(E:EnvS)(f:Tb->Opn->Ans3)(P:Opn->Prop):Prop:=∀tb o,P o->OfF s tb->EnvK tb E->Fine s tb (f tb o)
omit hsg in
theorem Jg1 {E:EnvS}{f:Tb->Opn->Ans3}{P:Opn->Prop}(m:Jfs s E f P):∀(l:List Opn) {tb:Tb},(∀o∈l,P o)->OfF s tb->EnvK tb E->OfF s (Qt f tb l).1/\tb.a.length<=(Qt f tb l).1.a.length/\((Qt f tb l).2.2=0->(∀a∈(Qt f tb l).2.1,a<(Qt f tb l).1.a.length)/\(Qt f tb l).2.1.length=l.length)
 |[],tb,_,h,_=>⟨h,Xb _,fun _=>⟨fun a c=>(by cases c),rfl⟩⟩
 | o::r,tb,n,h,p=>by
   have d:=m tb o (n o (Xu ..)) h p;rw[Qt];generalize f tb o=x at d;obtain⟨i,id,e⟩:=x;simp only;by_cases c:e=0
   ·rw[Xa (fun k=>k c)];have q:=Jg1 m r (tb:=i) (fun o v=>n o (Xl _ v)) d.b (p.A d.f);generalize Qt f i r=y at q;obtain⟨w,l,L⟩:=y;obtain⟨K,t,u⟩:=q;refine⟨K,X0 d.f t,fun z=>⟨fun a j=> ?_,by simp[(u z).2]⟩⟩;rcases Xw.1 j with rfl|j
    ·exact X6 (d.g c) t
    ·exact(u z).1 a j
   ·rw[Xd c];exact⟨d.b,d.f,fun z=>absurd z c⟩
theorem Jft {E:EnvS}{f:Tb->Opn->Ans3}{P:Opn->Prop}(i:Jfs s E f P)(L:∀a∈O,a<n.a.length)(h:OfF s n)(j:EnvK n E):∀(c:List Opn),(∀o∈c,P o)->Fine s n (cmdS sg f n O c)
 |[],_=>Fine.B h (by decide)
 | o::r,m=>by
   rw[cmdS]
   split
   ·unfold Jmw;have p:=Jg1 i r (tb:=n) (fun o u=>m o (Xl _ u)) h j;generalize Qt f n r=y at p;obtain⟨v,l,w⟩:=y;obtain⟨q,t,M⟩:=p;simp only;by_cases c:w=0
    ·rw[Xa (fun k=>k c)];have:=Fine.J hsg q (args:=l++O) (fun a N=>by
      grind) o.s
     exact⟨this.b,X0 t this.f,this.g⟩
    ·rw[Xd c];exact⟨q,t,fun z=>absurd z c⟩
   ·have d:=i n o (m o (Xu ..)) h j;generalize f n o=x at d;obtain⟨K,id,e⟩:=x;simp
    split
    ·exact⟨d.b,d.f,fun z=>by cases z⟩
    omega
theorem Jfu {E:EnvS}{f:Tb->Opn->Ans3}{P:Opn->Prop}(l:Jfs s E f P):∀(p:Pipe) {tb:Tb} {last:List Nat},(∀a∈last,a<tb.a.length)->OfF s tb->EnvK tb E->(∀c∈p,∀o∈c,P o)->Fine s tb (pipS sg f tb last p)
 |[],tb,[],_,h,_,_=>Fine.B h (by decide)
 |[],tb,x::_,i,h,_,_=>Fine.D h fun _=>i x (Xu ..)
 | c::r,tb,last,i,h,m,n=>by
   have d:=Jft hsg l i h m c (n c (Xu ..));rw[pipS];generalize cmdS sg f tb last c=x at d;obtain⟨j,id,e⟩:=x;simp only;by_cases z:e=0
   ·rw[Xa (fun k=>k z)];have:=Jfu l r (tb:=j) (last:=[id]) (fun a q=>by rw[Xn.1 q];exact d.g z) d.b (m.A d.f) fun c t=>n c (Xl _ t);exact⟨this.b,X0 d.f this.f,this.g⟩
   ·rw[Xd z];exact⟨d.b,d.f,fun k=>absurd k z⟩
theorem jn :∀(d:Nat) (E:EnvS),Jfs s E (opnS sg d E) fun _=>True
 |0,E=>fun i o _ h f=>Fine.B h (by decide)
 | d+1,E=>fun i o _ h f=>by
   obtain⟨k,g,e,j,n,b,p⟩:=o;rw[opnS]
   split
   ·exact Fine.F h (by decide)
   split
   ·exact Fine.F h (by decide)
   split
   ·exact Fine.F h (by decide)
   split
   ·exact Jfu hsg (jn d E) p (fun a c=>by cases c) h f fun _ _ _ _=>trivial
   split
   ·exact Fine.J hsg h (fun a c=>by cases c) j
   ·exact Fine.K h f g e
theorem JqQ {E:EnvS}(h:OfF s n)(b:EnvK n E)(p:Pipe):Fine s n (ofS sg e E n p):=Jfu hsg (jn hsg e E) p (fun a c=>by cases c) h b fun _ _ _ _=>trivial
end
theorem Jpi {st:St}{n c:Nat}(h:n<=c)(i:c<2^20):Jlj st 1 [.d .i64 0] (.d .i64 (n:Int)) (.d .i64 (c:Int))=some (.m st.b 0 n 1 c, .b fun t=> .a t (List.replicate c (.d .i64 0))):=by
 have e:(List.replicate c [V.d .i64 0]).flatten=List.replicate c (.d .i64 0):=by simp
 have f:∀c:Nat,QZ (.d .i64 (c:Int))=some c:=fun c=>by rfl
 show evOp (fun _=> .g) st (.t 1 [.d .i64 0] (.c (.d .i64 (n:Int))) (.c (.d .i64 (c:Int))))=_;simp[evOp,Opd.A,f]
 grind
theorem JjH (a:List V)(k:Nat)(z v:V):JF (a++List.replicate (k+1) z) a.length [v]=(a++[v])++List.replicate k z:=by
 rw[JL,ZO];simp
theorem Jd0 {S:St}{v:V}(s:WF S)(b:SlAt f u v e h)(M:∀N,u.A N≠ .none->S.A N=u.A N)(g:okC h){o n:Nat}(i:S.A N= .a j t)(O:o+n*e<=t.length)(w:h.length<=n)
  {R:V->St->Prop} (k:∀S' Q,Ch (fun x=>x=N) S S'->S'.A N= .a Q (JF t o h.flatten)->R (.d .i64 h.length) S'):wW (copyV S e (.m N o n e n) v) S R:=by
 have y:SlAt f S v e h:=b.D fun N p c=>⟨p,M N c⟩
 have K:=Jt b.1;have W:Nat.min h.length n=h.length:=Zd w;have L:h.length*e<=n*e:=Zb _ w;unfold copyV;rw[y.U];simp only[slen,W,y.T];by_cases q:h.length=0
 ·rw[Xd q];have:h=[]:=XB.1 q;subst this;refine k S j (Ch.G _ s) ?_;rw[i];simp[JL]
 ·rw[Xa q];simp only[jQ,JO,i];rw[Xd ⟨by omega,g.A⟩];refine k _ S.t ?_ (Jk _ _ _ _);exact(Ch.G (fun x=>x=N) s).J (by grind) (by rw[i];rfl) (.inl rfl) (Jd _)
def TabU (S:St)(U:Pt->Prop)(rt:Pt)(tb:Tb):Prop:=WF S/\(∃W F,Tab W F S rt tb/\∀r,W r\/F r->U r)/\∀r,U r->S.A r≠ .none
theorem Ch.F {c:Pt->Prop}{b:St}(h:Ch f u b)(k:∀r,f r->c r):Ch c u b:=⟨h.i,fun r e n=>h.d r e fun w=>n (k r w)⟩
section
variable {U U' U'' : Pt -> Prop} {S S' S'' : St} {rt : Pt} {tb tb' : Tb}
theorem TabU.A (h:TabU S U rt tb)(g:Gr S S'):TabU S' U rt tb:=by
 obtain⟨_,⟨W,F,a,b⟩,c⟩:=h;exact⟨g.D,⟨W,F,a.G g,b⟩,fun r u=>by rw[g.d r (c r u)];grind⟩
theorem TabU.B (h:TabU S U rt tb)(e:S.A N= .none):¬U N:=fun u=>h.2.2 N u e
theorem Qj {lo:Nat}(h:TabU S U rt tb)(b:WF {S with a:=lo}):TabU {S with a:=lo} U rt tb:=by
 obtain⟨_,⟨W,F,c,d⟩,e⟩:=h;exact⟨b,⟨W,F,c.A fun r _ _=>rfl,d⟩,e⟩
theorem TabU.D (f:TabU S U rt tb){W F:Pt->Prop}(g:∀r,W r\/F r->U r){a b:Pt->Prop}(c:Ch W S S')(j:∀r,a r->W r\/S.A r= .none)(l:∀r,b r->F r\/S.A r= .none)(d:Tab a b S' rt tb'):
  Ch U S S'/\∃U',TabU S' U' rt tb'/\∀r,U' r->U r\/S.A r= .none:=by
 have i:=d.B;refine⟨c.F fun r w=>g r (.inl w),fun r=>U r\/((a r\/b r)/\S'.A r≠ .none),⟨c.D,⟨a,_,i,fun r h=> ?_⟩,fun r h=> ?_⟩,fun r h=> ?_⟩
 ·rcases h with h|h
  ·refine .inr ⟨.inl h, ?_⟩;obtain⟨_,_,_,_,_,_,k⟩:=d;exact fun e=>k.u r h e
  grind
 ·rcases h with h|h
  ·exact fun e=>f.2.2 r h (c.B e)
  grind
 grind
structure RunA (U:Pt->Prop) (S S':St) (U':Pt->Prop) (rt:Pt) (tb:Tb):Prop where
 ch:Ch U S S'
 tab:TabU S' U' rt tb
 a:∀r,U' r->U r\/S.A r= .none
theorem RunA.D (h:TabU S U rt tb):RunA U S S U rt tb:=⟨Ch.G _ h.1,h,fun r w=> .inl w⟩
theorem RunA.A (h:RunA U S S' U' rt tb)(k:RunA U' S' S'' U'' rt tb'):RunA U S S'' U'' rt tb':=
 ⟨h.ch.A k.ch h.a,k.tab,fun r w=>by
  rcases k.a r w with w|w
  ·exact h.a r w
  ·exact .inr (h.ch.B w)⟩
theorem RunA.I (h:RunA U S S' U' rt tb)(g:Gr S' S''):RunA U S S'' U' rt tb:=h.A ⟨Ch.H _ g,h.tab.A g,fun r w=> .inl w⟩
theorem RunA.B (h:RunA U S S' U' rt tb):Kept S U S' U':=Kept.F h.ch h.a
theorem RunA.G (h:RunA U S S' U' rt tb)(k:S.A N= .none)(g:¬U' N)(c:Ch (fun r=>r=N) S' S''):RunA U S S'' U' rt tb:=by
 obtain⟨l,⟨W,F,i,f⟩,j⟩:=h.tab;have b:∀r,U' r->S''.A r=S'.A r:=fun r u=>c.d r (j r u) fun e=>g (by grind);exact⟨h.ch.A c fun r e=> .inr (by grind),⟨c.D,⟨W,F,i.A fun r w _=>b r (f r w),f⟩,fun r u=>by grind⟩,h.a⟩
end
def KL (st:St)(v:V)(z:Nat)(es:List (List V)):Prop:=(∀e∈es,e.length=z)/\((v= .g/\es=[])\/∃r t,st.A r= .a t es.flatten/\(v= .u r 0 es.length z\/v= .m r 0 es.length z es.length))
section
variable {st S S' : St} {v : V} {z : Nat} {es : List (List V)}
theorem KL.F (st:St)(z:Nat):KL st .g z []:=⟨by simp, .inl ⟨rfl,rfl⟩⟩
theorem KL.G (h:KL st v z es)(b:rowOf v=some N):∃t,st.A N= .a t es.flatten:=by
 rcases h.2 with⟨rfl,_⟩|⟨q,t,d,c⟩
 ·cases b
 ·have:N=q:=by rcases c with rfl|rfl<;>(injection b with b;grind)
  grind
theorem KL.A (h:KL st v z es){r:Pt}(a:rowOf v=Option.some r):st.A r≠ .none:=by
 obtain⟨t,e⟩:=h.G a
 grind
theorem KL.B (h:KL st v z es)(k:∀r,rowOf v=Option.some r->S.A r=st.A r):KL S v z es:=by
 refine⟨h.1, ?_⟩;rcases h.2 with c|⟨r,t,b,a⟩
 ·grind
 ·exact .inr ⟨r,t,by rw[k r (by rcases a with rfl|rfl<;>rfl)];exact b,a⟩
theorem KL.D (h:KL st v z es):SlAt (fun r=>rowOf v=Option.some r) st v z es:=by
 refine⟨h.1, ?_⟩;rcases h.2 with c|⟨r,t,a,b⟩
 ·grind
 ·refine .inr ⟨r,0,by rcases b with rfl|rfl<;>rfl, ?_,es.flatten, .inl ⟨t,a⟩,by rw[Jt h.1];omega,by rw[XQ,<-Jt h.1,Zf]⟩
  grind
theorem Jnb :∀u,(Row.c u).A=u/\Row.c u≠ .none:=fun u=>⟨rfl,fun e=>by cases e⟩
theorem JqR {n:V}(w:WF st)(d:KL st v z es)(o:SlAt f st n z h)(q:okC h)(s:h≠[])(Q:h.length<2^20)(S:es.length+h.length<=2^24){R:V->St->Prop}
  (k:∀S' x,Ch (fun p=>rowOf v=Option.some p) st S'->KL S' x z (es++h)->rowOf x=Option.some st.b->R x S'):wW (appV st z v n) st R:=by
 have Y:¬h.length=0:=fun e=>s (XB.1 e);have i:appV st z v n=JI st z h.length h.flatten v:=by
  unfold appV;rw[o.N];simp only[o.O];rw[Xd ⟨Q,q.A⟩]
 have y:∀e∈es++h,e.length=z:=fun e j=>by
  rcases Xy.1 j with j|j
  ·exact d.1 e j
  ·exact o.1 e j
 rw[i];rcases d.2 with⟨rfl,K⟩|⟨r,t,L,T⟩
 ·have l:JI st z h.length h.flatten .g=Option.some (.u st.b 0 h.length z, .b fun t=> .a t h.flatten):=by
   unfold JI
   grind
  rw[l];subst K;exact k (st.B fun t=> .a t h.flatten) _ (Ch.H _ (Gr.G w (Jd _))) ⟨y, .inr ⟨st.b,st.t,by rw[JM];simp, .inl (by simp)⟩⟩ rfl
 ·have U:=Jt d.1;have W:0+es.length*z<=es.flatten.length:=by omega
  have X:(es.flatten.drop 0).take (es.length*z)=es.flatten:=by grind
  rcases T with rfl|rfl
  ·have l:JI st z h.length h.flatten (.u r 0 es.length z)=Option.some (.u st.b 0 (es.length+h.length) z, .e r t fun u=> .a u (es.flatten++h.flatten)):=by
    unfold JI
    grind
   rw[l];have M:Ch (fun p=>rowOf (.u r 0 es.length z)=Option.some p) st (st.D r t .c):=(Ch.G _ w).J (Jb L) (by rw[L];rfl) (.inl rfl) Jnb;exact k ((st.D r t .c).B fun u=> .a u (es.flatten++h.flatten)) _ (M.I (Gr.G M.D (Jd _))) ⟨y, .inr ⟨st.b,st.t+1,by rw[XS];exact JM (st.D r t .c) _, .inl (by simp)⟩⟩ rfl
  ·have l:JI st z h.length h.flatten (.m r 0 es.length z es.length)=Option.some (.u st.b 0 (es.length+h.length) z, .b fun u=> .a u (es.flatten++h.flatten)):=by
    unfold JI
    grind
   rw[l];exact k (st.B fun u=> .a u (es.flatten++h.flatten)) _ (Ch.H _ (Gr.G w (Jd _))) ⟨y, .inr ⟨st.b,st.t,by rw[XS];exact JM st _, .inl (by simp)⟩⟩ rfl
end
def clsE (cs:Cls):List (List V):=cs.map varE
structure WkU (S:St) (U:Pt->Prop) (w rt:Pt) (tb:Tb) (nv:V) (names:List Str) (cs:Cls) (a:Int):Prop where
 i:∃(U0:Pt->Prop) (cv:V) (t:Nat),TabU S U0 rt tb/\(∀r,U0 r->U r/\r≠w/\rowOf cv≠some r)/\S.A w= .a t [.e rt 0,nv,cv, .d .i64 a]/\KL S cv 2 (clsE cs)/\(∀r,rowOf cv=some r->U r/\r≠w)
 d:U w
 b:∀r,U r->S.A r≠ .none
 j:SlAt (fun r=>¬U r) S nv 1 (strs names)
section
variable {S S' S'' : St} {U U' U'' : Pt -> Prop} {w rt : Pt} {tb tb' : Tb} {nv : V} {names : List Str} {cs cs' : Cls} {a a' : Int}
theorem WkU.D (h:WkU S U w rt tb nv names cs a):WF S:=by
 obtain⟨_,_,_,h,_⟩:=h.i;exact h.1
theorem WkU.A (h:WkU S U w rt tb nv names cs a){r:Pt}(e:S.A r= .none):¬U r:=fun u=>h.b r u e
theorem WkU.B (h:WkU S U w rt tb nv names cs a)(g:Gr S S'):WkU S' U w rt tb nv names cs a:=by
 obtain⟨f,k,t,l,m,n,c,o⟩:=h.i;exact⟨⟨f,k,t,l.A g,m,g.A n,c.B fun r e=>g.d r (c.A e),o⟩,h.d,fun r u=>by rw[g.d r (h.b r u)];exact h.b r u,h.j.H g⟩
theorem WkU.G (h:WkU S U w rt tb nv names cs a){lo:Nat}(c:WF {S with a:=lo}):WkU {S with a:=lo} U w rt tb nv names cs a:=by
 obtain⟨f,g,t,k,l,m,n,o⟩:=h.i;exact⟨⟨f,g,t,Qj k c,l,m,n.B fun r e=>rfl,o⟩,h.d,h.b,h.j.L _⟩
structure RunW (U:Pt->Prop) (S S':St) (U':Pt->Prop):Prop where
 ch:Ch U S S'
 b:∀r,U' r->U r\/S.A r= .none
theorem RunW.F (h:WkU S U w rt tb nv names cs a):RunW U S S U:=⟨Ch.G _ h.D,fun r w=> .inl w⟩
theorem RunW.A (h:RunW U S S' U')(k:RunW U' S' S'' U''):RunW U S S'' U'':=
 ⟨h.ch.A k.ch h.b,fun r w=>by
  rcases k.b r w with w|w
  ·exact h.b r w
  ·exact .inr (h.ch.B w)⟩
theorem RunW.D (g:Gr S S'):RunW U S S' U:=⟨Ch.H _ g,fun r w=> .inl w⟩
theorem RunW.G (h:RunW U S S' U')(g:Gr S' S''):RunW U S S'' U':=h.A (RunW.D g)
theorem RunW.B (h:RunW U S S' U'):Kept S U S' U':=Kept.F h.ch h.b
theorem WkU.K (h:WkU S U w rt tb nv names cs a):∃f,TabU S f rt tb/\(∀r,¬U r->¬f r)/\∀{S':St} {U1:Pt->Prop} {tb':Tb},RunA f S S' U1 rt tb'->∃U',RunW U S S' U'/\WkU S' U' w rt tb' nv names cs a:=by
 obtain⟨f,o,t,p,k,q,l,m⟩:=h.i;refine⟨f,p,fun r n u=>n (k r u).1,fun{S' U1 tb'} R=> ?_⟩;have g:∀r,U1 r->f r\/S.A r= .none:=R.a;have c:∀r,S.A r≠ .none->¬f r->S'.A r=S.A r:=R.ch.d;refine⟨fun r=>U r\/U1 r,⟨R.ch.F fun r u=>(k r u).1,fun r u=> ?_⟩,⟨⟨U1,o,t,R.tab,fun r u=>⟨.inr u, ?_, ?_⟩, ?_,l.B fun r e=>c r (l.A e) fun u=>(k r u).2.2 e,fun r e=>⟨.inl (m r e).1,(m r e).2⟩⟩, .inl h.d,fun r u=> ?_, ?_⟩⟩
 ·grind
 ·grind
 ·rcases g r u with u|u
  ·grind
  ·exact fun e=>l.A e u
 ·grind
 ·rcases u with u|u
  ·exact fun e=>h.b r u (R.ch.B e)
  ·exact R.tab.2.2 r u
 ·refine h.j.D fun r n e=>⟨fun u=> ?_,c r e fun u=>n (k r u).1⟩
  grind
end
theorem Jay {v:V}(n:WF u)(q:u.b=up 0 N)(f:KL u v e h)(s:t.length=e)(K:Kk t=true)(M:h.length<2^24){R:V->St->Prop}
  (k:∀S' j,Ch (fun p=>rowOf v=some p) u S'->KL S' j e (h++[t])->(∀r,rowOf j=some r->u.A r= .none)->R j S'):wW (appV (u.B fun i=> .a i t) e v (.m (up 0 N) 0 1 e 1)) (u.B fun i=> .a i t) R:=by
 have g:=Gr.G n (Jd t);have x:=Ql (st:=u) s;rw[q]at x;refine JqR g.D (f.B fun r t=>g.d r (f.A t)) x (fun y O=>by grind) (by simp) (by simp) (by grind) fun S' j c o L=> ?_;refine k S' j ((Ch.H _ g).A c fun r w=> .inl w) o fun r l=> ?_;rw[L]at l;injection l with l;exact Ch.B (Ch.H (fun _=>False) g) (by rw[<-l];exact J9 g.D)
theorem WkU.J {O k:St}{U x:Pt->Prop}{y:Pt}{P z s:V}{names:List Str}{cs cs':Cls}{a':Int}(v:WkU u U N y n P names cs m)(T:TabU u x y n)(L:∀r,x r->U r/\r≠N/\rowOf z≠some r)(h5:∀r,rowOf z=some r->U r/\r≠N)
  (c:Ch (fun p=>rowOf z=some p) u O) (o:KL O s 2 (clsE cs')) (hv:∀r,rowOf s=some r->u.A r= .none) (Q:Ch (fun p=>p=N) O k) {t:Nat} (hr:k.A N= .a t [.e y 0,P,s, .d .i64 a']):
  ∃X,RunW U u k X/\WkU k X N y n P names cs' a':=by
 have lw:=v.b N v.d;have q:Ch U u k:=(c.F fun r g=>(h5 r g).1).A (Q.F fun r g=>by rw[g];exact v.d) fun r g=> .inl g;have sm:∀r,u.A r≠ .none->r≠N->rowOf z≠some r->k.A r=u.A r:=fun r l n1 n2=>by
  have e1:=c.d r l n2;rw[Q.d r (by grind) n1,e1]
 have Y:∀r,rowOf s=some r->r≠N:=fun r e f=>lw (by grind);have Z:KL k s 2 (clsE cs'):=o.B fun r e=>Q.d r (o.A e) (Y r e);refine⟨fun r=>U r\/rowOf s=some r,⟨q,fun r g=> ?_⟩,⟨⟨x,s,t, ?_,fun r g=>⟨.inl (L r g).1,(L r g).2.1,fun e=>T.2.2 r g (hv r e)⟩,hr,Z,fun r e=>⟨.inr e,Y r e⟩⟩, .inl v.d,fun r g=> ?_, ?_⟩⟩
 ·grind
 ·obtain⟨_,⟨W,F,k1,k2⟩,k3⟩:=T;have s0:∀r,x r->k.A r=u.A r:=fun r g=>sm r (k3 r g) (L r g).2.1 (L r g).2.2;exact⟨q.D,⟨W,F,k1.A fun r g _=>s0 r (k2 r g),k2⟩,fun r g=>by grind⟩
 ·rcases g with g|g
  ·exact fun e=>v.b r g (q.B e)
  ·exact Z.A g
 ·refine v.j.D fun r h l=>⟨fun g=> ?_,q.d r l h⟩
  grind
theorem JkP {st:St}{d:List V}{z n:Nat}(e:n<2^20)(f:d.length=z):Jlj st z d (.d .i64 (n:Int)) (.d .i64 (n:Int))=some (.m st.b 0 n z n, .b fun t=> .a t (List.replicate n d).flatten):=by
 have g:∀c:Nat,QZ (.d .i64 (c:Int))=some c:=fun c=>by rfl
 unfold Jlj
 grind
theorem JqS (k:Nat)(d:List V):(List.replicate k d).flatten.length=k*d.length:=by simp
theorem Jcp {es:List (List V)}{d:List V}(a:∀e∈es,e.length=d.length):JF (List.replicate (es.length+1) d).flatten 0 es.flatten=es.flatten++d:=by
 have b:=Jt a;have c:(List.replicate (es.length+1) d).flatten=(List.replicate es.length d).flatten++d:=by
  rw[Hg,XS];simp
 rw[JL,c,GJ,XT,ZD,b,<-JqS,List.drop_left]
theorem JdG {es:List (List V)}{d e:List V}(a:es.flatten.length=j)(b:d.length=e.length):JF (es.flatten++d) j e=es.flatten++e:=by
 subst a;rw[JL,List.take_left,<-b,<-X7,Z3,ZC]
theorem Jmy {st:St}{p:Pt}{t z n:Nat}{es:List (List V)}{e:List V}(h:st.A p= .a t (es.flatten++e))(i:∀x∈es,x.length=z)(d:e.length=z)(f:es.length+1=n):SlAt (fun r=>r=p) st (.m p 0 n z n) z (es++[e]):=by
 subst f;have b:∀x∈es++[e],x.length=z:=fun x j=>by grind
 have c:(es++[e]).length=es.length+1:=by simp
 refine⟨b, .inr ⟨p,0,rfl, .inr ⟨_,Nat.le_of_eq c,by rw[c]⟩,_, .inl ⟨t,h⟩, ?_, ?_⟩⟩
 ·have:=Jt b
  grind
 ·have g:(es++[e]).flatten=es.flatten++e:=by simp
  rw[XQ,<-Jt b,g,Zf]
theorem nmW {T:Table}{c:C}{d:Fr}{Q:Out->Prop}{f:List V}(i:WF u)(g:u.A N= .a j t)(h:∀S',Ch (fun r=>r=N) u S'->(∃j,S'.A N= .a j f)->wC T e c d S' Q):wC T e c d (u.D N j fun b=> .a b f) Q:=
 h _ ((Ch.G _ i).J (Jb g) (congrArg _ g) (.inl rfl) (Jd _)) ⟨_,Jk _ _ _ _⟩
theorem Jcq (l:List (Str×Nat)):okC (l.map varE):=fun e a=>by
 obtain⟨x,_,rfl⟩:=XA.1 a;rfl
theorem nm3 {T:Table}{c:C}{l:Fr}{Q:Out->Prop}{p q r:Pt}{m n:List V}(o:WF u)(i:u.b=up 0 N)(s:up 0 N=p)(w:up 1 N=q)(z:up 2 N=r)
  (h:∀S',Gr u S'->(u.A p= .none/\u.A q= .none/\u.A r= .none)->(p≠q/\p≠r/\q≠r)->(∃f,S'.A p= .a f t)->(∃f,S'.A q= .a f m)->(∃f,S'.A r= .a f n)->wC T e c l S' Q):wC T e c l (((u.B fun f=> .a f t).B fun f=> .a f m).B fun f=> .a f n) Q:=by
 have j:=Gr.G o (Jd t);have k:(u.B fun f=> .a f t).A p= .a u.t t:=by rw[<-s];exact Ye i _
 have K:(u.B fun f=> .a f t).b=up 0 (up 1 N):=by
  show up 1 u.b=_;rw[i];rfl
 have v:=Ch.H (fun _=>False) j;refine nm2 (p:=q) (q:=r) j.D K (by rw[<-w];rfl) (by rw[<-z];rfl) fun S' G a b d x y=> ?_;exact h S' (j.B G) ⟨by rw[<-s];exact nx0 o i 0,v.B a,v.B b⟩ ⟨fun g=>Jb k (by grind),fun g=>Jb k (by grind),d⟩ ⟨_,G.A k⟩ x y
def dotI :List (Int×List Str×Nat)->Option Nat
 |[]=>none
 |x::r=>if x.1= -1 then some 0 else(dotI r).map (·+1)
def offD (l:List (Int×List Str×Nat)):List (Int×List Str×Nat):=l.filter fun x=>decide (x.1≠-1)
theorem Jg2 :∀{l:List (Int×List Str×Nat)},dotI l=none->offD l=l
 |[],_=>rfl
 | x::r,h=>by
   rw[dotI]at h;by_cases c:x.1= -1
   ·grind
   ·rw[Xa c,Option.map_eq_none_iff]at h;have:=Jg2 h;unfold offD at this⊢
    grind
theorem Jg3 :∀{l:List (Int×List Str×Nat)} {i:Nat},dotI l=some i->i<l.length/\offD (l.take (i+1))=l.take i
 |[],_,h=>by cases h
 | x::r,i,h=>by
   rw[dotI]at h;by_cases c:x.1= -1
   ·rw[Xd c]at h;injection h with h;subst h;exact⟨by simp,by simp[offD,c]⟩
   ·rw[Xa c]at h
    cases a:dotI r with
    |none=>grind
    | some j=>
      rw[a]at h;injection h with h;subst h;obtain⟨d,b⟩:=Jg3 a;refine⟨by grind, ?_⟩;unfold offD at b⊢
      grind
theorem Jpj (T:Table)(d:Bool)(e:Option (List Nat))(z:Nat)(b:List V)(x:Opd)(c:Fr)(a:St)(R:V->St->Prop):wO T d e (.clear z b x) c a R=wW (Jhu a z b (x.A c)) a R:=propext Iff.rfl
theorem Jpk {S:St}{v:V}{k:Nat}{d:List V}(M:WF S)(f:SlF u S v e h)(N:d.length=e)(O:Kk d=true)(x:k<h.length):
  ∃j r,rowOf v=some r/\u.A r= .none/\(∀S':St,QV S' e v (some (.d .i64 (k:Int))) none none=some (j, .a))/\
   ∀{R:V->St->Prop},(∀S',Ch (fun p=>p=r) S S'->SlF u S' v e (h.take k++List.replicate (h.length-k) d)->R Kj S')->wW (Jhu S e d j) S R:=by
 have y:=f.1;rcases f.2 with⟨_,rfl⟩|⟨r,t,o,q,P⟩
 ·grind
 have Q:=Jt y;have X:(h.take k).flatten.length=k*e:=by rw[Jt fun g s=>y g (Zh s),ZG,Zd (Nat.le_of_lt x)]
 have L:(h.length-k)*e=h.length*e-k*e:=Nat.sub_mul _ _ _;have T:k*e<=h.length*e:=Zb _ (Nat.le_of_lt x);have U:(List.replicate (h.length-k) d).flatten.length=(h.length-k)*e:=by simp_all
 have w:JF h.flatten (0+k*e) (List.replicate (h.length-k) d).flatten=(h.take k++List.replicate (h.length-k) d).flatten:=by
  have W:h.flatten.take (k*e)=(h.take k).flatten:=by
   conv=>lhs;rw[<-XW k h,XS]
   grind
  rw[JL,ZD,W,U,Xs (by omega),ZC,XS]
 have l:Kk (List.replicate (h.length-k) d).flatten=true:=okC.A fun g s=>by grind
 have n:∀j,slen j=some (h.length-k)->jQ j=some (.e r (0+k*e))->∀{R:V->St->Prop},(∀S',Ch (fun p=>p=r) S S'->SlF u S' v e (h.take k++List.replicate (h.length-k) d)->R Kj S')->wW (Jhu S e d j) S R:=fun j a b R K=>by
  unfold Jhu;rw[a];simp;rw[Xa (by omega),b];simp only;rw[Xd N];simp only[JO,q];rw[Xd ⟨by omega,l⟩,w];have Y:(h.take k++List.replicate (h.length-k) d).length=h.length:=by grind
  have c:Ch (fun p=>p=r) S (S.D r t fun i=>Row.a i (List.take k h++List.replicate (h.length-k) d).flatten):=(Ch.G _ M).J (Jb q) (by rw[q];rfl) (.inl rfl) (Jd _);refine K _ c ⟨fun g s=> ?_, .inr ⟨r,S.t,o,Jk _ _ _ _,by grind⟩⟩
  grind
 rcases P with rfl|rfl
 ·refine⟨.u r (0+k*e) (h.length-k) e,r,rfl,o,fun S'=> ?_,n _ rfl rfl⟩;simp[QV,YV,J7,QT]
  grind
 ·refine⟨.m r (0+k*e) (h.length-k) e (h.length-k),r,rfl,o,fun S'=> ?_,n _ rfl rfl⟩;simp[QV,YV,J7,QT]
  grind
def sizN :Nat->Nod->Nat
 |0,_=>0
 |d+1, .mk _ _ _ _ _ body els _ cases=>1+(body.map (sizN d)).sum+(els.map (sizN d)).sum+(cases.map fun c=>(c.2.map (sizN d)).sum).sum
def sizL (d:Nat)(l:List Nod):Nat:=(l.map (sizN d)).sum
structure EnvR (tb:Tb) (E:EnvS) (b:Nat):Prop where
 k:EnvK tb E
 v:E.a.length+b<100000
 n:E.b.length+b<100000
section
variable {tb tb' : Tb} {E : EnvS} {b b' : Nat}
theorem EnvR.A (h:EnvR tb E b)(k:tb.a.length<=tb'.a.length)(c:b'<=b):EnvR tb' E b':=⟨h.k.A k,by have:=h.v;omega,by have:=h.n;omega⟩
theorem EnvR.B (h:EnvR tb E b){id:Nat}(f:id<tb.a.length):EnvR tb (KJ E id) b:=by
 have g:(KJ E id).b.length<=E.b.length:=ZX _ _;exact⟨⟨f,h.k.b,fun x a=>h.k.c x ((Hf.1 a).1),h.k.e,by have:=h.k.d;omega⟩,h.v,by have:=h.n;omega⟩
theorem EnvR.F (h:EnvR tb E (b+1)){n:Str}{id:Nat}(i:id<tb.a.length)(j:n≠[]):EnvR tb (varS E n id) b:=by
 have l:=h.v;have g:=h.n;have e:(varS E n id).a.length=E.a.length+1:=by simp[varS]
 refine⟨⟨h.k.f,fun x a=> ?_,h.k.c,by omega,h.k.d⟩,by omega,by show E.b.length+b<_;omega⟩;rcases Xy.1 a with a|a
 ·exact h.k.b x a
 grind
theorem EnvR.D (h:EnvR tb E (b+1)){x:Int×List Str×Nat}(g: -1<=x.1/\x.2.1.length<100000/\x.2.2<tb.a.length):EnvR tb (KB E x) b:=by
 have i:=h.v;have d:=h.n;have e:(KB E x).b.length=E.b.length+1:=by simp[KB]
 refine⟨⟨h.k.f,h.k.b,fun y a=> ?_,h.k.e,by omega⟩,by show E.a.length+b<_;omega,by omega⟩;rcases Xy.1 a with a|a
 ·exact h.k.c y a
 grind
end
structure Qg (s:Sch) (tb:Tb) (cs:Cls) (b:Nat) (x:AnsR):Prop where
 c:OfF s x.1
 f:tb.a.length<=x.1.a.length
 d:x.2.1.length<=cs.length+b
section
variable {s : Sch} {tb : Tb} {cs : Cls} {b b' : Nat}
theorem Qg.A (h:OfF s tb)(e a:Int):Qg s tb cs b (tb,cs,e,a):=⟨h,Xb _,by simp⟩
theorem Qg.D {x:AnsR}{y:AnsR}(h:Qg s tb cs b x)(k:Qg s x.1 x.2.1 b' y):Qg s tb cs (b+b') y:=⟨k.c,by have:=h.f;have:=k.f;omega,by have:=h.d;have:=k.d;omega⟩
theorem Qg.B {x:AnsR}(h:Qg s tb cs b x)(k:b<=b'):Qg s tb cs b' x:=⟨h.c,h.f,by have:=h.d;omega⟩
end
def fitN (q:Pipe->Prop):Nat->Nod->Prop
 |0,_=>True
 |d+1, .mk k a _ name p body els _ cases=>q p/\(k=3->name≠[])/\(body.length<100000/\∀n∈body,fitN q d n)/\(els.length<100000/\∀n∈els,fitN q d n)/\(cases.length<100000/\∀c∈cases,c.2.length<100000/\∀n∈c.2,fitN q d n)
def fitL (q:Pipe->Prop)(d:Nat)(l:List Nod):Prop:=l.length<100000/\∀n∈l,fitN q d n
def RowF (s:Sch)(q:Pipe->Prop)(d:Nat)(row:Tb->Cls->EnvS->List Nod->AnsR):Prop:=∀tb cs E l,OfF s tb->EnvR tb E (sizL d l)->fitL q d l->Qg s tb cs (sizL d l) (row tb cs E l)
section
variable {s : Sch} {q : Pipe -> Prop} {d : Nat} {row : Tb -> Cls -> EnvS -> List Nod -> AnsR} (H : RowF s q d row)
include H
theorem Jnc {g:Cls}{i:EnvS}{b o:List Nod}(h:OfF s n)(p:EnvR n l (sizL d b))(r:EnvR n i (sizL d o))(t:fitL q d b)(u:fitL q d o):Qg s n g (sizL d b+sizL d o) (Qi row n g l b i o):=by
 have k:=H n g l b h p t;unfold Qi;generalize row n g l b=x at k;obtain⟨j,m,e,a⟩:=x;simp only;by_cases c:e=0
 ·rw[Xa (fun k=>k c)];exact k.D (H j m i o k.c (r.A k.f (Xb _)) u)
 ·rw[Xd c];exact k.B (by omega)
theorem JcY {E:EnvS}{nd:Nd}{b:Nat}:∀(l:List (Str×List Nod)) {tb:Tb} {cs:Cls} {was:List Nat},OfF s tb->(∀k∈nd.c,k<tb.a.length)->nd.c.length=nd.b.length->EnvR tb E b->(l.map fun c=>sizL d c.2).sum<=b->(∀c∈l,fitL q d c.2)->Qg s tb cs (l.map fun c=>sizL d c.2).sum (Q7 row E nd tb cs was l).1
 |[],tb,cs,was,h,_,_,_,_,_=>Qg.A h _ _
 | (t,m)::r,tb,cs,was,h,p,u,n,v,o=>by
   rw[Q7];simp only[XV,Gu]at v⊢
   cases N:fstN t nd.b with
   |none=>exact Qg.A h _ _
   | some i=>
     simp only;by_cases c:i∈was
     ·rw[Xd c];exact Qg.A h _ _
     rw[Xa c];have w:i<nd.c.length:=by
      have K:∀(l:List Str) {i:Nat},fstN t l=some i->i<l.length:=by
       intro l
       induction l with
       |nil=>intro i h;cases h
       | cons a r O=>
         intro i h;rw[fstN]at h;by_cases z:a=t
         ·grind
         ·rw[Xa z]at h
          cases P:fstN t r with
          |none=>grind
          |some j=>grind
      grind
     have g:nd.c.getD i 0<tb.a.length:=by simp_all
     have k:=H tb cs (KJ E (nd.c.getD i 0)) m h ((n.B g).A (Xb _) (by omega)) (o _ (Xu ..));generalize row tb cs (KJ E (nd.c.getD i 0)) m=x at k;obtain⟨L,M,e,a⟩:=x;simp only;by_cases z:e=0
     ·rw[Xa (fun k=>k z)];exact k.D (JcY r k.c (fun y a=>X6 (p y a) k.f) u (n.A k.f (Xb _)) (by omega) fun c a=>o c (Xl _ a))
     ·rw[Xd z];exact k.B (by omega)
set_option maxHeartbeats 2000000 in
theorem Jfv {names:List Str}(hq:∀p E v t,q p->Qf E p=some (v,t)->t.length<100000){j:Tb}{cs:Cls}{E:EnvS}{id:Nat}(h:OfF s j)(hid:id<j.a.length):∀{n:Nod},EnvR j E (sizN (d+1) n)->fitN q (d+1) n->Qg s j cs (sizN (d+1) n) (oneS row names j cs E id n)
 | .mk k a sx name p l m he cases,w,hf=>by
   obtain⟨_,_,_,_,o5,W⟩:=h.B hid;have hs:sizN (d+1) (.mk k a sx name p l m he cases)=1+sizL d l+sizL d m+(cases.map fun c=>sizL d c.2).sum:=rfl;obtain⟨f1,f2,O,N,f5⟩:=hf;have O:fitL q d l:=O;have N:fitL q d m:=N;rw[hs]at w⊢;generalize P:(cases.map fun c=>sizL d c.2).sum=X at w⊢;generalize hB:sizL d l=B at w⊢;generalize L:sizL d m=Z at w⊢;have two:∀Q,EnvR j Q B->Qg s j cs (1+B+Z+X) (Qi row j cs Q l E m):=fun Q h1=>(Jnc H h (by grind) (by rw[L];exact w.A (Xb _) (by omega)) O N).B (by omega);have x:=w.A (Xb _) (b':=B) (by omega);have Y:(Jg j id).c≠[]->(Jg j id).c.getD 0 0<j.a.length:=fun hk=>by
    cases hx:(Jg j id).c with
    |nil=>grind
    |cons c r=>exact W c (by grind)
   have kl:=o5.a;have M:(Jg j id).a=4\/(Jg j id).a=5\/(Jg j id).a=6->(Jg j id).c≠[]:=fun c e=>by
    rw[e,jE,Xd c]at kl
    grind
   unfold oneS;simp only;by_cases g:k=2
   ·rw[Xd g];exact Qg.A h _ _
   rw[Xa g];clear g;by_cases g:k=4
   ·rw[Xd g];exact Qg.A h _ _
   rw[Xa g];clear g;by_cases g:k=5
   ·rw[Xd g];clear g
    split
    ·rename_i c6
     cases o:Qf E p with
     |none=>grind
     | some y=>
       obtain⟨v,t⟩:=y;refine two _ ((w.A (Xb _) (b':=B+1) (by omega)).D ⟨?_,hq _ _ _ _ f1 o,Y (M (.inr (.inr c6)))⟩);unfold Qf at o
       split at o
       ·split at o
        ·cases K:KO E _ with
         |none=>rw[K]at o;cases o
         | some z=>
           rw[K]at o;injection o with o;injection o with o _;subst o;rcases kX K with e|⟨i,e,_⟩<;>(omega)
        grind
       grind
    ·split
     ·grind
     ·exact Qg.A h _ _
   rw[Xa g];clear g;by_cases g:k=6
   ·rw[Xd g];clear g;refine two _ (x.B ?_)
    grind
   rw[Xa g];clear g;by_cases g:k=7
   ·rw[Xd g];clear g
    split
    ·rename_i c6
     exact two _ (x.B (Y (M (by omega))))
    ·exact Qg.A h _ _
   rw[Xa g];clear g;by_cases g:k=8
   ·rw[Xd g];clear g
    split
    ·rename_i c8
     have S:(Jg j id).c.length=(Jg j id).b.length:=by
      rw[kl,jE,c8];rfl
     have u:=JcY H (E:=E) (nd:=Jg j id) cases (tb:=j) (cs:=cs) (was:=[]) h W S w (by omega) f5.2;rw[P]at u;generalize Q7 row E (Jg j id) j cs [] cases=y at u;obtain⟨⟨T,U,e,a'⟩,aa⟩:=y;simp only at u⊢
     split
     ·exact u.B (by omega)
     split
     ·exact Qg.B (b:=X) ⟨u.c,u.f,u.d⟩ (by omega)
     ·have kk:=u.D (H T U E m u.c (w.A u.f (by omega)) N)
      rw[L]at kk;exact kk.B (by omega)
    ·exact Qg.A h _ _
   rw[Xa g];clear g;by_cases g:k=9
   ·rw[Xd g];clear g
    split
    ·exact⟨h,Xb _,by grind⟩
    ·exact Qg.A h _ _
   ·rw[Xa g];exact Qg.A h _ _
end
section
variable {sg : Tb -> List Nat -> List Nat -> Nat × Int} {s : Sch} (hsg : SgOK sg s) {q : Pipe -> Prop}
include hsg
theorem Jcr {m:Nat}{E:EnvS}(h:OfF s n)(b:EnvK n E)(a:Nod):Fine s n (typS sg m E n a):=by
 unfold typS
 split
 ·exact JqQ hsg h b _
 ·exact Fine.D h fun _=>by have:=b.f;omega
omit hsg in
theorem Jpl {d:Nat}:∀(n:Nod),1<=sizN (d+1) n
 | .mk _ _ _ _ _ _ _ _ _=>by unfold sizN;omega
omit hsg in
theorem Jnd :∀{n:Nod},fitN q (e+1) n->n.k=3->n.A≠[]
 | .mk _ _ _ _ _ _ _ _ _,a,b=>a.2.1 b
omit hsg in
theorem Jfw {E:EnvS}{f:Nod}{id:Nat}(g:EnvR n E (sizN (e+1) f+j))(h:fitN q (e+1) f)(hid:id<n.a.length):EnvR n (if f.k=3 then varS E f.A id else E) j:=by
 have:=Jpl (d:=e) f
 split
 ·rename_i c
  exact(g.A (Xb _) (b':=j+1) (by omega)).F hid (Jnd h c)
 ·exact g.A (Xb _) (by omega)
theorem Jg4 {p:Tb->Cls->EnvS->Nat->Nod->AnsR}{m d:Nat}(M:∀i cs E id n,OfF s i->id<i.a.length->EnvR i E (sizN (d+1) n)->fitN q (d+1) n->Qg s i cs (sizN (d+1) n) (p i cs E id n)):∀(l:List Nod) {i:Tb} {cs:Cls} {E:EnvS},OfF s i->EnvR i E (sizL (d+1) l)->(∀n∈l,fitN q (d+1) n)->Qg s i cs (sizL (d+1) l) (Q8 sg p m i cs E l)
 |[],i,cs,E,h,_,_=>Qg.A h _ _
 | n::r,i,cs,E,h,w,N=>by
   have Q:sizL (d+1) (n::r)=sizN (d+1) n+sizL (d+1) r:=rfl;rw[Q]at w⊢;have z:=Jcr hsg (m:=m) h w.k n;have O:=N n (Xu ..);rw[Q8];generalize typS sg m E i n=x at z;obtain⟨j,id,e⟩:=x;have u:OfF s j:=z.b;have o:i.a.length<=j.a.length:=z.f;simp only;by_cases c:e=0;rotate_left
   ·rw[Xd c];exact⟨u,o,by simp⟩
   rw[Xa fun k=>k c];have hid:id<j.a.length:=z.g c;have t:=M j cs E id n u hid (w.A o (by omega)) O;generalize p j cs E id n=y at t;obtain⟨K,L,S,U⟩:=y;have v:j.a.length<=K.a.length:=t.f;simp only;by_cases P:S=0;rotate_left
   ·rw[Xd P];exact⟨t.c,by grind,by have:=t.d;grind⟩
   rw[Xa fun k=>k P];have T:=Jg4 (m:=m) M r (cs:=L) t.c (Jfw (w.A (X0 o v) (Xb _)) O (X6 hid v)) fun n a=>N n (Xl _ a);have:=t.D T;exact⟨this.c,X0 o this.f,this.d⟩
theorem Jcs {names:List Str}{m:Nat}(e:∀p E v a,q p->Qf E p=some (v,a)->a.length<100000):∀d,RowF s q d (rowS sg names m d)
 |0=>fun f g E l h _ _=>Qg.A h _ _
 |d+1=>fun f g E l h b c=>Jg4 hsg (fun f g E id n h hid b c=>Jfv (Jcs e d) e h hid b c) l h b c.2
end
abbrev Ch0 (S S':St):Prop:=Ch (fun _=>False) S S'
section
variable {S S' S'' : St} {U : Pt -> Prop} {w rt : Pt} {tb : Tb} {nv : V} {names : List Str} {cs : Cls} {a : Int}
theorem Ch0.s (c:Ch0 S S')(e:S.A N≠ .none):S'.A N=S.A N:=c.d N e fun h=>h
theorem Ch0.A (c:Ch0 S S'){p:Pt}(b:S.A p= .none)(a:Ch (fun r=>r=p) S' S''):Ch0 S S'':=Ch.A c a fun r e=> .inr (by grind)
theorem TabU.G (h:TabU S f rt tb)(c:Ch0 S S'):TabU S' f rt tb:=by
 obtain⟨_,⟨W,F,d,a⟩,b⟩:=h;exact⟨c.D,⟨W,F,d.A fun r u _=>c.s (b r (a r u)),a⟩,fun r u=>by rw[c.s (b r u)];grind⟩
theorem WkU.M (h:WkU S U w rt tb nv names cs a)(c:Ch0 S S'):WkU S' U w rt tb nv names cs a:=by
 obtain⟨k,l,t,m,n,f,g,o⟩:=h.i;exact⟨⟨k,l,t,m.G c,n,(c.s (Jb f)).trans f,g.B fun r e=>c.s (g.A e),o⟩,h.d,fun r u=>by rw[c.s (h.b r u)];exact h.b r u,h.j.D fun r p e=>⟨p,c.s e⟩⟩
theorem RunW.I (c:Ch0 S S'):RunW U S S' U:=⟨c.F fun r h=>h.elim,fun r w=> .inl w⟩
end
theorem JjI {E:EnvS}:∀{p:Pipe} {v:Int} {b:List Str},Qf E p=some (v,b)-> -1<=v:=fun{p v b} a=>by
 unfold Qf at a
 split at a
 ·split at a
  ·cases c:KO E _ with
   |none=>rw[c]at a;cases a
   | some z=>
     rw[c]at a;injection a with a;injection a with a _;subst a;rcases kX c with e|⟨i,e,_⟩<;>omega
  grind
 grind
theorem Jfx :∀{l m:List Nat},l.Nodup->(∀x∈l,x∈m)->l.length<=m.length
 |[],m,_,_=>XC _
 | x::r,m,h,k=>by
   obtain⟨a,b⟩:=ZJ.1 h;have d:=k x (Xu ..);have f:=Jfx (l:=r) (m:=m.erase x) b fun y c=>(Hh fun e=>a (by grind)).2 (k y (Xl _ c))
   grind
def wasB (n:Nat)(was:List Nat):List Bool:=(List.range n).map fun i=>decide (i∈was)
theorem ql (n:Nat)(a:List Nat):(wasB n a).length=n:=by simp[wasB]
theorem JhM (h:j<(wasB e O).length):(wasB e O)[j]=decide (j∈O):=by simp[wasB]
theorem Jpm (n:Nat):wasB n []=List.replicate n false:=by
 refine ZP (by simp[wasB]) fun i a b=>by simp[wasB]
theorem Jpn :(wasB e O).set j true=wasB e (j::O):=by
 refine ZP (by simp[wasB]) fun k a b=> ?_;rw[List.getElem_set,JhM,JhM]
 grind
theorem JkQ (f:O.Nodup)(j:∀i∈O,i<e):decide (false∈wasB e O)=decide (O.length<e):=by
 have a:false∈wasB e O<->O.length<e:=by
  constructor
  ·intro h;obtain⟨i,c,h⟩:=XA.1 h;have c:=Zm.1 c;have h:i∉O:=Hr h;have:=Jfx (l:=i::O) (m:=List.range e) (ZJ.2 ⟨h,f⟩) fun y d=>by grind
   grind
  ·intro h;refine Xf fun g=> ?_;have:=Jfx (l:=List.range e) (m:=O) HD fun y d=>Xf fun b=>g (XA.2 ⟨y,d,Xq b⟩)
   grind
 grind
theorem Jd1 {t:Str}:∀{l:List Str} {i:Nat},fstN t l=some i->i<l.length
 |[],i,h=>by cases h
 | a::r,i,h=>by
   rw[fstN]at h;by_cases z:a=t
   ·grind
   ·rw[Xa z]at h
    cases b:fstN t r with
    |none=>grind
    |some j=>rw[b]at h;injection h with h;subst h;have:=Jd1 b;grind
end Eva
namespace Eva
variable {e j:Nat}{n:Tb}{t:List V}{f:Pt->Prop}{l:EnvS}{h:List (List V)}{g:List Str}{m:Int}{u:St}{x:Sch}{N:Pt}{O:List Nat}{X:V->St->Prop}{Y:Str}
theorem JhN {was:List Nat}(h:j<e):JF (((wasB e was).map V.h).map fun x=>[x]).flatten j [V.h true]=(((wasB e (j::was)).map V.h).map fun x=>[x]).flatten:=by
 have b:∀l:List V,(l.map fun x=>[x]).flatten=l:=fun l=>by
  induction l with
  |nil=>rfl
  |cons a r d=>grind
 rw[b,b,<-Jpn,List.map_set,JL];have c:j<((wasB e was).map V.h).length:=by rw[XU,ql];exact h
 rw[List.set_eq_take_append_cons_drop,Xd c];simp
end Eva
namespace Eva
open Go Go.RowKit
variable {e j:Nat}{n:Tb}{t:List V}{f:Pt->Prop}{l:EnvS}{h:List (List V)}{g:List Str}{m:Int}{u:St}{x:Sch}{N:Pt}{O:List Nat}{X:V->St->Prop}{Y:Str}{o:Program}
theorem WkU.I {k:St}{m:Pt}{l:V}{names:List Str}{o:Cls}{a:Int}{p:Pt}(h:WkU u f N m n l names o a)(c:Ch (fun r=>r=p) u k)(y:¬f p)(z:SlAt (fun r=>¬f r) k l 1 (strs names)):WkU k f N m n l names o a:=by
 obtain⟨L,O,t,P,q,Q,T,v⟩:=h.i;have s:∀r,f r->k.A r=u.A r:=fun r g=>c.d r (h.b r g) fun e=>y (by grind);obtain⟨_,⟨W,F,X,x⟩,Y⟩:=P;exact⟨⟨L,O,t,⟨c.D,⟨W,F,X.A fun r g _=>s r (q r (x r g)).1,x⟩,fun r g=>by grind⟩,q,(s N h.d).trans Q,T.B fun r e=>s r (v r e).1,v⟩,h.d,fun r g=>by rw[s r g];exact h.b r g,z⟩
end Eva
namespace Eva
variable {e j:Nat}{n:Tb}{t:List V}{f:Pt->Prop}{l:EnvS}{h:List (List V)}{g:List Str}{m:Int}{u:St}{x:Sch}{N:Pt}{O:List Nat}{X:V->St->Prop}{Y:Str}
theorem JkR {α:Type}(f:α->Nat):∀{l:List α} {c:α},c∈l->f c<=(l.map f).sum
 | x::r,c,h=>by
   rw[XV,Gu];rcases Xw.1 h with h|h
   ·grind
   ·have:=JkR f h;omega
end Eva
namespace Eva
open Go Go.RowKit
variable {e j:Nat}{n:Tb}{t:List V}{f:Pt->Prop}{l:EnvS}{h:List (List V)}{g:List Str}{m:Int}{u:St}{x:Sch}{N:Pt}{O:List Nat}{X:V->St->Prop}{Y:Str}{o:Program}
open Classical in
def Tr.I :(Pt->Prop)->Tr->Tr
 |_, .e=> .e
 |P, .n v a b c d=> .n (if P .h then v else .none) (Tr.I (fun p=>P (.a p)) a) (Tr.I (fun p=>P (.b p)) b) (Tr.I (fun p=>P (.c p)) c) (Tr.I (fun p=>P (.d p)) d)
open Classical in
theorem Jaz :∀(t:Tr) (P:Pt->Prop) (p:Pt),(t.I P).A p=if P p then t.A p else .none
 | .e,P,p=>by
   rw[Tr.I];have:Tr.A p .e= .none:=by cases p<;>rfl
   rw[this,ite_self]
 | .n v a b c d,P,p=>by
   rw[Tr.I]
   cases p with
   |h=>rfl
   |a p=>exact Jaz a _ p
   |b p=>exact Jaz b _ p
   |c p=>exact Jaz c _ p
   |d p=>exact Jaz d _ p
def bs (T:Pt->Prop)(S:St):St:=⟨S.h.I T, .h,0,S.a+1⟩
section
variable {T T' : Pt -> Prop} {S S' Sb : St} {r : Pt}
open Classical in
theorem JkS (T:Pt->Prop)(S:St)(r:Pt):(bs T S).A r=if T r then S.A r else .none:=Jaz S.h T r
theorem JbD (h:¬T r):(bs T S).A r= .none:=by rw[JkS,Xa h]
theorem JdH (h:T r):(bs T S).A r=S.A r:=by rw[JkS,Xd h]
theorem Jbe (h:(bs T S).A r≠ .none):T r/\S.A r≠ .none:=by
 rw[JkS]at h
 grind
theorem Jpo (w:WF S):Gr (bs T S) S:=by
 have e:∀r,(bs T S).A r≠ .none->S.A r=(bs T S).A r:=fun r h=>(JdH (Jbe h).1).symm;refine⟨⟨w,XC _,XC _,fun r h=>⟨XC _,fun c=>h ?_⟩,Nat.le_succ _,fun r h k=>absurd (e r h) k,fun _ _ _=>XC _⟩,e,fun h=>absurd h (Nat.not_succ_le_zero _)⟩
 grind
theorem SlF.F {v:V}{b:List (List V)}{c:St}(h:SlF u S v e b)(k:∀r,rowOf v=Option.some r->c.A r= .none/\S'.A r=S.A r):SlF c S' v e b:=by
 refine⟨h.1, ?_⟩;rcases h.2 with a|⟨r,t,f,g,d⟩
 ·grind
 ·have:=k r (by rcases d with rfl|rfl<;>rfl)
  grind
theorem RT.B {u v:V}{O:Pt->Prop}{k:List Nd}{n:List Ty}(h:RT Sb S N u v t O k n)(w:WF S')(y:∀r,Sb.A r≠ .none->T r)(s:∀r,Bt N u v O r->¬T r/\S'.A r=S.A r)(x:∀r,Sb.A r≠ .none->S'.A r=S.A r):RT (bs T S') S' N u v t O k n:=by
 obtain⟨z,l1,l2,l3⟩:=h.l;obtain⟨K,t1,t2,t3⟩:=h.t;obtain⟨g,c⟩:=h.d;refine⟨Jpo w,JbD (s N (.inl rfl)).1,⟨g,by rw[(s N (.inl rfl)).2,c]⟩,⟨z,l1.F fun r e=>⟨JbD (s r (.inr (.inl e))).1,(s r (.inr (.inl e))).2⟩,l2,fun i a b=>(l3 i a b).A fun r p _=>⟨p,(s r (.inr (.inr (.inr p)))).2⟩⟩,⟨K,t1.F fun r e=>⟨JbD (s r (.inr (.inr (.inl e)))).1,(s r (.inr (.inr (.inl e)))).2⟩,t2,fun i a b=>(t3 i a b).A fun r p q=>⟨?_,x r p⟩⟩,h.f,h.j,fun r p=> ?_⟩
 ·rw[JdH (y r p),x r p];exact q
 ·obtain⟨a,b⟩:=h.o r p;have e:=s r (.inr (.inr (.inr p)));exact⟨by grind,JbD e.1,b.2⟩
end
end Eva
namespace Eva
open Go Go.RowKit
variable {e j:Nat}{n:Tb}{t:List V}{f:Pt->Prop}{l:EnvS}{h:List (List V)}{g:List Str}{m:Int}{u:St}{x:Sch}{N:Pt}{O:List Nat}{X:V->St->Prop}{Y:Str}{o:Program}
def docO :Nat->Opn->Prop
 |0,_=>True
 |d+1, .mk k _ _ _ _ _ p=>k=5->p≠[]/\∀c∈p,c≠[]/\(∀o∈c,docO d o)/\∀o∈c.tail,o.k≠6
def docP (d:Nat)(p:Pipe):Prop:=p≠[]/\∀c∈p,c≠[]/\(∀o∈c,docO d o)/\∀o∈c.tail,o.k≠6
theorem JjJ (n:Str):∀(l:List Str) (k:Nat),idxN n l k=(fstN n l).map (·+k)
 |[],k=>rfl
 | a::r,k=>by
   rw[idxN,fstN,JjJ n r];by_cases h:n=a
   ·grind
   ·rw[Xa h,Xa fun e=>h e.symm,Hi];congr 1
    grind
def narB (v:Int)(path:List Str)(n:Nat)(a:Nat×Nat)(x:Int×List Str×Nat):Nat×Nat:=if x.1=v/\a.2<=x.2.1.length/\x.2.1.length<n/\x.2.1=path.take x.2.1.length then(x.2.2,x.2.1.length)else a
def narE (v:Int)(path:List Str)(n:Nat)(a:Nat×Nat)(x:Int×List Str×Nat):Nat×Nat:=if x.1=v/\x.2.1=path.take n/\x.2.1.length=n then(x.2.2,n)else a
theorem Jmz (v:Int)(a:List Str)(n:Nat):∀l:List (Int×List Str×Nat),(∀C,l.foldl (narE v a n) C=C)\/∃K:Nat×Nat,K.2=n/\∀C,l.foldl (narE v a n) C=K
 |[]=> .inl fun C=>rfl
 | x::r=>by
   rcases Jmz v a n r with h|⟨K,b,d⟩
   ·by_cases c:x.1=v/\x.2.1=a.take n/\x.2.1.length=n
    ·exact .inr ⟨(x.2.2,n),rfl,fun C=>by rw[Zr,h,narE,Xd c]⟩
    ·exact .inl fun C=>by rw[Zr,h,narE,Xa c]
   grind
theorem JmA {v:Int}{path:List Str}{n:Nat}:∀{l:List (Int×List Str×Nat)} {a:Nat×Nat},a.2<=n->(l.foldl (narB v path (n+1)) a).2<=n
 |[],a,h=>h
 | x::r,a,h=>by
   rw[Zr];refine JmA ?_;unfold narB
   grind
theorem Jpp {a:Nat×Nat}(o:a.2<=e):∀k (l:List (Int×List Str×Nat)),l.length=k->l.foldl (narB m g (e+1)) a=l.foldl (narE m g e) (l.foldl (narB m g e) a):=by
 intro k
 induction k with
 |zero=>simp
 | succ k b=>
   intro l h;obtain⟨l,x,rfl⟩:∃p x,l=p++[x]:=⟨l.dropLast,l.getLast (by grind),(List.dropLast_concat_getLast _).symm⟩
   have h:l.length=k:=by grind
   have b:=b l h;have f:=JmA (v:=m) (path:=g) (l:=l) o;rw[b]at f;simp[b];generalize q:l.foldl (narB m g e) a=A at f;by_cases c:x.1=m/\x.2.1=g.take x.2.1.length;rotate_left
   ·have r:∀V,narB m g (e+1) V x=V:=fun V=>Xa fun h=>c ⟨h.1,h.2.2.2⟩;have s:narB m g e A x=A:=Xa fun h=>c ⟨h.1,h.2.2.2⟩;have d:∀V,narE m g e V x=V:=fun V=>Xa fun h=>c ⟨h.1,by grind⟩
    grind
   by_cases i:x.2.1.length=e
   ·have d:∀V,narE m g e V x=(x.2.2,e):=fun V=>Xd ⟨c.1,by grind,i⟩;rw[d];unfold narB
    grind
   ·have d:∀V,narE m g e V x=V:=fun V=>Xa fun h=>i h.2.2;rw[d];rcases Jmz m g e l with h|⟨K,t,j⟩
    ·rw[h,h];unfold narB
     grind
    ·rw[j,j];unfold narB
     grind
theorem Jfy {v:Int}{b:List Str}{a:Nat×Nat}:∀l:List (Int×List Str×Nat),l.foldl (narB v b 0) a=a
 |[]=>rfl
 | x::r=>by
   rw[Zr];have:narB v b 0 a x=a:=Xa fun h=>absurd h.2.2.1 (XO _);rw[this,Jfy r]
theorem JqT :narB m g (g.length+1)=narS m g:=by
 funext a x;unfold narB narS
 grind
end Eva
namespace Eva
variable {e j:Nat}{n:Tb}{t:List V}{f:Pt->Prop}{l:EnvS}{h:List (List V)}{g:List Str}{m:Int}{u:St}{x:Sch}{N:Pt}{O:List Nat}{X:V->St->Prop}{Y:Str}
def QK (E:EnvS)(n:Str):Int:=match KO E n with
 |some z=>z
 |none=> -2
theorem Jfz (n:Str)(x:Str×Nat):∀l:List (Str×Nat),QJ (l++[x]) n=if x.1=n then some l.length else QJ l n
 |[]=>by rfl
 | y::r=>by
   rw[X4,QJ,Jfz n x r,QJ]
   grind
end Eva
namespace Eva
open Go Go.RowKit
variable {e j:Nat}{n:Tb}{t:List V}{f:Pt->Prop}{l:EnvS}{h:List (List V)}{g:List Str}{m:Int}{u:St}{x:Sch}{N:Pt}{O:List Nat}{X:V->St->Prop}{Y:Str}{o:Program}
def docN (m:Nat):Nat->Nod->Prop
 |0,_=>True
 |d+1, .mk k a _ _ p body els _ cases=>0<=a/\(p=[]->k=1\/k=9)/\(k=1->p=[])/\(p≠[]->docP m p)/\(k=8->body=[])/\(∀n∈body,docN m d n)/\(∀n∈els,docN m d n)/\∀c∈cases,∀n∈c.2,docN m d n
def docL (m d:Nat)(l:List Nod):Prop:=∀n∈l,docN m d n
def fixA (a:Int)(x:AnsR):AnsR:=(x.1,x.2.1,x.2.2.1,if x.2.2.2<0 then a else x.2.2.2)
theorem JsK :∀{n:Nod},docN e (j+1) n->0<=n.a
 | .mk _ _ _ _ _ _ _ _ _,h=>h.1
section
variable {sg : Tb -> List Nat -> List Nat -> Nat × Int}
theorem JmB {a:Tb->Cls->EnvS->Nat->Nod->AnsR}{m d:Nat}:∀(l:List Nod) {b:Tb} {f:Cls} {E:EnvS},docL m (d+1) l->(Q8 sg a m b f E l).2.2.1≠0->0<=(Q8 sg a m b f E l).2.2.2
 |[],_,_,_,_,h=>absurd rfl h
 | n::r,b,f,E,i,h=>by
   have t:=JsK (i n (Xu ..));rw[Q8]at h⊢;generalize typS sg m E b n=x at h⊢;obtain⟨g,id,e⟩:=x;simp only at h⊢;by_cases c:e=0;rotate_left
   ·grind
   rw[Xa fun k=>k c]at h⊢;generalize a g f E id n=y at h⊢;obtain⟨j,o,p,u⟩:=y;simp only at h⊢;by_cases q:p=0;rotate_left
   ·grind
   rw[Xa fun k=>k q]at h⊢;exact JmB r (fun n s=>i n (Xl _ s)) h
def RowA (m d:Nat)(row:Tb->Cls->EnvS->List Nod->AnsR):Prop:=∀tb cs E l,docL m d l->(row tb cs E l).2.2.1≠0->0<=(row tb cs E l).2.2.2
theorem JsL {names:List Str}:∀d,RowA e d (rowS sg names e d)
 |0=>fun _ _ _ _ _ h=>absurd rfl h
 |d+1=>fun _ _ _ l a h=>JmB l a h
end
theorem JjK {x:AnsR}(h:0<=x.2.2.2):fixA m x=x:=by
 unfold fixA
 grind
theorem JfA {t:Str}:∀{l:List Str} {i:Nat},fstN t l=some i->l[i]? =some t
 |[],_,h=>by cases h
 | a::r,i,h=>by
   rw[fstN]at h;by_cases z:a=t
   ·grind
   ·rw[Xa z]at h
    cases b:fstN t r with
    |none=>grind
    |some j=>rw[b]at h;injection h with h;subst h;simpa using JfA b
def KY (row:Tb->Cls->EnvS->List Nod->AnsR)(E:EnvS)(nd:Nd)(he:Bool)(tb:Tb)(cs:Cls)(cases:List (Str×List Nod)):AnsR:=match Q7 row E nd tb cs [] cases with
 |((tb,cs,e,a),was)=>if e≠0 then(tb,cs,e,a)else if was.length<nd.b.length/\he=false then(tb,cs,19,-1)else(tb,cs,0,-1)
def kj (sg:Tb->List Nat->List Nat->Nat×Int)(one:Tb->Cls->EnvS->Nat->Nod->AnsR)(m:Nat)(tb:Tb)(cs:Cls)(E:EnvS)(n:Nod):AnsR×EnvS:=match typS sg m E tb n with
 | (tb,id,e)=>if e≠0 then((tb,cs,e,n.a),E)else match one tb cs E id n with
   |(tb,cs,e,a)=>if e≠0 then((tb,cs,e,if a<0 then n.a else a),E)else((tb,cs,0,-1),if n.k=3 then varS E n.A id else E)
theorem Jne (b:Tb->List Nat->List Nat->Nat×Int)(a:Tb->Cls->EnvS->Nat->Nod->AnsR)(m:Nat)(c:Tb)(d:Cls)(E:EnvS)(n:Nod)(r:List Nod):Q8 b a m c d E (n::r)=if(kj b a m c d E n).1.2.2.1≠0 then(kj b a m c d E n).1 else Q8 b a m (kj b a m c d E n).1.1 (kj b a m c d E n).1.2.1 (kj b a m c d E n).2 r:=by
 rw[Q8];unfold kj
 grind
def jF (P:Pt->Prop)(st:St)(e:List V)(c:Opn×Nat):Prop:=∃e1,e=e1++[.d .i64 (c.2:Nat)]/\OprC P st 1 e1 c.1
theorem jF.A {P Q:Pt->Prop}{st st':St}{e:List V}{c:Opn×Nat}(h:jF P st e c)(k:∀r,P r->st.A r≠ .none->Q r/\st'.A r=st.A r):jF Q st' e c:=by
 obtain⟨a,b,d⟩:=h;exact⟨a,b,OprC.A k d⟩
structure jo (tb:Tb) (E:EnvS) (c:Opn×Nat):Prop where
 k:c.1.k=1
 a:c.2<tb.a.length
 d:∃v,KO E (match c.1 with| .mk _ var _ _ _ _ _=>var)=some v
 b:(match c.1 with| .mk _ _ path _ _ _ _=>path).length<90000
 e:(match c.1 with| .mk _ _ _ _ _ _ p=>p)=[]
end Eva
namespace Eva
variable {e j:Nat}{n:Tb}{t:List V}{f:Pt->Prop}{l:EnvS}{h:List (List V)}{g:List Str}{m:Int}{u:St}{x:Sch}{N:Pt}{O:List Nat}{X:V->St->Prop}{Y:Str}
theorem JdI {a:Tb}:∀(l:List Str) (id:Nat),(Yw a id l).2≠0->(Yw a id l).1=0
 |[],_,h=>absurd rfl h
 | n::r,id,h=>by
   rw[Yw]at h⊢
   split at h
   ·exact JdI r _ h
   ·rfl
theorem JkT {E:EnvS}(h:(Qq n E Y g).2≠0):(Qq n E Y g).1=0:=by
 unfold Qq at h⊢
 split
 ·rfl
 ·rename_i e
  rw[e]at h;exact JdI _ _ h
end Eva
namespace Eva
open Go Go.RowKit
variable {e j:Nat}{n:Tb}{t:List V}{f:Pt->Prop}{l:EnvS}{h:List (List V)}{g:List Str}{m:Int}{u:St}{x:Sch}{N:Pt}{O:List Nat}{X:V->St->Prop}{Y:Str}{o:Program}
def sz10 :R10->Nat
 | .mk _ _ _ ks=>1+(ks.map sz10).sum
def KM (l:List R10):Nat:=(l.map sz10).sum
theorem JhO (k n:Int)(w:R9)(a:List R10):sz10 (.mk k n w a)=1+KM a:=by rw[sz10,KM]
theorem JcZ (a b:List R10):KM (a++b)=KM a+KM b:=by simp[KM]
theorem JkU (a:R10)(b:List R10):KM (a::b)=sz10 a+KM b:=rfl
theorem Jad {l:List R10}{i:Nat}(h:i<l.length):KM (l.take (i+1))=KM (l.take i)+sz10 l[i]:=by
 rw[XD h,JcZ,JkU];simp[KM]
theorem JfR (l:List R10)(i:Nat):KM (l.take i)<=KM l:=by
 have:=JcZ (l.take i) (l.drop i);rw[XW]at this;omega
abbrev few4 (ns:List Str):Prop:=ns.length<=4
theorem JkV (n:Str):∀l:List Str,(l.take (KR n l)).length+(l.drop (KR n l)).length=l.length:=fun l=>by grind
theorem Jpq {t x:Ty}{m:Str}(g:t.D.length<=e/\QI few4 t.G)(h:noNm few4 x):(putS t m x).D.length<=e+1/\QI few4 (putS t m x).G:=by
 unfold putS
 split
 ·grind
 obtain⟨k,j,c,i⟩:=t;obtain⟨f,d⟩:=g;have f:c.length<=e:=f;have d:QI few4 i:=d;refine⟨?_,Jfl fun y a=> ?_⟩
 ·have:=JkV m c;show(c.take (KR m c)++m::c.drop (KR m c)).length<=e+1
  grind
 ·rcases Xy.1 a with a|a
  ·exact JcW d y (Zh a)
  ·rcases Xw.1 a with rfl|a
   ·exact h
   ·exact JcW d y (ZZ a)
theorem Jg5 {f:Nat->Str}{g:Nat->Ty}(a:∀i,noNm few4 (g i)):∀(l:List Nat) (t:Ty) (b:Nat),(t.D.length<=b/\QI few4 t.G)->((l.foldl (fun t i=>putS t (f i) (g i)) t).D.length<=b+l.length/\QI few4 (l.foldl (fun t i=>putS t (f i) (g i)) t).G)
 |[],t,b,h=>h
 | i::r,t,b,h=>by
   have k:=Jg5 (f:=f) a r _ (b+1) (Jpq (m:=f i) h (a i))
   grind
theorem Jc0 (a:List Str):∀(d:Nat) (r:Rw),noNm few4 (JK a d r)
 |0,r=>by rw[JK];exact JaT.2 ⟨by simp,by rw[QI];trivial⟩
 | d+1,r=>by
   have z:∀(k:Int) (m:Str),noNm few4 (.mk k m [] []):=fun k m=>JaT.2 ⟨by simp,by rw[QI];trivial⟩;have b:=fun r=>Jc0 a d r;rw[JK]
   split
   ·grind
   split
   ·split
    ·grind
    ·exact JaT.2 ⟨by simp,Jfl fun t e=>by grind⟩
   split
   ·have:=Jg5 (f:=nameAt r) (g:=fun i=>JK a d (kidS r i)) (fun i=>b _) (List.range (Jbx (QW a (d+1) r) r)) (.mk (QW a (d+1) r) [] [] []) 0 ⟨Xb _,by show QI few4 [];rw[QI];trivial⟩;have j:Jbx (QW a (d+1) r) r<=4:=by unfold Jbx;grind
    rw[List.length_range]at this;generalize (List.range (Jbx (QW a (d+1) r) r)).foldl _ _=T at*;obtain⟨k,l,c,n⟩:=T;exact JaT.2 ⟨by have h:c.length<=0+Jbx (QW a (d+1) r) r:=this.1;omega,this.2⟩
   grind
theorem JsM {q:Rw}{d:List Rw}(h:newS (jD q d [])=(some n,m)):∀f∈n.a,f.b.length<=4:=by
 refine Jo9 (Q:=few4) rfl h (Jc0 _ _ _) fun p c=> ?_;unfold jD typesOf at c;obtain⟨x,_,rfl⟩:=XA.1 c;exact Jc0 _ _ _
section
variable {S S' : St} {W Z : Pt -> Prop} {rt : Pt} {tb : Tb}
theorem TabZ.B (h:TabZ S W Z rt tb)(id:Nat):∃t g a b c,S.A rt= .a t [g, .q a, .q b, .d .i64 tb.b, .q c]/\TabZ (S.D rt t fun u=> .a u [g, .q a, .q b, .d .i64 id, .q c]) W Z rt {tb with b:=id}/\Kept S W (S.D rt t fun u=> .a u [g, .q a, .q b, .d .i64 id, .q c]) W:=by
 obtain⟨m,F,h,hF⟩:=h;obtain⟨t,l,e,_,n⟩:=Tab.D h id;obtain⟨g,i,j,k,v,x,h⟩:=h;obtain⟨y,c⟩:=h.s;rw[e]at c;injection c with o r;subst o;subst r;refine⟨t,g,i,j,k,e,⟨?_,F,n,hF⟩,Kept.G h.w.1⟩;exact((Ch.G W m).J (p:=rt) (t:=t) (f:=fun u=> .a u [g, .q i, .q j, .d .i64 id, .q k]) (Jb e) (by rw[e];rfl) (.inl h.w.1) (Jd _)).D
theorem TabZ.A (h:TabZ S W Z rt tb)(n:Str)(id:Nat):∃t x a b c,S.A rt= .a t [x, .q a, .q b, .d .i64 tb.b, .q c]/\∃j z,(∀S':St,S'.A b=S.A b->Jf6 S' (.a .s) (.q b) (ofL n) (.d .i64 id)=some (Kj, .d b j fun u=> .b u z))/\TabZ (S.D b j fun u=> .b u z) W Z rt {tb with c:=setI n id tb.c}/\Kept S W (S.D b j fun u=> .b u z) W:=by
 obtain⟨O,F,⟨x,K,g,M,P,Q,h⟩,hF⟩:=h;obtain⟨t,c⟩:=h.s;obtain⟨j,N⟩:=h.o;have m:=fun(S':St) (T:S'.A g=S.A g)=>JaK (enc:=ofL) (e:= .a .s) (T.trans N) n (.d .i64 (id:Int)) (YR n _) rfl;rw[Je5]at m;have f:∀r,r≠g->(S.D g j fun u=> .b u (((setI n id tb.c).map fun p=>(p.1,V.d .i64 (p.2:Int))).map fun p=>(ofL p.1,p.2))).A r=S.A r:=fun r e=>Ji _ _ _ e;have U:rt≠g:=fun e=>by grind
 refine⟨t,x,K,g,M,c,j,_,m,⟨?_,F,⟨x,K,g,M,P,Q,{h with s:=⟨t,by grind⟩,u:=fun r w=> ?_,l:= ?_,H:=fun i a b=>(h.H i a b).A fun r p e=>⟨p,f r fun k=>h.L r p (by rw[k];exact h.w.2.2.1)⟩,y:=h.y.B (f K h.G.1),o:=⟨_,Jk _ _ _ _⟩,v:=h.v.B (f M fun e=>h.G.2.2 e.symm),A:=fun i a b=>⟨(h.A i a b).1,(h.A i a b).2.D fun r p e=>⟨p,f r fun k=>h.L r p (by rw[k];exact h.w.2.2.1)⟩⟩}⟩,hF⟩,Kept.G h.w.2.2.1⟩
 ·exact((Ch.G W O).J (p:=g) (t:=j) (by grind) (by rw[N];rfl) (.inl h.w.2.2.1) (Q4 _)).D
 ·by_cases e:r=g
  ·rw[e,Jk];simp
  ·rw[f r e];exact h.u r w
 ·exact h.l.D fun r t _ n e=>f r fun k=>by grind
end
def NewY (st:St)(v:V)(S:St)(r:Option Tb×Int):Prop:=match r.1 with
 |none=>v= .p [.s, .d .i64 r.2]
 |some tb=>∃rt U,v= .p [.e rt 0, .d .i64 0]/\TabU S U rt tb/\∀r,U r->st.A r= .none
section
variable (P : Program)
def Ka :Value->V
 | .bool b=> .h b
 | .int k n=> .d k n
 | .string s=>ofL s.data.toList
 | .slice _ _ _=> .g
 | .map _=> .w
 | .nilFunc=> .x
 | .float _ _=> .s
 | .complex _ _ _=> .s
 | .pointer _=> .s
 | .chan _=> .s
 | .func _ _ _=> .s
 | .iface _ _=> .s
 | .nilIface=> .s
 | .agg _=> .s
 | .tuple _=> .s
def JdJ :List Value->List V
 |[]=>[]
 |a::r=>Ka a::JdJ r
def Kn :Value->V
 | .agg cs=> .j (JdJ cs.toList)
 | .tuple cs=> .p (JdJ cs.toList)
 | .bool b=> .h b
 | .int k n=> .d k n
 | .string s=>ofL s.data.toList
 | .slice _ _ _=> .g
 | .map _=> .w
 | .nilFunc=> .x
 | .float _ _=> .s
 | .complex _ _ _=> .s
 | .pointer _=> .s
 | .chan _=> .s
 | .func _ _ _=> .s
 | .iface _ _=> .s
 | .nilIface=> .s
def JH :Operand->Opd
 | .tmp t=> .s t
 | .const v=> .c (Kn v)
 | .func f=> .c (.D f [] [])
 | .global _=> .c .y
def jN :List Operand->List Opd
 |[]=>[]
 |a::r=>JH a::jN r
def Y8 :Option Operand->Option Opd
 |none=>none
 |some x=>some (JH x)
def Y4 (t:TypeId):Nat:=match P.info? t with
 |some i=>i.size
 |none=>0
def JaA :Option Value->List V
 |some v=>JdJ v.cells.toList
 |none=>[]
def JfB (t:TypeId):List V:=match P.info? t with
 |some i=>JaA i.zero
 |none=>[]
def JjL :Option Value->V
 |some v=>Kn v
 |none=> .y
def c0ZS (t:TypeId):V:=match P.info? t with
 |some i=>JjL i.zero
 |none=> .y
def QX (t:TypeId):TypeDesc:=match P.info? t with
 | some i=>match i.desc with
   | .named _ u=>match P.info? u with
     |some j=>j.desc
     |none=> .bool
   |d=>d
 |none=> .bool
def JfC (t:TypeId):Bool:=match QX P t with
 | .struct _=>true
 | .array _ _=>true
 |_=>false
def JbE {α:Type}:List α->List α->List α
 |[],k=>k
 |a::r,k=>a::JbE r k
def Jc1 (g:TypeId->List KD):List Field->List KD
 |[]=>[]
 |f::r=>JbE (g f.type) (Jc1 g r)
def Jc2 :Nat->List KD->List KD
 |0,_=>[]
 |n+1,l=>JbE l (Jc2 n l)
def JjM :Nat->TypeId->List KD
 |0,_=>[]
 | d+1,t=>match QX P t with
   | .bool=>[.b]
   | .int _=>[.i]
   | .string=>[.s]
   | .struct fs=>Jc1 (JjM d) fs.toList
   | .array n e=>Jc2 n (JjM d e)
   |_=>[]
def JfD (t:TypeId):EK:=match QX P t with
 | .bool=> .a .b
 | .int _=> .a .i
 | .string=> .a .s
 | .pointer _=> .a .p
 | .slice _=> .a .l
 | .map _ _=> .a .m
 | .func _ _ _=> .a .f
 |_=> .b (JjM P 8 t)
def YM :List Field->Nat->Field
 |[],_=>default
 |a::_,0=>a
 |_::r,n+1=>YM r n
def Jc3 (fs:List Field):List (Nat×Operand)->List (Nat×Nat×Opd)
 |[]=>[]
 |p::r=>((YM fs p.1).offset,Y4 P (YM fs p.1).type,JH p.2)::Jc3 fs r
def JbF (z:Nat):List (Nat×Operand)->List (Nat×Nat×Opd)
 |[]=>[]
 |p::r=>(p.1*z,z,JH p.2)::JbF z r
def Jc4 {α:Type}:List α->List α->List α
 |[],k=>k
 |a::r,k=>a::Jc4 r k
def Jc5 :Nat->List V->List V
 |0,_=>[]
 |n+1,l=>Jc4 l (Jc5 n l)
def qR (b:Builtin)(ts:List TypeId)(xs:List Opd):Iop:=match b,ts,xs with
 | .len,t::_,[x]=>match QX P t with
   | .string=> .I x
   |_=> .w x
 | .append,t::_,[s,x]=>match QX P t with
   | .slice e=> .app (Y4 P e) s x
   |_=> .g
 | .copy,t::_,[d,x]=>match QX P t with
   | .slice e=> .copy (Y4 P e) d x
   |_=> .g
 | .clear,t::_,[x]=>match QX P t with
   | .slice e=> .clear (Y4 P e) (JfB P e) x
   |_=> .g
 |_,_,_=> .g
def JR :Op->Iop
 | .move x=> .Q (JH x)
 | .assign x=> .Q (JH x)
 | .pick c a b=> .pick (JH c) (JH a) (JH b)
 | .alloc t=> .alloc (JfB P t)
 | .box _ x=> .box (JH x)
 | .build t ps=> .build (JfB P t) (match QX P t with
   | .struct fs=>Jc3 P fs.toList ps.toList
   | .array _ e=>JbF (Y4 P e) ps.toList
   |_=>[])
 | .buildSlice t n ps=>match QX P t with
   | .slice e=> .bsl (Y4 P e) n (Jc5 n (JfB P e)) (JbF (Y4 P e) ps.toList)
   |_=> .g
 | .load t x=>match JfC P t with
   |true=> .p (Y4 P t) (JH x)
   |false=> .l (JH x)
 | .store t x v=> .store (Y4 P t) (JH x) (JH v)
 | .nilCheck x=> .q (JH x)
 | .binOp op t x y _=>match op with
   | .eql=> .S (JfD P t) false (JH x) (JH y)
   | .neq=> .S (JfD P t) true (JH x) (JH y)
   |op=> .N op (JH x) (JH y)
 | .unOp _ _ x=> .not (JH x)
 | .convert s d x=>match QX P s,QX P d with
   | .slice _,_=> .P (JH x)
   |_, .int k=> .r k (JH x)
   |_,_=> .g
 | .makeFunc (.func f) a b=> .mkfn f (jN a.toList) (jN b.toList)
 | .makeMap _ _=> .g
 | .makeSlice t n c=>match QX P t with
   | .slice e=> .t (Y4 P e) (JfB P e) (JH n) (JH c)
   |_=> .g
 | .slice t x lo hi mx=>match QX P t with
   | .string=> .cutS (JH x) (Y8 lo) (Y8 hi)
   | .slice e=> .cutL (Y4 P e) (JH x) (Y8 lo) (Y8 hi) (Y8 mx)
   | .array n e=> .cutA n (Y4 P e) (JH x) (Y8 lo) (Y8 hi) (Y8 mx)
   |_=> .g
 | .fieldAddr t x f=>match QX P t with
   | .struct fs=> .j (YM fs.toList f).offset (JH x)
   |_=> .g
 | .field t x f=>match QX P t with
   | .struct fs=> .O (YM fs.toList f).offset (match JfC P (YM fs.toList f).type with
     |true=>some (Y4 P (YM fs.toList f).type)
     |false=>none) (JH x)
   |_=> .g
 | .indexAddr t x i=>match QX P t with
   | .slice e=> .h (Y4 P e) (JH x) (JH i)
   |_=> .g
 | .index _ x i=> .u (JH x) (JH i)
 | .lookup t m k ok=>match QX P t with
   | .map kt et=> .lookup (JfD P kt) (c0ZS P et) ok (JH m) (JH k)
   |_=> .g
 | .mapUpdate t m k v=>match QX P t with
   | .map kt _=> .mupd (JfD P kt) (JH m) (JH k) (JH v)
   |_=> .g
 | .insert t m k v=>match QX P t with
   | .map kt _=> .mupd (JfD P kt) (JH m) (JH k) (JH v)
   |_=> .g
 | .range t x=>match QX P t with
   | .string=> .L (JH x)
   |_=> .K (JH x)
 | .next x s=>match s with
   |true=> .nextS (JH x)
   |false=> .nextM (JH x)
 | .extract x n=> .M n (JH x)
 | .call c=>match c.callee with
   | .value (.func f)=> .call f (jN c.args.toList)
   | .builtin b=>qR P b c.argTypes.toList (jN c.args.toList)
   | .value x=> .callv (JH x) (jN c.args.toList)
   |_=> .g
 |_=> .g
def JjN :Op->Bool
 | .call c=>match c.callee with
   | .builtin _=>false
   |_=>true
 |_=>false
def JjO :Option Nat->Nat
 |some d=>d
 |none=>0
def JaB :List Oper->Nat->Nat
 |[],_=>0
 |a::_,0=>JjO a.dst
 |_::r,n+1=>JaB r n
def Jc6 (ops:List Oper):Option (Nat×Bool)->Option (Nat×Bool)
 |none=>none
 |some (j,w)=>some (JaB ops j,w)
def JjP :List (Option (List Nat))->Option (List Nat)
 |[]=>none
 |w::_=>w
def JjQ :List (Option (List Nat))->List (Option (List Nat))
 |[]=>[]
 |_::r=>r
def jG (ops:List Oper):List Oper->List (Option (List Nat))->List Ins
 |[],_=>[]
 | ⟨d,x,_,_,_,g⟩::os,ws=>match JjN x with
   |true=>⟨d,JR P x,Jc6 ops g,JjP ws⟩::jG ops os (JjQ ws)
   |false=>⟨d,JR P x,Jc6 ops g,none⟩::jG ops os ws
abbrev QP :=List (List (Option (List Nat))×List (List Nat×List Nat))
def JjR :Bool->Bool->Bool
 |true,_=>true
 |false,b=>b
def Qh :Code->Bool
 | .cond ..=>true
 | .block ..=>true
 | .loop _=>true
 | .seq a b=>JjR (Qh a) (Qh b)
 | .skip=>false
 | .region ..=>false
 | .exit _=>false
 | .ret=>false
 | .rangeFunc ..=>false
 | .scope _=>false
 | .label _=>false
 | .goto _=>false
 | .refuse _=>false
abbrev Y9 :=C×List (List Nat)×QP
def JbG (ops:List Oper):Bool->List (List Nat)->QP->Y9
 |true,hs,[]=>(.d,hs,[])
 |true,hs,(ws,chk)::ds=>(.n (jG P ops ops ws) chk,hs,ds)
 |false,hs,ds=>(.k (jG P ops ops []),hs,ds)
def JfE (k:C->C->C)(f:Y9)(g:List (List Nat)->QP->Y9):Y9:=match f with
 | (x,hs,ds)=>match g hs ds with
   |(y,hs,ds)=>(k x y,hs,ds)
def JhP (k:C->C)(f:Y9):Y9:=match f with
 |(x,hs,ds)=>(k x,hs,ds)
def JbH :Bool->List (List Nat)->(List (List Nat)->Y9)->(List (List Nat)->QP->Y9)->Y9
 |true,[],_,_=>(.d,[],[])
 |true,live::hs,f,g=>JfE (.h live) (f hs) g
 |false,hs,f,g=>JfE .j (f hs) g
def Jct :List (List Nat)->(List (List Nat)->Y9)->Y9
 |[],_=>(.d,[],[])
 |live::hs,f=>JhP (.g live) (f hs)
def JZ :Code->List (List Nat)->QP->Y9
 | .skip,hs,ds=>(.d,hs,ds)
 | .region _ ops draw,hs,ds=>JbG P ops.toList draw hs ds
 | .seq a b,hs,ds=>JbH (Qh a) hs (fun hs=>JZ a hs ds) fun hs ds=>JZ b hs ds
 | .cond c a b,hs,ds=>JfE (.f (JH c)) (JZ a hs ds) fun hs ds=>JZ b hs ds
 | .block id b,hs,ds=>JhP (.e id) (JZ b hs ds)
 | .loop b,hs,ds=>Jct hs fun hs=>JZ b hs ds
 | .exit id,hs,ds=>(.i id,hs,ds)
 | .ret,hs,ds=>(.m,hs,ds)
 | .rangeFunc _ _ _ _,hs,ds=>(.f (.c .y) .d .d,hs,ds)
 | .scope _,hs,ds=>(.d,hs,ds)
 | .label _,hs,ds=>(.d,hs,ds)
 | .goto _,hs,ds=>(.d,hs,ds)
 | .refuse _,hs,ds=>(.d,hs,ds)
def jO :List ResultVar->List RS
 |[]=>[]
 | .tmp t::r=> .s t::jO r
 | .cell a t::r=>match JfC P t with
   |true=> .a a (Y4 P t)::jO r
   |false=> .b a::jO r
def Jcu :Option Code->List (List Nat)->QP->C
 |some c,hs,ds=>(JZ P c hs ds).1
 |none,_,_=> .m
def JjS (f:Func)(hs:List (List Nat))(ds:QP):Fn:=⟨f.ntmps,jO P f.results.toList,Jcu P f.body hs ds⟩
end
inductive LE where
 |f (i:Nat) (hs:List (List Nat)) (ds:QP)
 |h (i:Nat) (e:E)
def LE.i :LE->Nat
 | .f i _ _=>i
 | .h i _=>i
def JmC (P:Program)(i:Nat)(hs:List (List Nat))(ds:QP):Fn:=match P.funcs[i]? with
 |some f=>JjS P f hs ds
 |none=>⟨0,[], .m⟩
def JmD (P:Program):LE->E
 | .f i hs ds=>fnD 1000000 (JmC P i hs ds)
 | .h _ e=>e
def JaC (P:Program):LE->Option Fn
 | .f i hs _=>match P.funcs[i]? with
   |some f=>Jhh P f hs
   |none=>none
 | .h _ _=>none
def JaD (P:Program):LE->Option Fn
 | .f i hs ds=>some (JmC P i hs ds)
 | .h _ _=>none
def JrV (P:Program):LE->Bool
 | .f i _ _=>match P.funcs[i]? with
   | some f => decide (f.name ≠ "runtime.NumGoroutine")
   |none=>false
 | .h _ _=>true
def Jd2 :List LE->Nat
 |[]=>0
 |[x]=>x.i
 |_::y::r=>Jd2 (y::r)
def Jae (P:Program):Nat->List LE->BT
 |0,[]=> .a 0 ⟨Jf7⟩
 |0,x::_=> .a x.i (JmD P x)
 |d+1,l=> .b (Jd2 (l.take (l.length/2))) (Jae P d (l.take (l.length/2))) (Jae P d (l.drop (l.length/2)))
def Jcv :Nat->List LE->Nat->Option LE
 |0,[],_=>none
 |0,x::_,k=>bif Nat.beq k x.i then some x else none
 |d+1,l,k=>bif Nat.ble k (Jd2 (l.take (l.length/2)))then Jcv d (l.take (l.length/2)) k else Jcv d (l.drop (l.length/2)) k
theorem JaW {P:Program}{p:Nat->E->Prop}(a:p 0 ⟨Jf7⟩):∀(d:Nat) (l:List LE),(∀x,x∈l->p x.i (JmD P x))->(Jae P d l).A p
 |0,[],_=>a
 |0,x::_,h=>h x (Xu ..)
 |d+1,l,h=>⟨JaW a d _ fun x b=>h x (Zh b),JaW a d _ fun x b=>h x (ZZ b)⟩
theorem JaX {P:Program}{k:Nat}{x:LE}:∀(d:Nat) (l:List LE),Jcv d l k=some x->selB (Jae P d l) k=(JmD P x).b
 |0,[],h=>by cases h
 | 0,y::_,h=>by
   unfold Jcv at h;show(bif Nat.beq k y.i then(JmD P y).b else Jf7)=_
   grind
 | d+1,_,h=>by
   unfold Jcv at h;show(bif Nat.ble k _ then selB (Jae P d _) k else selB (Jae P d _) k)=_
   cases a:Nat.ble k (Jd2 _)with
   |true=>rw[a]at h;exact JaX d _ h
   |false=>rw[a]at h;exact JaX d _ h
theorem Jg6 {α:Type}{r:α}(h:none=some r):False:=by cases h
section
variable {P : Program} {L : List LE} {d : Nat}
theorem JsN {f:Func}(c:P.funcs[e]? =some f){a:List (List Nat)}{b:QP}(h:Jcv d L e=some (.f e a b)):tabT (Jae P d L) e=some (evFn 1000000 (JjS P f a b)):=by
 unfold tabT;rw[JaX d L h];show some (evFn 1000000 (JmC P e a b))=_;unfold JmC;rw[c]
theorem JsO {a:E}(h:Jcv d L e=some (.h e a)):tabT (Jae P d L) e=some a.b:=by
 unfold tabT;rw[JaX d L h];rfl
def JaE (p:Nat->E->Prop):List LE->Prop
 |[]=>True
 | .f _ _ _::r=>JaE p r
 | .h i g::r=>p i g/\JaE p r
theorem kL {p:Nat->E->Prop}{i:Nat}{g:E}:∀{l:List LE},JaE p l->LE.h i g∈l->p i g
 | .f _ _ _::r,h,k=>by
   rcases Xw.1 k with k|k
   ·cases k
   ·exact kL (l:=r) h k
 | .h _ _::r,h,k=>by
   rcases Xw.1 k with k|k
   ·cases k;exact h.1
   ·exact kL h.2 k
theorem Jpr (c:JaE (fun _ e=>Jaa e.b) L):TabM (tabT (Jae P d L)):=Jtx (JaW (p:=fun _ e=>Jaa e.b) (fun _ _ _ _ _ _ h=>(Jg6 h).elim) d L fun x a=>match x,a with
 | .f _ _ _,_=>Jty _ _
 | .h _ _,a=>kL c a)
theorem JjT {ρ:Nat->Value}{a:Bs}(n:L.map (JaC P)=L.map (JaD P))(o:L.all (JrV P)=true)(q:∀i,(ρ i).oneCell'=true)(r:P.follows .mixedOrders=true)
  (s:JaE (fun i e=>KQ P ρ a i e.b) L):(Jae P d L).A fun i e=>KQ P ρ a i e.b:=
 JaW (p:=fun i e=>KQ P ρ a i e.b) (fun _ _ _ _ _ _ h=>(Jg6 h).elim) d L fun x c=>match x,c with
 | .f i k l,c=>by
   have g:JaC P (.f i k l)=JaD P (.f i k l):=List.map_inj_left.1 n _ c;have j:=Ze.1 o _ c;simp[JaC,JaD]at g;simp only[JrV]at j
   cases m:P.funcs[i]? with
   |none=>grind
   | some f=>
     rw[m]at g j;exact Jtv g m (X5 j) q r
 | .h _ _,c=>kL s c
end
theorem JqU {i:TypeInfo}(h:o.types[e]? =some i):o.info? e=some i:=by
 show Tables.info? _ e=_;unfold Tables.info?
 grind
theorem Jh {i j:TypeInfo}(h:o.types[e]? =some i)(a:i=j):o.info? e=some j:=a▸JqU h
theorem Jps {α:Type}(l:List α):l.toArray.toList=l:=rfl
theorem JrW {α:Type}(k:List α):List.append [] k=k:=rfl
theorem JrX {α:Type}(a:α)(r k:List α):List.append (a::r) k=a::List.append r k:=rfl
def CG :=an @Ka.eq_1<|an @Ka.eq_2<|an @Ka.eq_3<|an @Ka.eq_4<|an @Ka.eq_5<|an @Ka.eq_6<|an @Ka.eq_7<|an @Ka.eq_8<|an @Ka.eq_9<|an @Ka.eq_10<|an @Ka.eq_11<|an @Ka.eq_12<|an @Ka.eq_13<|an @Ka.eq_14<|an @Ka.eq_15<|an @JdJ.eq_1<|an @JdJ.eq_2<|an @Kn.eq_1<|an @Kn.eq_2<|an @Kn.eq_3<|an @Kn.eq_4<|an @Kn.eq_5<|an @Kn.eq_6<|an @Kn.eq_7<|an @Kn.eq_8<|an @Kn.eq_9<|an @Kn.eq_10<|an @Kn.eq_11<|an @Kn.eq_12<|an @Kn.eq_13<|an @Kn.eq_14<|an @Kn.eq_15<|an @JH.eq_1<|an @JH.eq_2<|an @JH.eq_3<|an @JH.eq_4<|an @jN.eq_1<|an @jN.eq_2<|an @Y8.eq_1<|an @Y8.eq_2<|an @Y4.eq_1<|an @Value.cells.eq_1<|an @Value.cells.eq_2<|an @JaA.eq_1<|an @JaA.eq_2<|an @JfB.eq_1<|an @JjL.eq_1<|an @JjL.eq_2<|an @c0ZS.eq_1<|an @QX.eq_1<|an @JfC.eq_1<|an @JbE.eq_1<|an @JbE.eq_2<|an @Jc1.eq_1<|an @Jc1.eq_2<|an @Jc2.eq_1<|an @Jc2.eq_2<|an @JjM.eq_2<|an @JfD.eq_1<|an @YM.eq_1<|an @YM.eq_2<|an @YM.eq_3<|an @Jc3.eq_1<|an @Jc3.eq_2<|an @JbF.eq_1<|an @JbF.eq_2<|an @Jc4.eq_1<|an @Jc4.eq_2<|an @Jc5.eq_1<|an @Jc5.eq_2<|an @qR.eq_1<|an @qR.eq_2<|an @qR.eq_3<|an @qR.eq_4<|an @JR.eq_1<|an @JR.eq_2<|an @JR.eq_3<|an @JR.eq_4<|an @JR.eq_5<|an @JR.eq_6<|an @JR.eq_7<|an @JR.eq_8<|an @JR.eq_9<|an @JR.eq_10<|an @JR.eq_11<|an @JR.eq_12<|an @JR.eq_13<|an @JR.eq_14<|an @JR.eq_15<|an @JR.eq_16<|an @JR.eq_17<|an @JR.eq_18<|an @JR.eq_19<|an @JR.eq_20<|an @JR.eq_21<|an @JR.eq_22<|an @JR.eq_23<|an @JR.eq_24<|an @JR.eq_25<|an @JR.eq_26<|an @JR.eq_27<|an @JR.eq_28<|an @JR.eq_29<|an @JR.eq_30<|an @JR.eq_31<|an @JjN.eq_1<|an @JjN.eq_2<|an @JjO.eq_1<|an @JjO.eq_2<|an @JaB.eq_1<|an @JaB.eq_2<|an @JaB.eq_3<|an @Jc6.eq_1<|an @Jc6.eq_2<|an @JjP.eq_1<|an @JjP.eq_2<|an @JjQ.eq_1<|an @JjQ.eq_2<|an @jG.eq_1<|an @jG.eq_2<|an @JjR.eq_1<|an @JjR.eq_2<|an @Qh.eq_1<|an @Qh.eq_2<|an @Qh.eq_3<|an @Qh.eq_4<|an @Qh.eq_5<|an @Qh.eq_6<|an @Qh.eq_7<|an @Qh.eq_8<|an @Qh.eq_9<|an @Qh.eq_10<|an @Qh.eq_11<|an @Qh.eq_12<|an @Qh.eq_13<|an @JbG.eq_1<|an @JbG.eq_2<|an @JbG.eq_3<|an @JfE.eq_1<|an @JhP.eq_1<|an @JbH.eq_1<|an @JbH.eq_2<|an @JbH.eq_3<|an @Jct.eq_1<|an @Jct.eq_2<|an @JZ.eq_1<|an @JZ.eq_2<|an @JZ.eq_3<|an @JZ.eq_4<|an @JZ.eq_5<|an @JZ.eq_6<|an @JZ.eq_7<|an @JZ.eq_8<|an @JZ.eq_9<|an @JZ.eq_10<|an @JZ.eq_11<|an @JZ.eq_12<|an @JZ.eq_13<|an @jO.eq_1<|an @jO.eq_2<|an @jO.eq_3<|an @Jcu.eq_1<|an @Jcu.eq_2<|an @JjS.eq_1<|an @JrW<|an @JrX @Jps
def kRun (t:BT)(n:Nat):Bool:=match run (tabT t) 60 n [] St.H with
 |some (.h b,_)=>b
 |_=>false
theorem JkW {ρ:Nat->Value}{w:World}{t:BT}(j:t.A fun i a=>KQ o ρ ⟨w.heap.size,w⟩ i a.b)(h:kRun t e=true):
  Calls o e #[] w fun a d=>a= .returned (.bool true)/\Below w.heap.size w d:=by
 unfold kRun at h
 split at h
 ·rename_i b k l
  subst h;have m:RL (fun _=>none) ρ ([]:List V) ([]:List Value):=by simp only[RL]
  refine(JnM (P:=o) (T:=tabT t) (fun f b g=> ?_) l m).mono fun a d ⟨y,γ',p,c,q⟩=>⟨?_,q⟩
  ·simp only[tabT,Option.some.injEq]at g;subst g;exact Jrt j f
  ·have c:y= .bool true:=c;rw[p,c]
 ·cases h
theorem JsP {t:BT}(c:tabT t e=some (Jdm Jll).b)(d:WF u):Does (tabT t) e [] u fun a f=>Gr u f/\a= .h true:=
 JcL c rfl ⟨Gr.F d,rfl⟩
end Eva
