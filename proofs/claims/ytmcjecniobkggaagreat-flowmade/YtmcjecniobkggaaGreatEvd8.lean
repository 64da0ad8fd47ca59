/- An evaluator of the model's code, proved to tell what the model does. Evaluation told b -/
import Derived.Test.YtmcjecniobkggaaGreatEvc6
import Derived.ChangeSlices
import Derived.ChangeMaps5
import Derived.Carry
import Derived.WideShapes
set_option linter.constructorNameAsVariable false
set_option linter.unusedVariables false
set_option linter.unusedSimpArgs false
set_option linter.unusedSectionVars false
namespace Eva
open Go Go.RowKit
variable {v:Option (List Nat)}{e i:St}{n b:V->St->Prop}{t g:Nat}{k:List V}{z:Bool}{d:List UInt8}{r:Table}{q:Pt}{p:Fr}{f:Nat->Row}{l:Fr->St->Prop}{m:World}
def Does (T:Table)(f:Nat)(args:List V)(st:St)(Q:V->St->Prop):Prop:=∃v st',Q v st'/\∃N,∀n,N<=n->run T n f args st=some (v,st')
theorem Does.A {args:List V}{st:St}{Q Q':V->St->Prop}(h:Does r t args st Q)(k:∀v st',Q v st'->Q' v st'):Does r t args st Q':=by
 obtain⟨v,st',a,b⟩:=h;exact⟨v,st',k v st' a,b⟩
def wV (r:Option (V×Eff))(Q:V->Eff->Prop):Prop:=match r with
 |some (v,e)=>Q v e
 |none=>False
def Jes (okW:Option (List Nat))(fr:Fr)(st st':St)(Q:St->Prop):Prop:=
 if st'.a<st.t then
  match okW with
  |none=>False
  |some l=>still fr st' st.t l=true/\Q {st' with a:=if st'.a<st.a then st'.a else st.a}
 else Q {st' with a:=st.a}
def J8 (T:Table)(m:Bool)(okW:Option (List Nat))(f:Nat)(args:List V)(fr:Fr)(st:St)(Q:V->St->Prop):Prop:=
 if m then Does T f args {st with a:=st.t} fun v st'=>Jes okW fr st st' (Q v)else Does T f args st Q
def wFn (T:Table)(m:Bool)(okW:Option (List Nat))(x:V)(args:List V)(fr:Fr)(st:St)(Q:V->St->Prop):Prop:=match x with
 | .D f a b=>J8 T m okW f (a++args++b) fr st Q
 |_=>False
def wO (T:Table)(m:Bool)(okW:Option (List Nat))(op:Iop)(fr:Fr)(st:St)(Q:V->St->Prop):Prop:=match op with
 | .call f as=>J8 T m okW f (evs fr as) fr st Q
 | .callv x as=>wFn T m okW (x.A fr) (evs fr as) fr st Q
 |op=>wV (evOp fr st op) fun v e=>Q v (st.I e)
def wG (x:V)(want:Bool)(P:Prop)(Z:Prop):Prop:=match x with
 | .h b=>if b=want then P else Z
 | .p _=>Z
 |_=>False
def wI (T:Table)(drawn:Bool)(i:Ins)(fr:Fr)(st:St)(Q:Fr->St->Prop):Prop:=match i.a with
 |none=>wO T drawn i.c i.d fr st fun v st=>Q (put fr i.b v) st
 |some (g,want)=>wG (fr g) want (wO T drawn i.c i.d fr st fun v st=>Q (put fr i.b v) st) (Q (put fr i.b Kj) st)
def wR (T:Table)(drawn:Bool):List Ins->Fr->St->(Fr->St->Prop)->Prop
 |[],fr,st,Q=>Q fr st
 |i::r,fr,st,Q=>wI T drawn i fr st fun fr st=>wR T drawn r fr st Q
def kSeq (b:Fr->St->(Out->Prop)->Prop)(Q:Out->Prop):Out->Prop
 | .a fr st=>b fr st Q
 | .b i fr st=>Q (.b i fr st)
 | .c fr st=>Q (.c fr st)
def kBlk (id:Nat)(Q:Out->Prop):Out->Prop
 | .a fr st=>Q (.a fr st)
 | .b i fr st=>if i=id then Q (.a fr st)else Q (.b i fr st)
 | .c fr st=>Q (.c fr st)
def Jet (I:Nat->Fr->St->Prop)(k:Nat)(Q:Out->Prop):Out->Prop
 | .a fr st=>∃j,j<k/\I j fr st
 | .b i fr st=>Q (.b i fr st)
 | .c fr st=>Q (.c fr st)
def Jeu (x:V)(P R:Prop):Prop:=match x with
 | .h b=>if b=true then P else R
 |_=>False
def Jlm (b:Fr->St->(Out->Prop)->Prop)(lf:Nat)(fr:Fr)(st:St)(Q:Out->Prop):Prop:=
 ∃I:Nat->Fr->St->Prop,(∃m,m<lf/\I m fr st)/\∀k fr st,I k fr st->b fr st (Jet I k Q)
def wC (T:Table)(lf:Nat):C->Fr->St->(Out->Prop)->Prop
 | .d,fr,st,Q=>Q (.a fr st)
 | .k l,fr,st,Q=>wR T false l fr st fun fr st=>Q (.a fr st)
 | .n l chk,fr,st,Q=>wR T true l fr st fun fr st=>JP fr chk=true/\Q (.a fr st)
 | .j a b,fr,st,Q=>wC T lf a fr st (kSeq (wC T lf b) Q)
 | .h _ a b,fr,st,Q=>wC T lf a fr st (kSeq (wC T lf b) Q)
 | .f c a b,fr,st,Q=>Jeu (c.A fr) (wC T lf a fr st Q) (wC T lf b fr st Q)
 | .e id b,fr,st,Q=>wC T lf b fr st (kBlk id Q)
 | .g _ b,fr,st,Q=>Jlm (wC T lf b) lf fr st Q
 | .i id,fr,st,Q=>Q (.b id fr st)
 | .m,fr,st,Q=>Q (.c fr st)
section
variable {T : Table} {fr : Fr} {st : St}
theorem Jdo {args:List V}(h:J8 T z v t args fr st b):
  ∃c d,b c d/\∃N,∀n,N<=n->∀i,(∀self s,K0 self fr s i=self t args s)->(if z then KV (run T n) v fr st i else K0 (run T n) fr st i)=some (c,d):=by
 unfold J8 at h
 cases z with
 | false=>
   obtain⟨c,d,g,N,k⟩:=h;refine⟨c,d,g,N,fun n j i e=> ?_⟩
   grind
 | true=>
   obtain⟨c,d,g,N,k⟩:=h;unfold Jes at g;by_cases o:d.a<st.t
   ·rw[Xd o]at g
    cases v with
    |none=>grind
    | some l=>
      refine⟨c,_,g.2,N,fun n j i e=> ?_⟩;simp[KV,e,k n j]
      grind
   ·rw[Xa o]at g;refine⟨c,_,g,N,fun n j i e=> ?_⟩;simp[KV,e,k n j]
    grind
theorem JnS {i:Iop}(h:wO T z v i fr st b):
  ∃c g,b c g/\∃N,∀n,N<=n->(if z&&i.A then KV (run T n) v fr st i else K0 (run T n) fr st i)=some (c,g):=by
 have j:∀{i:Iop},i.A=false->(∀self,K0 self fr st i=(evOp fr st i).map fun(c,e)=>(c,st.I e))->wV (evOp fr st i) (fun c e=>b c (st.I e))->
   ∃c g,b c g/\∃N,∀n,N<=n->(if z&&i.A then KV (run T n) v fr st i else K0 (run T n) fr st i)=some (c,g):=by
  intro i p q h;unfold wV at h
  split at h
  ·rename_i c e r
   refine⟨c,_,h,0,fun n _=> ?_⟩
   grind
  grind
 cases i
 case call f as=>
  obtain⟨c,g,k,N,l⟩:=Jdo (show J8 T z v f (evs fr as) fr st b from h);refine⟨c,g,k,N,fun n m=> ?_⟩;have:=l n m (.call f as) fun _ _=>rfl;simpa[Iop.A]using this
 case callv x as=>
  have h:wFn T z v (x.A fr) (evs fr as) fr st b:=h;unfold wFn at h
  split at h
  ·rename_i f a d o
   obtain⟨c,g,k,N,l⟩:=Jdo h;refine⟨c,g,k,N,fun n m=> ?_⟩;have:=l n m (.callv x as) fun _ _=>by simp[K0,o]
   simpa[Iop.A]using this
  grind
 all_goals exact j rfl (fun _=>rfl) h
theorem JnT {i:Ins}(h:wI T z i fr st l):∃j f,l j f/\∃N,∀n,N<=n->Yk (run T n) z fr st i=some (j,f):=by
 have o:wO T z i.c i.d fr st (fun v st=>l (put fr i.b v) st)->∃j f,l j f/\∃N,∀n,N<=n->evGo (run T n) z fr st i=some (j,f):=by
  intro h;obtain⟨v,f,k,N,p⟩:=JnS h;refine⟨_,_,k,N,fun n q=> ?_⟩;unfold evGo
  grind
 unfold wI at h
 split at h
 ·rename_i m
  obtain⟨j,f,k,N,p⟩:=o h;exact⟨j,f,k,N,fun n q=>by simp[Yk,m];grind⟩
 ·rename_i g r m
  unfold wG at h
  split at h
  ·rename_i b s
   split at h
   ·rename_i e
    obtain⟨j,f,k,N,p⟩:=o h;exact⟨j,f,k,N,fun n q=>by simp[Yk,m,s];grind⟩
   ·rename_i e
    exact⟨_,_,h,0,fun n _=>by simp[Yk,m,s];grind⟩
  ·rename_i a t
   exact⟨_,_,h,0,fun n _=>by simp[Yk,m,t]⟩
  grind
theorem Jev {a:Bool}:∀{l:List Ins} {fr:Fr} {st:St} {Q:Fr->St->Prop},wR T a l fr st Q->∃b c,Q b c/\∃N,∀n,N<=n->Kl (run T n) a l fr st=some (b,c)
 |[],fr,st,_,h=>⟨fr,st,h,0,fun _ _=>rfl⟩
 | i::r,_,_,_,h=>by
   obtain⟨f,g,j,N,k⟩:=JnT (show wI T a i _ _ (fun fr st=>wR T a r fr st _)from h);obtain⟨d,e,m,M,o⟩:=Jev j;exact⟨d,e,m,max N M,fun n p=>by simp[Kl,k n (by omega)];grind⟩
theorem JnU (c:C):∀{fr:Fr} {st:St} {Q:Out->Prop},wC T t c fr st Q->∃o,Q o/\∃N,∀n,N<=n->evD (run T n) t c fr st=some o:=by
 induction c with
 |d=>exact fun h=>⟨_,h,0,fun _ _=>rfl⟩
 |i id=>exact fun h=>⟨_,h,0,fun _ _=>rfl⟩
 |m=>exact fun h=>⟨_,h,0,fun _ _=>rfl⟩
 | k l=>
   intro fr st Q h;obtain⟨L,O,s,N,w⟩:=Jev (show wR T false l fr st _ from h);exact⟨_,s,N,fun n u=>by simp[evD,w n u]⟩
 | n l Z=>
   intro fr st Q h;obtain⟨L,O,s,N,w⟩:=Jev (show wR T true l fr st _ from h);exact⟨_,s.2,N,fun n u=>by simp[evD,w n u];grind⟩
 | j a b x y=>
   intro fr st Q h;obtain⟨o,s,N,w⟩:=x (show wC T t a fr st (kSeq (wC T t b) Q)from h)
   cases o with
   | a q r=>
     obtain⟨o2,K,M,X⟩:=y (show wC T t b q r Q from s);exact⟨o2,K,max N M,fun n u=>by simp[evD,w n (by omega)];grind⟩
   |b i q r=>exact⟨_,s,N,fun n u=>by simp[evD,w n u]⟩
   |c q r=>exact⟨_,s,N,fun n u=>by simp[evD,w n u]⟩
 | h l a b x y=>
   intro fr st Q h;obtain⟨o,s,N,w⟩:=x (show wC T t a fr st (kSeq (wC T t b) Q)from h)
   cases o with
   | a q r=>
     obtain⟨o2,K,M,X⟩:=y (show wC T t b q r Q from s);exact⟨o2,K,max N M,fun n u=>by simp[evD,w n (by omega)];grind⟩
   |b i q r=>exact⟨_,s,N,fun n u=>by simp[evD,w n u]⟩
   |c q r=>exact⟨_,s,N,fun n u=>by simp[evD,w n u]⟩
 | f c a b x y=>
   intro fr st Q h;have h:Jeu (c.A fr) (wC T t a fr st Q) (wC T t b fr st Q):=h;unfold Jeu at h
   split at h
   ·rename_i p Y
    split at h
    ·rename_i e
     obtain⟨o,s,N,w⟩:=x h;exact⟨o,s,N,fun n u=>by simp[evD,Y,e];grind⟩
    ·rename_i e
     obtain⟨o,s,N,w⟩:=y h;exact⟨o,s,N,fun n u=>by simp[evD,Y,e];grind⟩
   grind
 | e id b P=>
   intro fr st Q h;obtain⟨o,s,N,w⟩:=P (show wC T t b fr st (kBlk id Q)from h)
   cases o with
   |a q r=>exact⟨_,s,N,fun n u=>by simp[evD,w n u]⟩
   |c q r=>exact⟨_,s,N,fun n u=>by simp[evD,w n u]⟩
   | b i q r=>
     by_cases e:i=id
     ·have s:Q (.a q r):=by simpa[kBlk,e]using s
      exact⟨_,s,N,fun n u=>by simp[evD,w n u];grind⟩
     ·have s:Q (.b i q r):=by simpa[kBlk,e]using s
      exact⟨_,s,N,fun n u=>by simp[evD,w n u];grind⟩
 | g l b P=>
   intro fr st Q h;obtain⟨I,⟨m,hm,S⟩,z⟩:=(show Jlm (wC T t b) t fr st Q from h)
   have U:∀m fr st,I m fr st->∀v,m<v->∃o,Q o/\∃N,∀n,N<=n->qT (evD (run T n) t b) l v fr st=some o:=by
    intro m
    induction m using Nat.strongRecOn with
    | _ m im=>
      intro fr st S v hf;obtain⟨v,rfl⟩:∃k,v=k+1:=⟨v-1,by omega⟩
      obtain⟨o,s,N,w⟩:=P (z m fr st S)
      cases o with
      | a q r=>
        obtain⟨j,hj,W⟩:=s;obtain⟨o2,K,M,X⟩:=im j hj q r W v (by omega);exact⟨o2,K,max N M,fun n u=>by simp[qT,w n (by omega)];grind⟩
      |b i q r=>exact⟨_,s,N,fun n u=>by simp[qT,w n u]⟩
      |c q r=>exact⟨_,s,N,fun n u=>by simp[qT,w n u]⟩
   exact U m fr st S t hm
end
def resP (st:St)(fr:Fr)(res:List RS)(Q:V->St->Prop):Prop:=match QA res fr st with
 |some v=>Q v st
 |none=>False
def kRet (res:List RS)(Q:V->St->Prop):Out->Prop
 | .a fr st=>resP st fr res Q
 | .b _ _ _=>False
 | .c fr st=>resP st fr res Q
theorem Jik (a:St)(b:Fr)(i:Nat)(Q:V->St->Prop):resP a b [.s i] Q=Q (b i) a:=rfl
theorem Jil (b:St)(a:Fr)(i j:Nat)(Q:V->St->Prop):resP b a [.s i, .s j] Q=Q (.p [a i,a j]) b:=rfl
theorem Jew (b:St)(a:Fr)(i j k:Nat)(Q:V->St->Prop):resP b a [.s i, .s j, .s k] Q=Q (.p [a i,a j,a k]) b:=rfl
theorem Jim (a:St)(b:Fr)(Q:V->St->Prop):resP a b [] Q=Q (.p []) a:=rfl
theorem Jl {l:Fn}{b:Self->List V->St->Option (V×St)}(p:r t=some b)(q:b=evFn g l){args:List V}{Q:V->St->Prop}
  (h:wC r g l.body (qr args) e (kRet l.a Q)):Does r t args e Q:=by
 subst q;obtain⟨o,j,N,u⟩:=JnU l.body h;have m:∀fr d,(o= .a fr d\/o= .c fr d)->Does r t args e Q:=by
  intro fr d s;have j:resP d fr l.a Q:=by rcases s with rfl|rfl<;>exact j
  unfold resP at j
  split at j
  ·rename_i v w
   refine⟨v,d,j,N+1,fun n x=> ?_⟩;obtain⟨n,rfl⟩:∃k,n=k+1:=⟨n-1,by omega⟩
   simp[run,p];unfold evFn
   grind
  ·exact j.elim
 cases o with
 |a fr d=>exact m fr d (.inl rfl)
 |c fr d=>exact m fr d (.inr rfl)
 |b i fr d=>exact j.elim
def Up (s s':Self):Prop:=∀f a st r,s f a st=some r->s' f a st=some r
section
variable {s s' : Self} (h : Up s s')
include h
end
structure Gr (a b:St):Prop where
 i:Mono a b
 d:∀r,a.A r≠ .none->b.A r=a.A r
 j:a.a<=a.t->b.a=a.a
theorem Gr.F (h:WF e):Gr e e:=⟨Mono.B h,fun _ _=>rfl,fun _=>rfl⟩
theorem Gr.D {b:St}(h:Gr e b):WF b:=h.i.wf
theorem Gr.B {b c:St}(h:Gr e b)(k:Gr b c):Gr e c:=
 ⟨h.i.A k.i,fun r f=>by rw[k.d r (by rw[h.d r f];exact f),h.d r f],fun f=>by
  have g:=h.j f;have l:=h.i.t;rw[k.j (by omega),g]⟩
theorem Gr.U {b:St}(h:Gr e b){x:Row}(c:e.A q=x)(f:x≠ .none):b.A q=x:=by rw[h.d q (by grind),c]
theorem Gr.A {a b:St}(h:Gr a b){r:Pt}{t:Nat}{l:List V}(e:a.A r= .a t l):b.A r= .a t l:=h.U e (by simp)
theorem J9 (h:WF e):e.A e.b= .none:=by
 apply Xf;intro c;exact absurd (h.a _ c) (Z9 _)
theorem Jru (h:WF e)(k:e.A q≠ .none):q≠e.b:=fun a=>k (by rw[a];exact J9 h)
theorem Gr.G (h:WF e)(b:∀u,(f u).A=u/\f u≠ .none):Gr e (e.B f):=
 ⟨ja h b,fun r a=>by rw[St.F,Ju _ _ (Jru h a)],fun _=>rfl⟩
theorem JM (a:St)(f:Nat->Row):(a.B f).A a.b=f a.t:=by rw[St.F,JG]
theorem Jk (a:St)(p:Pt)(t:Nat)(f:Nat->Row):(a.D p t f).A p=f a.t:=by rw[St.G,JG]
theorem Ji (a:St){r:Pt}(t:Nat)(f:Nat->Row)(h:r≠q):(a.D q t f).A r=a.A r:=by rw[St.G,Ju _ _ h]
theorem Gr.O {b:St}(h:Gr e b)(c:e.A q= .none)(f:b.A q≠ .none):e.t<=(b.A q).A:=(h.i.d q (by grind)).1
theorem Gr.J {st:St}(h:Gr e st){p:Pt}(g:e.A p= .none)(c:st.A p≠ .none)(l:(st.A p).A=t)(m:∀u,(f u).A=u/\f u≠ .none):Gr e (st.D p t f):=by
 have n:=Q9 h.D c l m;refine⟨h.i.A n,fun r b=> ?_,fun b=> ?_⟩
 ·have:r≠p:=fun k=>b (by grind);rw[Ji _ _ _ this,h.d r b]
 ·have o:=h.j b;have q:=h.O g c;show(if t<st.a then t else st.a)=e.a
  grind
theorem Gr.Q {b:St}(h:Gr e b)(k:e.A q= .none)(l:b.A q≠ .none)(m:(b.A q).A=t)(n:∀u,(f u).A=u/\f u≠ .none):Gr e ((b.D q t .c).B f):=by
 have g:=h.J (f:= .c) k l m (fun u=>⟨rfl,by simp⟩);exact g.B (Gr.G g.D n)
theorem Gr.N {b:St}(h:Gr {e with a:=e.t} b):Gr e {b with a:=e.a}:=by
 refine⟨⟨Js h.D _,h.i.t,h.i.i,h.i.d,Xb _,fun r c g=> ?_,h.i.f⟩,h.d,fun _=>rfl⟩;exact absurd (h.d r c) g
theorem Jc {args:List V}(h:Does r t args e n)(k:∀a c,n a c->b a c):J8 r false v t args p e b:=h.A k
theorem Jj {args:List V}{P:V->St->Prop}(h:Does r t args {e with a:=e.t} fun b c=>Gr {e with a:=e.t} c/\P b c)
  (k:∀b c,Gr e c->P b {c with a:=e.t}->n b c):J8 r true v t args p e n:=by
 unfold J8;simp;refine h.A fun b c ⟨g,i⟩=> ?_;have d:=g.j (Xb _);have d:c.a=e.t:=d;unfold Jes;rw[Xa (by omega)];refine k b _ g.N ?_;show P b {c with a:=e.t};rw[<-d];exact i
def ofL (l:List UInt8):V:= .t l.length (snum l)
def Jex (l:List UInt8)(i:Nat):Int:=((l.getD i 0).toNat:Int)
theorem Jbr {l:List UInt8}{i:Nat}(h:i<l.length):Jex l i=(l[i].toNat:Int):=by
 unfold Jex
 grind
theorem Jqn {b:List UInt8}:ofL d=ofL b<->d=b:=by
 constructor
 ·intro h;unfold ofL at h;injection h with c e;exact kY c e
 grind
section
variable (fr : Fr) (st : St)
theorem Jtq (x:Opd):evOp fr st (.Q x)=some (x.A fr, .a):=Xe (Xk _)
def JnV (c a b:V):Option (V×Eff):=match c with
 | .h t=>some (if t then a else b, .a)
 |_=>none
theorem JnW (c a b:Opd):evOp fr st (.pick c a b)=JnV (c.A fr) (a.A fr) (b.A fr):=Xe (Xk _)
theorem Jey (a b:V):JnV (.h true) a b=some (a, .a):=Xe (Xk _)
theorem Jdp (a b:V):JnV (.h false) a b=some (b, .a):=Xe (Xk _)
theorem Jln (c:List V):evOp fr st (.alloc c)=some (.e st.b 0, .b fun t=> .a t c):=Xe (Xk _)
theorem Jrv (x:Opd):evOp fr st (.box x)=boxV st (x.A fr):=Xe (Xk _)
theorem Jlo (a:List V)(b:List (Nat×Nat×Opd)):evOp fr st (.build a b)=JnP st a (evps fr b):=Xe (Xk _)
theorem Jrw (z n:Nat)(a:List V)(b:List (Nat×Nat×Opd)):evOp fr st (.bsl z n a b)=bslV st z n a (evps fr b):=Xe (Xk _)
def ld1 (r:Row)(o:Nat):Option (V×Eff):=match r with
 | .a _ l=>(l[o]?).map fun v=>(v, .a)
 | .f l=>(l[o]?).map fun v=>(v, .a)
 |_=>none
def Jkq (st:St)(x:V):Option (V×Eff):=match x with
 | .e r o=>ld1 (st.A r) o
 |_=>none
theorem take1 (l:List V)(o:Nat):(if o+1<=l.length then some ((l.drop o).take 1)else none)=(l[o]?).map fun v=>[v]:=by
 by_cases h:o+1<=l.length
 ·rw[Xd h,Xg (by omega),Xc (by omega)];rfl
 grind
theorem Jlp (x:Opd):evOp fr st (.l x)=Jkq st (x.A fr):=by
 show(match Kw st 1 (x.A fr)with
  |some [v]=>some (v,Eff.a)
  |_=>none)=_
 cases x.A fr<;>try rfl
 rename_i r o
 simp[Kw,Jkq]
 cases st.A r with
 | a t l=>
   simp[take1,ld1]
   grind
 | f l=>
   simp[take1,ld1]
   grind
 |_=>rfl
def ldn (r:Row)(o n:Nat):Option (V×Eff):=match r with
 | .a _ l=>if o+n<=l.length then some (.j ((l.drop o).take n), .a)else none
 | .f l=>if o+n<=l.length then some (.j ((l.drop o).take n), .a)else none
 |_=>none
def Yo (st:St)(n:Nat)(x:V):Option (V×Eff):=match x with
 | .e r o=>ldn (st.A r) o n
 |_=>none
theorem qC (n:Nat)(x:Opd):evOp fr st (.p n x)=Yo st n (x.A fr):=by
 show(Kw st n (x.A fr)).map _=_
 cases x.A fr<;>try rfl
 rename_i r o
 simp[Kw,Yo]
 cases st.A r with
 |a t l=>simp only[ldn];simp
 |f l=>simp only[ldn];simp
 |_=>rfl
theorem JcK (t:Nat)(l:List V)(o:Nat):ld1 (.a t l) o=(l[o]?).map fun v=>(v, .a):=Xe (Xk _)
theorem Jkr (l:List V)(o:Nat):ld1 (.f l) o=(l[o]?).map fun v=>(v, .a):=Xe (Xk _)
theorem kO (t:Nat)(l:List V)(o n:Nat):ldn (.a t l) o n=if o+n<=l.length then some (.j ((l.drop o).take n), .a)else none:=Xe (Xk _)
theorem Jez (l:List V)(o n:Nat):ldn (.f l) o n=if o+n<=l.length then some (.j ((l.drop o).take n), .a)else none:=Xe (Xk _)
theorem JeA (r:Pt)(o:Nat):Jkq st (.e r o)=ld1 (st.A r) o:=Xe (Xk _)
theorem JeB (n:Nat)(r:Pt)(o:Nat):Yo st n (.e r o)=ldn (st.A r) o n:=Xe (Xk _)
def Jks (x:V):Option (V×Eff):=match x with
 | .e r o=>some (.e r o, .a)
 | .D f a b=>some (.D f a b, .a)
 |_=>none
theorem Jlq (x:Opd):evOp fr st (.q x)=Jks (x.A fr):=Xe (Xk _)
theorem JeC (r:Pt)(o:Nat):Jks (.e r o)=some (.e r o, .a):=Xe (Xk _)
theorem Jf8 (f:Nat)(a b:List V):Jks (.D f a b)=some (.D f a b, .a):=Xe (Xk _)
def eqV (e:EK)(neg:Bool)(x y:V):Option (V×Eff):=(e.B x y).map fun t=>(.h (t !=neg), .a)
theorem Jtr (e:EK)(a:Bool)(x y:Opd):evOp fr st (.S e a x y)=eqV e a (x.A fr) (y.A fr):=Xe (Xk _)
theorem Jlr (k:IntKind)(a b:Int):eqV (.a .i) false (.d k a) (.d k b)=some (.h (decide (a=b)), .a):=by
 simp[eqV,EK.B,keq];rfl
theorem Jls (k:IntKind)(a b:Int):eqV (.a .i) true (.d k a) (.d k b)=some (.h (decide (a≠b)), .a):=by
 simp[eqV,EK.B,keq];rfl
theorem Jb1 (a b:List UInt8):(a.length==b.length&&snum a==snum b)=decide (a=b):=by
 rw[He,Zl,Xj,ZB,ZB];exact⟨fun⟨c,d⟩=>kY c d,fun h=>by grind⟩
theorem Jlt (a b:List UInt8):eqV (.a .s) false (ofL a) (ofL b)=some (.h (decide (a=b)), .a):=by
 simp[eqV,EK.B,keq,ofL,Jb1]
theorem Jlu (a b:List UInt8):eqV (.a .s) true (ofL a) (ofL b)=some (.h (decide (a≠b)), .a):=by
 simp[eqV,EK.B,keq,ofL,Jb1,decide_not]
theorem Jin (a b:Bool):eqV (.a .b) false (.h a) (.h b)=some (.h (decide (a=b)), .a):=by
 cases a<;>cases b<;>rfl
theorem Jio (a b:Bool):eqV (.a .b) true (.h a) (.h b)=some (.h (decide (a≠b)), .a):=by
 cases a<;>cases b<;>rfl
def binV (op:BinOp)(x y:V):Option (V×Eff):=(arith op x y).map fun v=>(v, .a)
theorem Jrx (a:BinOp)(x y:Opd):evOp fr st (.N a x y)=binV a (x.A fr) (y.A fr):=Xe (Xk _)
theorem Jip (k:IntKind)(a b:Int):binV .add (.d k a) (.d k b)=some (.d k (k.wrap (a+b)), .a):=by simp[binV,arith]
theorem Jiq (k:IntKind)(a b:Int):binV .sub (.d k a) (.d k b)=some (.d k (k.wrap (a-b)), .a):=by simp[binV,arith]
theorem Jir (k:IntKind)(a b:Int):binV .mul (.d k a) (.d k b)=some (.d k (k.wrap (a*b)), .a):=by simp[binV,arith]
theorem Jis (k:IntKind)(a b:Int):binV .rem (.d k a) (.d k b)=if b≠0 then some (.d k (a.tmod b), .a)else none:=by
 by_cases h:b=0<;>simp[binV,arith,h]
theorem Jit (k:IntKind)(a b:Int):binV .quo (.d k a) (.d k b)=if b≠0 then some (.d k (k.wrap (a.tdiv b)), .a)else none:=by
 by_cases h:b=0<;>simp[binV,arith,h]
theorem Jiu (k:IntKind)(a b:Int):binV .lss (.d k a) (.d k b)=some (.h (decide (a<b)), .a):=by simp[binV,arith]
theorem Jiv (k:IntKind)(a b:Int):binV .leq (.d k a) (.d k b)=some (.h (decide (a<=b)), .a):=by simp[binV,arith]
theorem Jiw (k:IntKind)(a b:Int):binV .gtr (.d k a) (.d k b)=some (.h (decide (b<a)), .a):=by simp[binV,arith]
theorem Jix (k:IntKind)(a b:Int):binV .geq (.d k a) (.d k b)=some (.h (decide (b<=a)), .a):=by simp[binV,arith]
theorem Jiy (a b:List UInt8):binV .add (ofL a) (ofL b)=if a.length+b.length<2^62 then some (ofL (a++b), .a)else none:=by
 simp[binV,arith,ofL]
 split
 ·simp[Jk9]
 ·rfl
theorem JeD (a b:List UInt8):binV .lss (ofL a) (ofL b)=some (.h (Op.bytesLess a b), .a):=by
 simp[binV,arith,ofL,Jag]
theorem Jf9 (a b:List UInt8):binV .geq (ofL a) (ofL b)=some (.h (!Op.bytesLess a b), .a):=by
 simp[binV,arith,ofL,Jag]
def notV (x:V):Option (V×Eff):=match x with
 | .h t=>some (.h !t, .a)
 |_=>none
theorem Jry (x:Opd):evOp fr st (.not x)=notV (x.A fr):=Xe (Xk _)
theorem Jga (b:Bool):notV (.h b)=some (.h !b, .a):=Xe (Xk _)
theorem Jlv (k:IntKind)(x:Opd):evOp fr st (.r k x)=JnQ st k (x.A fr):=Xe (Xk _)
theorem JeE (k b:IntKind)(n:Int):JnQ st k (.d b n)=some (.d k (k.wrap n), .a):=Xe (Xk _)
theorem JnX (f:Nat)(a b:List Opd):evOp fr st (.mkfn f a b)=some (.D f (evs fr a) (evs fr b), .a):=Xe (Xk _)
theorem JnY (x:Opd)(a b:Option Opd):evOp fr st (.cutS x a b)=Jb0 st (x.A fr) (a.map (Opd.A fr)) (b.map (Opd.A fr)):=Xe (Xk _)
theorem QT (k:IntKind)(n:Int):QZ (.d k n)=if 0<=n then some n.toNat else none:=Xe (Xk _)
theorem Jlw (l:List UInt8)(k:IntKind)(a:Int):Jb0 st (ofL l) (some (.d k a)) none=if 0<=a/\a<=l.length then some (ofL (l.drop a.toNat), .a)else none:=by
 simp only[Jb0,ofL,J7,QT];by_cases h:0<=a
 ·simp only[h,ZT,Zo];by_cases b:a<=l.length
  ·rw[Xd ⟨by omega,Xb _⟩,Xd b,JbM,GU,Xr (by simp)]
  grind
 grind
theorem Jlx (l:List UInt8)(k:IntKind)(b:Int):Jb0 st (ofL l) none (some (.d k b))=if 0<=b/\b<=l.length then some (ofL (l.take b.toNat), .a)else none:=by
 simp only[Jb0,ofL,J7,QT];by_cases h:0<=b
 ·simp only[h,ZT,Zo];by_cases c:b<=l.length
  ·rw[Xd ⟨XC _,by omega⟩,Xd c,JbM,ZG,XQ,Zd (by omega)];rfl
  grind
 grind
theorem Jgb (l:List UInt8)(k c:IntKind)(a b:Int):Jb0 st (ofL l) (some (.d k a)) (some (.d c b))=if 0<=a/\a<=b/\b<=l.length then some (ofL ((l.drop a.toNat).take (b.toNat-a.toNat)), .a)else none:=by
 simp only[Jb0,ofL,J7,QT];by_cases h:0<=a
 ·by_cases e:0<=b
  ·simp only[h,e,ZT,Zo];by_cases f:a<=b/\b<=l.length
   ·rw[Xd ⟨by omega,by omega⟩,Xd f,JbM,ZG,GU,Zd (by omega)]
   grind
  grind
 grind
theorem Jiz (l:List UInt8):Jb0 st (ofL l) none none=some (ofL l, .a):=by
 simp only[Jb0,ofL,J7];rw[Xd ⟨XC _,Xb _⟩,JbM];simp
theorem JnZ (z:Nat)(x:Opd)(a b c:Option Opd):evOp fr st (.cutL z x a b c)=QV st z (x.A fr) (a.map (Opd.A fr)) (b.map (Opd.A fr)) (c.map (Opd.A fr)):=Xe (Xk _)
def Jn0 (o:Nat)(x:V):Option (V×Eff):=match x with
 | .e r q=>some (.e r (q+o), .a)
 |_=>none
theorem Jly (o:Nat)(x:Opd):evOp fr st (.j o x)=Jn0 o (x.A fr):=Xe (Xk _)
theorem JeF (o:Nat)(r:Pt)(q:Nat):Jn0 o (.e r q)=some (.e r (q+o), .a):=Xe (Xk _)
def fldV (o:Nat)(n:Option Nat)(x:V):Option (V×Eff):=match x with
 | .j l=>match n with
   |some n=>if o+n<=l.length then some (.j ((l.drop o).take n), .a)else none
   |none=>(l[o]?).map fun v=>(v, .a)
 |_=>none
theorem Jrz (o:Nat)(n:Option Nat)(x:Opd):evOp fr st (.O o n x)=fldV o n (x.A fr):=rfl
theorem JiA (o:Nat)(l:List V):fldV o none (.j l)=(l[o]?).map fun v=>(v, .a):=Xe (Xk _)
theorem Jgc (o n:Nat)(l:List V):fldV o (some n) (.j l)=if o+n<=l.length then some (.j ((l.drop o).take n), .a)else none:=Xe (Xk _)
def Jo (z:Nat)(x i:V):Option (V×Eff):=match QZ i,x with
 |some i, .u r o n z'=>if i<n/\z=z' then some (.e r (o+i*z), .a)else none
 |some i, .m r o n z' _=>if i<n/\z=z' then some (.e r (o+i*z), .a)else none
 |_,_=>none
theorem JiB (z:Nat)(x i:Opd):evOp fr st (.h z x i)=Jo z (x.A fr) (i.A fr):=Xe (Xk _)
theorem jX (z:Nat)(r:Pt)(o n:Nat)(k:IntKind)(i:Int):Jo z (.u r o n z) (.d k i)=if 0<=i/\i<n then some (.e r (o+i.toNat*z), .a)else none:=by
 simp[Jo,QT]
 grind
theorem qD (z:Nat)(r:Pt)(o n c:Nat)(k:IntKind)(i:Int):Jo z (.m r o n z c) (.d k i)=if 0<=i/\i<n then some (.e r (o+i.toNat*z), .a)else none:=by
 simp[Jo,QT]
 grind
def Jn1 (x i:V):Option (V×Eff):=match QZ i,x with
 |some i, .t n v=>if i<n then some (.d .u8 (Yg v i), .a)else none
 |_,_=>none
theorem Jn2 (x i:Opd):evOp fr st (.u x i)=Jn1 (x.A fr) (i.A fr):=Xe (Xk _)
theorem JiC (l:List UInt8)(k:IntKind)(i:Int):Jn1 (ofL l) (.d k i)=if 0<=i/\i<l.length then some (.d .u8 (Jex l i.toNat), .a)else none:=by
 simp[Jn1,QT,ofL];by_cases h:0<=i
 ·simp only[h,ZT,Zo];by_cases c:i<l.length
  ·have b:i.toNat<l.length:=by omega
   rw[Xd b,Xd c,JbN l i.toNat _ (Xg b),Jbr b]
  grind
 grind
def extV (n:Nat)(x:V):Option (V×Eff):=match x with
 | .p l=>(l[n]?).map fun v=>(v, .a)
 |_=>none
theorem JrA (n:Nat)(x:Opd):evOp fr st (.M n x)=extV n (x.A fr):=Xe (Xk _)
theorem JiD (n:Nat)(l:List V):extV n (.p l)=(l[n]?).map fun v=>(v, .a):=Xe (Xk _)
def JrB (x:V):Option (V×Eff):=match x with
 | .t n _=>some (.d .i64 n, .a)
 |_=>none
theorem Jn3 (x:Opd):evOp fr st (.I x)=JrB (x.A fr):=Xe (Xk _)
theorem JiE (l:List UInt8):JrB (ofL l)=some (.d .i64 l.length, .a):=Xe (Xk _)
def JU (x:V):Option (V×Eff):=(slen x).map fun n=>(.d .i64 n, .a)
theorem Jn4 (x:Opd):evOp fr st (.w x)=JU (x.A fr):=Xe (Xk _)
theorem JiF :JU .g=some (.d .i64 0, .a):=Xe (Xk _)
theorem Jlz (r:Pt)(o n z:Nat):JU (.u r o n z)=some (.d .i64 n, .a):=Xe (Xk _)
theorem JiG (r:Pt)(o n z c:Nat):JU (.m r o n z c)=some (.d .i64 n, .a):=Xe (Xk _)
theorem JlA (z:Nat)(s x:Opd):evOp fr st (.app z s x)=appV st z (s.A fr) (x.A fr):=Xe (Xk _)
theorem Jsv (x:Opd):evOp fr st (.L x)=Jrs st (x.A fr):=Xe (Xk _)
theorem Jn5 (l:List UInt8):Jrs st (ofL l)=some (.e st.b 0, .b fun t=> .e t l.length (snum l) 0):=Xe (Xk _)
theorem JlB (x:Opd):evOp fr st (.nextS x)=Jeq st (x.A fr):=Xe (Xk _)
theorem Jts (x:Opd):evOp fr st (.P x)=btsV st (x.A fr):=Xe (Xk _)
end
theorem JV {n:Int}(a: -9223372036854775808<=n)(b:n<9223372036854775808):IntKind.i64.wrap n=n:=by
 simp[IntKind.wrap,IntKind.bits,IntKind.signed];omega
theorem JrC {n:Int}(a:0<=n)(b:n<256):IntKind.u8.wrap n=n:=by
 simp[IntKind.wrap,IntKind.bits,IntKind.signed]
 grind
theorem Jn6 {n:Int}(a: -2147483648<=n)(b:n<2147483648):IntKind.i32.wrap n=n:=by
 simp[IntKind.wrap,IntKind.bits,IntKind.signed];omega
theorem Jn7 (a:Fr)(i:Nat)(v:V)(j:Nat):put a (some i) v j=if j=i then v else a j:=Xe (Xk _)
theorem JiH (a:Fr)(v:V):put a none v=a:=Xe (Xk _)
theorem JrD (b:St):b.I .a=b:=Xe (Xk _)
theorem Jn8 (a:St)(f:Nat->Row):a.I (.b f)=a.B f:=Xe (Xk _)
theorem JlC (a:St)(p:Pt)(t:Nat)(f:Nat->Row):a.I (.d p t f)=a.D p t f:=Xe (Xk _)
theorem JrE (a:St)(p:Pt)(t:Nat)(f:Nat->Row):a.I (.e p t f)=(a.D p t .c).B f:=Xe (Xk _)
theorem Jtt (a:Fr)(i:Nat):Opd.A a (.s i)=a i:=Xe (Xk _)
theorem Jtu (a:Fr)(v:V):Opd.A a (.c v)=v:=Xe (Xk _)
theorem JlD (a:Fr):evs a []=[]:=Xe (Xk _)
theorem JiI (a:Fr)(x:Opd)(l:List Opd):evs a (x::l)=x.A a::evs a l:=Xe (Xk _)
theorem Jgd (args:List V)(i:Nat):qr args i=(args[i]?).getD Kj:=Xe (Xk _)
def wW (r:Option (V×Eff))(st:St)(R:V->St->Prop):Prop:=match r with
 |some (v,e)=>R v (st.I e)
 |none=>False
theorem JlE (v:V)(e:Eff)(a:St)(R:V->St->Prop):wW (some (v,e)) a R=R v (a.I e):=propext Iff.rfl
theorem Jn9 (c:Prop)[Decidable c](x:Option (V×Eff))(a:St)(R:V->St->Prop):wW (if c then x else none) a R=(c/\wW x a R):=by
 by_cases h:c<;>simp[h,wW]
def oK (T:Table)(d:Bool)(fr:Fr)(dst:Option Nat)(r:List Ins)(R:Fr->St->Prop):V->St->Prop:=fun v st=>wR T d r (put fr dst v) st R
def rN (K:Out->Prop):Fr->St->Prop:=fun fr st=>K (.a fr st)
def rD (chk:List (List Nat×List Nat))(K:Out->Prop):Fr->St->Prop:=fun fr st=>JP fr chk=true/\K (.a fr st)
def cK (T:Table)(lf:Nat)(b:C)(K:Out->Prop):Out->Prop:=kSeq (wC T lf b) K
def wGd (x:V)(want:Bool)(T:Table)(d:Bool)(ow:Option (List Nat))(op:Iop)(fr:Fr)(st:St)(dst:Option Nat)(r:List Ins)(R:Fr->St->Prop):Prop:=
 wG x want (wO T d ow op fr st (oK T d fr dst r R)) (wR T d r (put fr dst Kj) st R)
def bP (x:V)(T:Table)(lf:Nat)(a b:C)(fr:Fr)(st:St)(K:Out->Prop):Prop:=Jeu x (wC T lf a fr st K) (wC T lf b fr st K)
theorem JrF (T:Table)(d:Bool)(b:Fr)(a:Option Nat)(r:List Ins)(R:Fr->St->Prop)(v:V)(c:St):oK T d b a r R v c=wR T d r (put b a v) c R:=propext Iff.rfl
theorem JrG (K:Out->Prop)(b:Fr)(c:St):rN K b c=K (.a b c):=propext Iff.rfl
theorem JrH (b:List (List Nat×List Nat))(K:Out->Prop)(c:Fr)(d:St):rD b K c d=(JP c b=true/\K (.a c d)):=propext Iff.rfl
theorem JlF (T:Table)(c:Nat)(b:C)(K:Out->Prop)(d:Fr)(e:St):cK T c b K (.a d e)=wC T c b d e K:=propext Iff.rfl
theorem JlG (T:Table)(d:Nat)(b:C)(K:Out->Prop)(i:Nat)(a:Fr)(c:St):cK T d b K (.b i a c)=K (.b i a c):=propext Iff.rfl
theorem Joa (T:Table)(e:Nat)(b:C)(K:Out->Prop)(a:Fr)(d:St):cK T e b K (.c a d)=K (.c a d):=propext Iff.rfl
theorem Jge (id:Nat)(K:Out->Prop)(b:Fr)(c:St):kBlk id K (.a b c)=K (.a b c):=propext Iff.rfl
theorem Jgf (id:Nat)(K:Out->Prop)(c:Fr)(d:St):kBlk id K (.b id c d)=K (.a c d):=by simp[kBlk]
theorem Jb2 (id:Nat)(K:Out->Prop)(i:Nat)(a:Fr)(c:St)(h:i≠id):kBlk id K (.b i a c)=K (.b i a c):=by simp[kBlk,h]
theorem JiJ (id:Nat)(K:Out->Prop)(a:Fr)(b:St):kBlk id K (.c a b)=K (.c a b):=propext Iff.rfl
theorem JeG (I:Nat->Fr->St->Prop)(k:Nat)(K:Out->Prop)(b:Fr)(c:St):Jet I k K (.a b c)=∃j,j<k/\I j b c:=propext Iff.rfl
theorem JeH (I:Nat->Fr->St->Prop)(k:Nat)(K:Out->Prop)(i:Nat)(a:Fr)(c:St):Jet I k K (.b i a c)=K (.b i a c):=propext Iff.rfl
theorem Jgg (I:Nat->Fr->St->Prop)(k:Nat)(K:Out->Prop)(a:Fr)(b:St):Jet I k K (.c a b)=K (.c a b):=propext Iff.rfl
theorem Jgh (b:List RS)(Q:V->St->Prop)(c:Fr)(d:St):kRet b Q (.a c d)=resP d c b Q:=propext Iff.rfl
theorem JiK (a:List RS)(Q:V->St->Prop)(b:Fr)(d:St):kRet a Q (.c b d)=resP d b a Q:=propext Iff.rfl
theorem JlH (T:Table)(c:Nat)(a b:C)(d:Fr)(e:St)(K:Out->Prop):bP (.h true) T c a b d e K=wC T c a d e K:=propext Iff.rfl
theorem JiL (T:Table)(c:Nat)(a b:C)(d:Fr)(e:St)(K:Out->Prop):bP (.h false) T c a b d e K=wC T c b d e K:=propext Iff.rfl
theorem Job (T:Table)(d:Bool)(c:Option (List Nat))(e:Iop)(b:Fr)(f:St)(a:Option Nat)(r:List Ins)(R:Fr->St->Prop):wGd (.h true) true T d c e b f a r R=wO T d c e b f (oK T d b a r R):=propext Iff.rfl
theorem Joc (T:Table)(d:Bool)(c:Option (List Nat))(e:Iop)(b:Fr)(f:St)(a:Option Nat)(r:List Ins)(R:Fr->St->Prop):wGd (.h false) false T d c e b f a r R=wO T d c e b f (oK T d b a r R):=propext Iff.rfl
theorem Jod (T:Table)(d:Bool)(e:Option (List Nat))(f:Iop)(b:Fr)(c:St)(a:Option Nat)(r:List Ins)(R:Fr->St->Prop):wGd (.h true) false T d e f b c a r R=wR T d r (put b a Kj) c R:=propext Iff.rfl
theorem Joe (T:Table)(d:Bool)(e:Option (List Nat))(f:Iop)(b:Fr)(c:St)(a:Option Nat)(r:List Ins)(R:Fr->St->Prop):wGd (.h false) true T d e f b c a r R=wR T d r (put b a Kj) c R:=propext Iff.rfl
theorem JlI (l:List V)(a:Bool)(T:Table)(d:Bool)(f:Option (List Nat))(g:Iop)(c:Fr)(e:St)(b:Option Nat)(r:List Ins)(R:Fr->St->Prop):wGd (.p l) a T d f g c e b r R=wR T d r (put c b Kj) e R:=propext Iff.rfl
theorem JlJ (T:Table)(e:Nat)(b:Fr)(c:St)(K:Out->Prop):wC T e .d b c K=K (.a b c):=propext Iff.rfl
theorem Jof (T:Table)(c:Nat)(l:List Ins)(a:Fr)(b:St)(K:Out->Prop):wC T c (.k l) a b K=wR T false l a b (rN K):=propext Iff.rfl
theorem Jog (T:Table)(d:Nat)(l:List Ins)(a:List (List Nat×List Nat))(b:Fr)(c:St)(K:Out->Prop):wC T d (.n l a) b c K=wR T true l b c (rD a K):=propext Iff.rfl
theorem Ja (T:Table)(c:Nat)(a b:C)(d:Fr)(e:St)(K:Out->Prop):wC T c (.j a b) d e K=wC T c a d e (cK T c b K):=propext Iff.rfl
theorem Je (T:Table)(c:Nat)(l:List Nat)(a b:C)(d:Fr)(e:St)(K:Out->Prop):wC T c (.h l a b) d e K=wC T c a d e (cK T c b K):=propext Iff.rfl
theorem JlK (T:Table)(e:Nat)(c:Opd)(a b:C)(d:Fr)(g:St)(K:Out->Prop):wC T e (.f c a b) d g K=bP (c.A d) T e a b d g K:=propext Iff.rfl
theorem JiM (T:Table)(a:Nat)(id:Nat)(b:C)(c:Fr)(d:St)(K:Out->Prop):wC T a (.e id b) c d K=wC T a b c d (kBlk id K):=propext Iff.rfl
theorem JlL (T:Table)(d:Nat)(id:Nat)(a:Fr)(c:St)(K:Out->Prop):wC T d (.i id) a c K=K (.b id a c):=propext Iff.rfl
theorem Joh (T:Table)(d:Nat)(a:Fr)(b:St)(K:Out->Prop):wC T d .m a b K=K (.c a b):=propext Iff.rfl
theorem JC {l:List Nat}{b:C}{fr:Fr}{K:Out->Prop}(I:Nat->Fr->St->Prop)(m:Nat)(a:m<t)(h:I m fr e)(c:∀k fr e,I k fr e->wC r t b fr e (Jet I k K)):wC r t (.g l b) fr e K:=⟨I,⟨m,a,h⟩,c⟩
theorem Joi (T:Table)(d:Bool)(a:Fr)(b:St)(R:Fr->St->Prop):wR T d [] a b R=R a b:=propext Iff.rfl
theorem JrI (T:Table)(d:Bool)(a:Option Nat)(c:Iop)(e:Option (List Nat))(r:List Ins)(b:Fr)(f:St)(R:Fr->St->Prop):
  wR T d (⟨a,c,none,e⟩::r) b f R=wO T d e c b f (oK T d b a r R):=propext Iff.rfl
theorem JrJ (T:Table)(d:Bool)(b:Option Nat)(e:Iop)(g:Nat)(a:Bool)(f:Option (List Nat))(r:List Ins)(c:Fr)(h:St)(R:Fr->St->Prop):
  wR T d (⟨b,e,some (g,a),f⟩::r) c h R=wGd (c g) a T d f e c h b r R:=propext Iff.rfl
theorem JlM (T:Table)(d:Bool)(b:Option (List Nat))(f:Nat)(as:List Opd)(a:Fr)(c:St)(R:V->St->Prop):wO T d b (.call f as) a c R=J8 T d b f (evs a as) a c R:=propext Iff.rfl
theorem JiN (T:Table)(d:Bool)(b:Option (List Nat))(x:Opd)(as:List Opd)(a:Fr)(c:St)(R:V->St->Prop):wO T d b (.callv x as) a c R=wFn T d b (x.A a) (evs a as) a c R:=propext Iff.rfl
theorem Joj (T:Table)(d:Bool)(c:Option (List Nat))(f:Nat)(a b as:List V)(e:Fr)(g:St)(R:V->St->Prop):wFn T d c (.D f a b) as e g R=J8 T d c f (a++as++b) e g R:=propext Iff.rfl
theorem JrK (T:Table)(d:Bool)(c:Option (List Nat))(x:Opd)(b:Fr)(a:St)(R:V->St->Prop):wO T d c (.Q x) b a R=wW (evOp b a (.Q x)) a R:=propext Iff.rfl
theorem JlN (T:Table)(d:Bool)(g:Option (List Nat))(c a b:Opd)(f:Fr)(e:St)(R:V->St->Prop):wO T d g (.pick c a b) f e R=wW (evOp f e (.pick c a b)) e R:=propext Iff.rfl
theorem JiO (T:Table)(d:Bool)(e:Option (List Nat))(b:List V)(c:Fr)(a:St)(R:V->St->Prop):wO T d e (.alloc b) c a R=wW (evOp c a (.alloc b)) a R:=propext Iff.rfl
theorem Jok (T:Table)(d:Bool)(c:Option (List Nat))(x:Opd)(b:Fr)(a:St)(R:V->St->Prop):wO T d c (.box x) b a R=wW (evOp b a (.box x)) a R:=propext Iff.rfl
theorem JiP (T:Table)(d:Bool)(f:Option (List Nat))(b:List V)(c:List (Nat×Nat×Opd))(e:Fr)(a:St)(R:V->St->Prop):wO T d f (.build b c) e a R=wW (evOp e a (.build b c)) a R:=propext Iff.rfl
theorem Jol (T:Table)(d:Bool)(f:Option (List Nat))(z n:Nat)(b:List V)(c:List (Nat×Nat×Opd))(e:Fr)(a:St)(R:V->St->Prop):wO T d f (.bsl z n b c) e a R=wW (evOp e a (.bsl z n b c)) a R:=propext Iff.rfl
theorem JiQ (T:Table)(d:Bool)(c:Option (List Nat))(x:Opd)(b:Fr)(a:St)(R:V->St->Prop):wO T d c (.l x) b a R=wW (evOp b a (.l x)) a R:=propext Iff.rfl
theorem JiR (T:Table)(d:Bool)(c:Option (List Nat))(n:Nat)(x:Opd)(b:Fr)(a:St)(R:V->St->Prop):wO T d c (.p n x) b a R=wW (evOp b a (.p n x)) a R:=propext Iff.rfl
theorem JiS (T:Table)(d:Bool)(c:Option (List Nat))(n:Nat)(x v:Opd)(b:Fr)(a:St)(R:V->St->Prop):wO T d c (.store n x v) b a R=wW (evOp b a (.store n x v)) a R:=propext Iff.rfl
theorem JiT (T:Table)(d:Bool)(c:Option (List Nat))(x:Opd)(b:Fr)(a:St)(R:V->St->Prop):wO T d c (.q x) b a R=wW (evOp b a (.q x)) a R:=propext Iff.rfl
theorem JrL (T:Table)(d:Bool)(f:Option (List Nat))(e:EK)(a:Bool)(x y:Opd)(c:Fr)(b:St)(R:V->St->Prop):wO T d f (.S e a x y) c b R=wW (evOp c b (.S e a x y)) b R:=propext Iff.rfl
theorem Jom (T:Table)(d:Bool)(e:Option (List Nat))(b:BinOp)(x y:Opd)(c:Fr)(a:St)(R:V->St->Prop):wO T d e (.N b x y) c a R=wW (evOp c a (.N b x y)) a R:=propext Iff.rfl
theorem Jon (T:Table)(d:Bool)(c:Option (List Nat))(x:Opd)(b:Fr)(a:St)(R:V->St->Prop):wO T d c (.not x) b a R=wW (evOp b a (.not x)) a R:=propext Iff.rfl
theorem JiU (T:Table)(d:Bool)(c:Option (List Nat))(k:IntKind)(x:Opd)(b:Fr)(a:St)(R:V->St->Prop):wO T d c (.r k x) b a R=wW (evOp b a (.r k x)) a R:=propext Iff.rfl
theorem Joo (T:Table)(d:Bool)(c:Option (List Nat))(x:Opd)(b:Fr)(a:St)(R:V->St->Prop):wO T d c (.P x) b a R=wW (evOp b a (.P x)) a R:=propext Iff.rfl
theorem JlO (T:Table)(d:Bool)(g:Option (List Nat))(f:Nat)(a b:List Opd)(e:Fr)(c:St)(R:V->St->Prop):wO T d g (.mkfn f a b) e c R=wW (evOp e c (.mkfn f a b)) c R:=propext Iff.rfl
theorem JlP (T:Table)(d:Bool)(f:Option (List Nat))(x:Opd)(b c:Option Opd)(e:Fr)(a:St)(R:V->St->Prop):wO T d f (.cutS x b c) e a R=wW (evOp e a (.cutS x b c)) a R:=propext Iff.rfl
theorem JlQ (T:Table)(d:Bool)(g:Option (List Nat))(z:Nat)(x:Opd)(b c e:Option Opd)(f:Fr)(a:St)(R:V->St->Prop):wO T d g (.cutL z x b c e) f a R=wW (evOp f a (.cutL z x b c e)) a R:=propext Iff.rfl
theorem JiV (T:Table)(d:Bool)(c:Option (List Nat))(o:Nat)(x:Opd)(b:Fr)(a:St)(R:V->St->Prop):wO T d c (.j o x) b a R=wW (evOp b a (.j o x)) a R:=propext Iff.rfl
theorem Jop (T:Table)(d:Bool)(c:Option (List Nat))(o:Nat)(n:Option Nat)(x:Opd)(b:Fr)(a:St)(R:V->St->Prop):wO T d c (.O o n x) b a R=wW (evOp b a (.O o n x)) a R:=propext Iff.rfl
theorem Jgi (T:Table)(d:Bool)(c:Option (List Nat))(z:Nat)(x i:Opd)(b:Fr)(a:St)(R:V->St->Prop):wO T d c (.h z x i) b a R=wW (evOp b a (.h z x i)) a R:=propext Iff.rfl
theorem JlR (T:Table)(d:Bool)(c:Option (List Nat))(x i:Opd)(b:Fr)(a:St)(R:V->St->Prop):wO T d c (.u x i) b a R=wW (evOp b a (.u x i)) a R:=propext Iff.rfl
theorem Joq (T:Table)(d:Bool)(c:Option (List Nat))(n:Nat)(x:Opd)(b:Fr)(a:St)(R:V->St->Prop):wO T d c (.M n x) b a R=wW (evOp b a (.M n x)) a R:=propext Iff.rfl
theorem JlS (T:Table)(d:Bool)(c:Option (List Nat))(x:Opd)(b:Fr)(a:St)(R:V->St->Prop):wO T d c (.I x) b a R=wW (evOp b a (.I x)) a R:=propext Iff.rfl
theorem JlT (T:Table)(d:Bool)(c:Option (List Nat))(x:Opd)(b:Fr)(a:St)(R:V->St->Prop):wO T d c (.w x) b a R=wW (evOp b a (.w x)) a R:=propext Iff.rfl
theorem Jor (T:Table)(d:Bool)(c:Option (List Nat))(z:Nat)(s x:Opd)(b:Fr)(a:St)(R:V->St->Prop):wO T d c (.app z s x) b a R=wW (evOp b a (.app z s x)) a R:=propext Iff.rfl
theorem JlU (T:Table)(d:Bool)(c:Option (List Nat))(x:Opd)(b:Fr)(a:St)(R:V->St->Prop):wO T d c (.L x) b a R=wW (evOp b a (.L x)) a R:=propext Iff.rfl
theorem JiW (T:Table)(d:Bool)(c:Option (List Nat))(x:Opd)(b:Fr)(a:St)(R:V->St->Prop):wO T d c (.nextS x) b a R=wW (evOp b a (.nextS x)) a R:=propext Iff.rfl
theorem JiX (T:Table)(d:Bool)(c:Option (List Nat))(b:Fr)(a:St)(R:V->St->Prop):wO T d c .g b a R=wW (evOp b a .g) a R:=propext Iff.rfl
theorem JlV (T:Table)(d:Bool)(f:Option (List Nat))(z:Nat)(b:List V)(n c:Opd)(e:Fr)(a:St)(R:V->St->Prop):wO T d f (.t z b n c) e a R=wW (evOp e a (.t z b n c)) a R:=propext Iff.rfl
theorem Jgj (T:Table)(d:Bool)(f:Option (List Nat))(e:EK)(z:V)(b:Bool)(m k:Opd)(c:Fr)(a:St)(R:V->St->Prop):wO T d f (.lookup e z b m k) c a R=wW (evOp c a (.lookup e z b m k)) a R:=propext Iff.rfl
theorem JlW (T:Table)(d:Bool)(c:Option (List Nat))(e:EK)(m k v:Opd)(b:Fr)(a:St)(R:V->St->Prop):wO T d c (.mupd e m k v) b a R=wW (evOp b a (.mupd e m k v)) a R:=propext Iff.rfl
theorem JlX (T:Table)(d:Bool)(c:Option (List Nat))(z:Nat)(y x:Opd)(b:Fr)(a:St)(R:V->St->Prop):wO T d c (.copy z y x) b a R=wW (evOp b a (.copy z y x)) a R:=propext Iff.rfl
theorem JlY (T:Table)(d:Bool)(g:Option (List Nat))(n z:Nat)(x:Opd)(b c e:Option Opd)(f:Fr)(a:St)(R:V->St->Prop):wO T d g (.cutA n z x b c e) f a R=wW (evOp f a (.cutA n z x b c e)) a R:=propext Iff.rfl
noncomputable def fnD (lf:Nat)(cf:Fn):E:={b:=evFn lf cf}
theorem Jtv {lf : Nat} {P : Program} {ρ : Nat -> Value} {base : Bs} {f : Nat} {fn : Func} {hs : List (List Nat)} {cf : Fn} (h : Jhh P fn hs = some cf) (hf : P.funcs[f]? = some fn) (hn : fn.name ≠ "runtime.NumGoroutine")
  (hρ:∀i,(ρ i).oneCell'=true) (hm:P.follows .mixedOrders=true):KQ P ρ base f (fnD lf cf).b:=Jtp hρ hm hf h hn lf
theorem JcL {g:List V->Option V}(a:r t=some (Jdm g).b){args:List V}{v:V}(c:g args=some v){Q:V->St->Prop}(h:Q v e):Does r t args e Q:=by
 refine⟨v,e,h,1,fun n d=> ?_⟩;obtain⟨n,rfl⟩:∃k,n=k+1:=⟨n-1,by omega⟩
 simp[run,a,Jdm,c]
theorem Jkt {P:Program}{ρ:Nat->Value}{a:BT}(k:a.A fun i e=>KQ P ρ ⟨m.heap.size,m⟩ i e.b){L:List (List V)}{locs:Nat->Loc}
  (l:∀i,i<L.length->Qr (rosG L.length locs) ρ (locs i) (.f (L.getD (L.length-1-i) [])) m/\(locs i).b<m.heap.size)
   {args:List V} (h:Does (tabT a) t args (rosR L) fun v _=>v= .h true) {c:List Value} (n:RL (rosG L.length locs) ρ args c):
  Calls P t c.toArray m fun e d=>e= .returned (.bool true)/\Below m.heap.size m d:=by
 obtain⟨v,o,p,N,q⟩:=h;subst p;refine(Jht (P:=P) (T:=tabT a) (fun t b g=> ?_) l (q N (Xb _)) n).mono fun e d ⟨y,γ',s,j,r⟩=>⟨?_,r⟩
 ·simp[tabT]at g;subst g;exact Jrt k t
 ·have j:y= .bool true:=j
  grind
def rune (l:List UInt8)(p:Nat):Nat×Nat:=if(l.getD p 0).toNat<128 then((l.getD p 0).toNat,1)else Utf8.decode ⟨l.toArray⟩ p
theorem Jku (a:t<d.length):(rune d t).1<2147483648:=by
 unfold rune
 split
 ·omega
 ·unfold Utf8.decode;simp only[Utf8.runeError];have k:=fun i=>ZI ((⟨d.toArray⟩:ByteArray).get! i);have b:=k (t+0);have c:=k (t+1);have e:=k (t+2);have f:=k (t+3)
  repeat' split
  all_goals (simp only;omega)
theorem Jkv (f:e.A q= .e t d.length (snum d) g)(a:g<d.length):
  Jeq e (.e q 0)=some (.p [.h true, .d .i64 g, .d .i32 (rune d g).1], .d q t fun u=> .e u d.length (snum d) (g+(rune d g).2)):=by
 have b:Yg (snum d) g=(d.getD g 0).toNat:=by
  rw[JbN d g _ (Xg a),Xt,Xg a];rfl
 have c:jJ d.length (snum d)=⟨d.toArray⟩:=by
  have:=Jdc (⟨d.toArray⟩:ByteArray);simpa using this
 simp only[Jeq,f,a,ZT,b,c,rune]
 split<;>rfl
theorem Jkw (b:e.A q= .e t d.length (snum d) g)(c:¬g<d.length):Jeq e (.e q 0)=some (.p [.h false], .a):=by
 simp only[Jeq,b,c,X2]
def Jam (st:St)(v:V)(zs:List Int):Prop:=(v= .g/\zs=[])\/∃r,v= .u r 0 zs.length 1/\st.A r= .f (zs.map (V.d .i64))
end Eva
namespace Eva
open Go Go.RowKit Go.ChangeShapes
variable {v:Option (List Nat)}{e i:St}{n b:V->St->Prop}{t g:Nat}{k:List V}{z:Bool}{d:List UInt8}{r:Table}{q:Pt}{p:Fr}{f:Nat->Row}{l:Fr->St->Prop}{m:World}
def IntsIn (w:World)(v:Value)(zs:List Int):Prop:=(v= .slice none 0 0/\zs=[])\/(∃a,v= .slice (some a) 0 0/\zs=[])\/
 ∃b off cap,v= .slice (some ⟨b,off,none⟩) zs.length cap/\zs.length<=cap/\b<w.heap.size/\∀i (h:i<zs.length),w.cell? ⟨b,off+i,none⟩=some (.int .i64 zs[i])
theorem kF {x:Value}(h:m.cell? ⟨t,g,none⟩=some x):∃d e f,m.heap[t]? =some (.cells d e f)/\d[g]? =some x:=by
 unfold World.cell? at h
 split at h
 ·rename_i c a f i
  refine⟨c,a,f,i, ?_⟩;simpa using h
 ·cases h
theorem Jos {v:Value}{l:List Int}(h:IntsIn m v l)(t:0<m.heap.size):
  ∃o:Loc,o.b<m.heap.size/\(∀γ ρ,Qr γ ρ o (.f (l.map (V.d .i64))) m)/\∀r:Pt,∃u:V,((u= .g/\l=[])\/u= .u r 0 l.length 1)/\∀γ ρ,γ r=some o->R γ ρ u v:=by
 rcases h with⟨rfl,rfl⟩|⟨a,rfl,rfl⟩|⟨b,c,j,rfl,x,y,K⟩
 ·exact⟨⟨0,0,0⟩,t,fun γ ρ i v k=>by simp at k,fun r=>⟨.g, .inl ⟨rfl,rfl⟩,fun γ ρ _=>rfl⟩⟩
 ·exact⟨⟨0,0,0⟩,t,fun γ ρ i v k=>by simp at k,fun r=>⟨.u r 0 0 1, .inr rfl,fun γ ρ p=>⟨⟨0,0,0⟩,a,0,p,rfl,Xb _,fun e=>absurd rfl e,Xb _⟩⟩⟩
 ·refine⟨⟨b,c,j⟩,y,fun γ ρ i v k=> ?_,fun r=>⟨.u r 0 l.length 1, .inr rfl,fun γ ρ p=>⟨⟨b,c,j⟩,⟨b,c,none⟩,j,p,rfl,x,fun _=>rfl,by simp⟩⟩⟩;rw[Hz]at k;obtain⟨z,L,rfl⟩:=Hb.1 k;obtain⟨q,rfl⟩:=Xz.1 L;obtain⟨s,n,M,N,O⟩:=kF (K i q);exact⟨s,n,M,_,N,O,rfl⟩
section
variable {H : Type} {enc : TypeId × Value -> H} {P : Program} {W : World}
end
end Eva
namespace Eva
open Go Go.RowKit
variable {v:Option (List Nat)}{e i:St}{n b:V->St->Prop}{t g:Nat}{k:List V}{z:Bool}{d:List UInt8}{r:Table}{q:Pt}{p:Fr}{f:Nat->Row}{l:Fr->St->Prop}{m:World}
theorem Gr.K {f:St}(h:Gr e f):e.A f.b= .none:=by
 apply Xf;intro c;exact c (by rw[<-h.d _ c,J9 h.D])
def Jot (st:St)(n:Nat)(x v:V):Option (V×Eff):=match v.A with
 |some vs=>if vs.length=n then(JO st x vs).map fun e=>(Kj,e)else none
 |none=>none
theorem Jou (a:Fr)(b:St)(n:Nat)(x v:Opd):evOp a b (.store n x v)=Jot b n (x.A a) (v.A a):=Xe (Xk _)
section
variable {T : Table}
theorem Jkx {Q a:St->Prop}(k:∀s,Q s->a s)(h:Jes v p e i Q):Jes v p e i a:=by
 unfold Jes at h⊢
 grind
theorem JeI {args:List V}(k:∀a s,n a s->b a s)(h:J8 T z v t args p e n):J8 T z v t args p e b:=by
 unfold J8 at h⊢
 cases z with
 |false=>exact Does.A h k
 |true=>exact Does.A h fun a s c=>Jkx (k a) c
theorem Jqo {r:Option (V×Eff)}{Q a:V->Eff->Prop}(k:∀v e,Q v e->a v e)(h:wV r Q):wV r a:=by
 unfold wV at h⊢
 grind
theorem Jov {c:Iop}(d:c.A=false):wO T z v c p e n=wV (evOp p e c) fun a b=>n a (e.I b):=by
 cases c
 case call=>cases d
 case callv=>cases d
 all_goals rfl
theorem JlZ {d:Iop}(k:∀a s,n a s->b a s)(h:wO T z v d p e n):wO T z v d p e b:=by
 cases g:d.A with
 | false=>
   rw[Jov g]at h⊢;exact Jqo (fun a c=>k a _) h
 | true=>
   cases d
   case call f as=>exact JeI k h
   case callv x as=>
    have h:wFn T z v (x.A p) (evs p as) p e n:=h;show wFn T z v (x.A p) (evs p as) p e b;unfold wFn at h⊢
    split at h
    ·exact JeI k h
    omega
   all_goals cases g
theorem Jqp {x:V}{P a Z b:Prop}(k:P->a)(j:Z->b)(h:wG x z P Z):wG x z a b:=by
 unfold wG at h⊢
 grind
theorem Jqq {i:Ins}{b:Fr->St->Prop}(k:∀f s,l f s->b f s)(h:wI T z i p e l):wI T z i p e b:=by
 obtain⟨c,j,g,m⟩:=i
 cases g with
 |none=>exact JlZ (fun v s=>k _ _) h
 |some a=>exact Jqp (fun h=>JlZ (fun v s=>k _ _) h) (k _ _) h
theorem Jhw {d:Bool}:∀{l:List Ins} {fr:Fr} {a:St} {Q b:Fr->St->Prop},(∀f s,Q f s->b f s)->wR T d l fr a Q->wR T d l fr a b
 |[],_,_,_,_,k,h=>k _ _ h
 |_::_,_,_,_,_,k,h=>Jqq (fun _ _=>Jhw k) h
theorem Jl0 (c:C):∀{fr:Fr} {q:St} {Q r:Out->Prop},(∀o,Q o->r o)->wC T t c fr q Q->wC T t c fr q r:=by
 induction c with
 |d=>exact fun k h=>k _ h
 |i id=>exact fun k h=>k _ h
 |m=>exact fun k h=>k _ h
 |k l=>exact fun k h=>Jhw (fun f s=>k _) h
 |n l x=>exact fun k h=>Jhw (fun f s h=>⟨h.1,k _ h.2⟩) h
 | j a b u v=>
   intro fr q Q r k h;refine u (fun o p=> ?_) h
   cases o with
   |a f s=>exact v k p
   |b i f s=>exact k _ p
   |c f s=>exact k _ p
 | h l a b u v=>
   intro fr q Q r k h;refine u (fun o p=> ?_) h
   cases o with
   |a f s=>exact v k p
   |b i f s=>exact k _ p
   |c f s=>exact k _ p
 | f c a b u v=>
   intro fr q Q r k h;have h:Jeu (c.A fr) (wC T t a fr q Q) (wC T t b fr q Q):=h;show Jeu (c.A fr) (wC T t a fr q r) (wC T t b fr q r);unfold Jeu at h⊢
   grind
 | e id b w=>
   intro fr q Q r k h;refine w (fun o p=> ?_) h
   cases o with
   |a f s=>exact k _ p
   | b i f s=>
     by_cases e:i=id
     ·have p:Q (.a f s):=by simpa[kBlk,e]using p
      simpa[kBlk,e]using k _ p
     ·have p:Q (.b i f s):=by simpa[kBlk,e]using p
      simpa[kBlk,e]using k _ p
   |c f s=>exact k _ p
 | g l b w=>
   intro fr q Q r k h;obtain⟨I,y,z⟩:=(show Jlm (wC T t b) t fr q Q from h)
   refine(show Jlm (wC T t b) t fr q r from⟨I,y,fun n f s K=>w (fun o p=> ?_) (z n f s K)⟩)
   cases o with
   |a f s=>exact p
   |b i f s=>exact k _ p
   |c f s=>exact k _ p
def kCut (I:Fr->St->Prop)(Q:Out->Prop):Out->Prop
 | .a fr st=>I fr st
 | .b i fr st=>Q (.b i fr st)
 | .c fr st=>Q (.c fr st)
theorem Jgk (I:Fr->St->Prop)(Q:Out->Prop)(b:Fr)(c:St):kCut I Q (.a b c)=I b c:=propext Iff.rfl
theorem Jgl (I:Fr->St->Prop)(Q:Out->Prop)(i:Nat)(a:Fr)(c:St):kCut I Q (.b i a c)=Q (.b i a c):=propext Iff.rfl
theorem JiY (I:Fr->St->Prop)(Q:Out->Prop)(a:Fr)(b:St):kCut I Q (.c a b)=Q (.c a b):=propext Iff.rfl
theorem QE {l:List Nat}{a b:C}{K:Out->Prop}(I:Fr->St->Prop)(g:wC T t a p e (kCut I K))(j:∀f s,I f s->wC T t b f s K):wC T t (.h l a b) p e K:=
 Jl0 a (fun o d=>by
  cases o with
  |a f s=>exact j f s d
  |b i f s=>exact d
  |c f s=>exact d) g
end
end Eva
