/- An evaluator of the model's code, proved to tell what the model does. Evaluation told b -/
import Derived.Test.YtdajkeoobbonjaaGreatEvc6
import Derived.ChangeSlices
import Derived.ChangeMaps5
import Derived.Carry
import Derived.WideShapes
set_option linter.constructorNameAsVariable false
set_option linter.unusedVariables false
set_option linter.unusedSimpArgs false
set_option linter.unusedSectionVars false
namespace Eva
open Go Go.RowKit
variable {v:Option (List Nat)}{e i:St}{n b:V->St->Prop}{t g:Nat}{k:List V}{z:Bool}{d:List UInt8}{r:Table}{q:Pt}{p:Fr}{f:Nat->Row}{l:Fr->St->Prop}{m:World}
def Does (T:Table)(f:Nat)(args:List V)(st:St)(Q:V->St->Prop):Prop:=∃v st',Q v st'/\∃N,∀n,N<=n->run T n f args st=some (v,st')
theorem Does.A {args:List V}{st:St}{Q:V->St->Prop}(h:Does r t args st Q)(k:∀v st',Q v st'->n v st'):Does r t args st n:=by
 obtain⟨v,st',a,b⟩:=h;exact⟨v,st',k v st' a,b⟩
def wV (r:Option (V×Eff))(Q:V->Eff->Prop):Prop:=match r with
 |some (v,e)=>Q v e
 |none=>False
def JeQ (okW:Option (List Nat))(fr:Fr)(st st':St)(Q:St->Prop):Prop:=
 if st'.a<st.t then
  match okW with
  |none=>False
  |some l=>still fr st' st.t l=true/\Q {st' with a:=if st'.a<st.a then st'.a else st.a}
 else Q {st' with a:=st.a}
def Kh (T:Table)(m:Bool)(okW:Option (List Nat))(f:Nat)(args:List V)(fr:Fr)(st:St)(Q:V->St->Prop):Prop:=
 if m then Does T f args {st with a:=st.t} fun v st'=>JeQ okW fr st st' (Q v)else Does T f args st Q
def wFn (T:Table)(m:Bool)(okW:Option (List Nat))(x:V)(args:List V)(fr:Fr)(st:St)(Q:V->St->Prop):Prop:=match x with
 | .D f a b=>Kh T m okW f (a++args++b) fr st Q
 |_=>False
def wO (T:Table)(m:Bool)(okW:Option (List Nat))(op:Iop)(fr:Fr)(st:St)(Q:V->St->Prop):Prop:=match op with
 | .call f as=>Kh T m okW f (evs fr as) fr st Q
 | .callv x as=>wFn T m okW (x.A fr) (evs fr as) fr st Q
 |op=>wV (evOp fr st op) fun v e=>Q v (st.J e)
def wG (x:V)(want:Bool)(P:Prop)(Z:Prop):Prop:=match x with
 | .h b=>if b=want then P else Z
 | .p _=>Z
 |_=>False
def wI (T:Table)(drawn:Bool)(i:Ins)(fr:Fr)(st:St)(Q:Fr->St->Prop):Prop:=match i.a with
 |none=>wO T drawn i.c i.d fr st fun v st=>Q (put fr i.b v) st
 |some (g,want)=>wG (fr g) want (wO T drawn i.c i.d fr st fun v st=>Q (put fr i.b v) st) (Q (put fr i.b JY) st)
def wR (T:Table)(drawn:Bool):List Ins->Fr->St->(Fr->St->Prop)->Prop
 |[],fr,st,Q=>Q fr st
 |i::r,fr,st,Q=>wI T drawn i fr st fun fr st=>wR T drawn r fr st Q
def kSeq (b:Fr->St->(Out->Prop)->Prop)(Q:Out->Prop):Out->Prop
 | .a fr st=>b fr st Q
 | .b i fr st=>Q (.b i fr st)
 | .c fr st=>Q (.c fr st)
def kBlk (id:Nat)(Q:Out->Prop):Out->Prop
 | .a fr st=>Q (.a fr st)
 | .b i fr st=>if i=id then Q (.a fr st)else Q (.b i fr st)
 | .c fr st=>Q (.c fr st)
def JeR (I:Nat->Fr->St->Prop)(k:Nat)(Q:Out->Prop):Out->Prop
 | .a fr st=>∃j,j<k/\I j fr st
 | .b i fr st=>Q (.b i fr st)
 | .c fr st=>Q (.c fr st)
def JeS (x:V)(P R:Prop):Prop:=match x with
 | .h b=>if b=true then P else R
 |_=>False
def JlV (b:Fr->St->(Out->Prop)->Prop)(lf:Nat)(fr:Fr)(st:St)(Q:Out->Prop):Prop:=
 ∃I:Nat->Fr->St->Prop,(∃m,m<lf/\I m fr st)/\∀k fr st,I k fr st->b fr st (JeR I k Q)
def wC (T:Table)(lf:Nat):C->Fr->St->(Out->Prop)->Prop
 | .d,fr,st,Q=>Q (.a fr st)
 | .k l,fr,st,Q=>wR T false l fr st fun fr st=>Q (.a fr st)
 | .n l chk,fr,st,Q=>wR T true l fr st fun fr st=>JM fr chk=true/\Q (.a fr st)
 | .j a b,fr,st,Q=>wC T lf a fr st (kSeq (wC T lf b) Q)
 | .h _ a b,fr,st,Q=>wC T lf a fr st (kSeq (wC T lf b) Q)
 | .f c a b,fr,st,Q=>JeS (c.A fr) (wC T lf a fr st Q) (wC T lf b fr st Q)
 | .e id b,fr,st,Q=>wC T lf b fr st (kBlk id Q)
 | .g _ b,fr,st,Q=>JlV (wC T lf b) lf fr st Q
 | .i id,fr,st,Q=>Q (.b id fr st)
 | .m,fr,st,Q=>Q (.c fr st)
section
variable {T : Table} {fr : Fr} {st : St}
theorem JdN {args:List V}(h:Kh T z v t args fr st b):
  ∃c d,b c d/\∃N,∀n,N<=n->∀i,(∀self s,KW self fr s i=self t args s)->(if z then KQ (run T n) v fr st i else KW (run T n) fr st i)=some (c,d):=by
 unfold Kh at h
 cases z with
 | false=>
   obtain⟨c,d,g,N,k⟩:=h;refine⟨c,d,g,N,fun n j i e=> ?_⟩
   grind
 | true=>
   obtain⟨c,d,g,N,k⟩:=h;unfold JeQ at g;by_cases o:d.a<st.t
   ·rw[Xe o]at g
    cases v with
    |none=>grind
    | some l=>
      refine⟨c,_,g.2,N,fun n j i e=> ?_⟩;simp[KQ,e,k n j]
      grind
   ·rw[Xa o]at g;refine⟨c,_,g,N,fun n j i e=> ?_⟩;simp[KQ,e,k n j]
    grind
theorem Jon {i:Iop}(h:wO T z v i fr st b):
  ∃c g,b c g/\∃N,∀n,N<=n->(if z&&i.A then KQ (run T n) v fr st i else KW (run T n) fr st i)=some (c,g):=by
 have j:∀{i:Iop},i.A=false->(∀self,KW self fr st i=(evOp fr st i).map fun(c,e)=>(c,st.J e))->wV (evOp fr st i) (fun c e=>b c (st.J e))->
   ∃c g,b c g/\∃N,∀n,N<=n->(if z&&i.A then KQ (run T n) v fr st i else KW (run T n) fr st i)=some (c,g):=by
  intro i p q h;unfold wV at h
  split at h
  ·rename_i c e r
   refine⟨c,_,h,0,fun n _=> ?_⟩
   grind
  grind
 cases i
 case call f as=>
  obtain⟨c,g,k,N,l⟩:=JdN (show Kh T z v f (evs fr as) fr st b from h);refine⟨c,g,k,N,fun n m=> ?_⟩;have:=l n m (.call f as) fun _ _=>rfl;simpa[Iop.A]using this
 case callv x as=>
  have h:wFn T z v (x.A fr) (evs fr as) fr st b:=h;unfold wFn at h
  split at h
  ·rename_i f a d o
   obtain⟨c,g,k,N,l⟩:=JdN h;refine⟨c,g,k,N,fun n m=> ?_⟩;have:=l n m (.callv x as) fun _ _=>by simp[KW,o]
   simpa[Iop.A]using this
  grind
 all_goals exact j rfl (fun _=>rfl) h
theorem Joo {i:Ins}(h:wI T z i fr st l):∃j f,l j f/\∃N,∀n,N<=n->Yq (run T n) z fr st i=some (j,f):=by
 have o:wO T z i.c i.d fr st (fun v st=>l (put fr i.b v) st)->∃j f,l j f/\∃N,∀n,N<=n->evGo (run T n) z fr st i=some (j,f):=by
  intro h;obtain⟨v,f,k,N,p⟩:=Jon h;refine⟨_,_,k,N,fun n q=> ?_⟩;unfold evGo
  grind
 unfold wI at h
 split at h
 ·rename_i m
  obtain⟨j,f,k,N,p⟩:=o h;exact⟨j,f,k,N,fun n q=>by simp[Yq,m];grind⟩
 ·rename_i g r m
  unfold wG at h
  split at h
  ·rename_i b s
   split at h
   ·rename_i e
    obtain⟨j,f,k,N,p⟩:=o h;exact⟨j,f,k,N,fun n q=>by simp[Yq,m,s];grind⟩
   ·rename_i e
    exact⟨_,_,h,0,fun n _=>by simp[Yq,m,s];grind⟩
  ·rename_i a t
   exact⟨_,_,h,0,fun n _=>by simp[Yq,m,t]⟩
  grind
theorem JeT {a:Bool}:∀{l:List Ins} {fr:Fr} {st:St} {Q:Fr->St->Prop},wR T a l fr st Q->∃b c,Q b c/\∃N,∀n,N<=n->Kj (run T n) a l fr st=some (b,c)
 |[],fr,st,_,h=>⟨fr,st,h,0,fun _ _=>rfl⟩
 | i::r,_,_,_,h=>by
   obtain⟨f,g,j,N,k⟩:=Joo (show wI T a i _ _ (fun fr st=>wR T a r fr st _)from h);obtain⟨d,e,m,M,o⟩:=JeT j;exact⟨d,e,m,max N M,fun n p=>by simp[Kj,k n (by omega)];grind⟩
theorem Jop (c:C):∀{fr:Fr} {st:St} {Q:Out->Prop},wC T t c fr st Q->∃o,Q o/\∃N,∀n,N<=n->evD (run T n) t c fr st=some o:=by
 induction c with
 |d=>exact fun h=>⟨_,h,0,fun _ _=>rfl⟩
 |i id=>exact fun h=>⟨_,h,0,fun _ _=>rfl⟩
 |m=>exact fun h=>⟨_,h,0,fun _ _=>rfl⟩
 | k l=>
   intro fr st Q h;obtain⟨L,O,s,N,w⟩:=JeT (show wR T false l fr st _ from h);exact⟨_,s,N,fun n u=>by simp[evD,w n u]⟩
 | n l Z=>
   intro fr st Q h;obtain⟨L,O,s,N,w⟩:=JeT (show wR T true l fr st _ from h);exact⟨_,s.2,N,fun n u=>by simp[evD,w n u];grind⟩
 | j a b x y=>
   intro fr st Q h;obtain⟨o,s,N,w⟩:=x (show wC T t a fr st (kSeq (wC T t b) Q)from h)
   cases o with
   | a q r=>
     obtain⟨J,K,M,X⟩:=y (show wC T t b q r Q from s);exact⟨J,K,max N M,fun n u=>by simp[evD,w n (by omega)];grind⟩
   |b i q r=>exact⟨_,s,N,fun n u=>by simp[evD,w n u]⟩
   |c q r=>exact⟨_,s,N,fun n u=>by simp[evD,w n u]⟩
 | h l a b x y=>
   intro fr st Q h;obtain⟨o,s,N,w⟩:=x (show wC T t a fr st (kSeq (wC T t b) Q)from h)
   cases o with
   | a q r=>
     obtain⟨J,K,M,X⟩:=y (show wC T t b q r Q from s);exact⟨J,K,max N M,fun n u=>by simp[evD,w n (by omega)];grind⟩
   |b i q r=>exact⟨_,s,N,fun n u=>by simp[evD,w n u]⟩
   |c q r=>exact⟨_,s,N,fun n u=>by simp[evD,w n u]⟩
 | f c a b x y=>
   intro fr st Q h;have h:JeS (c.A fr) (wC T t a fr st Q) (wC T t b fr st Q):=h;unfold JeS at h
   split at h
   ·rename_i p Y
    split at h
    ·rename_i e
     obtain⟨o,s,N,w⟩:=x h;exact⟨o,s,N,fun n u=>by simp[evD,Y,e];grind⟩
    ·rename_i e
     obtain⟨o,s,N,w⟩:=y h;exact⟨o,s,N,fun n u=>by simp[evD,Y,e];grind⟩
   grind
 | e id b P=>
   intro fr st Q h;obtain⟨o,s,N,w⟩:=P (show wC T t b fr st (kBlk id Q)from h)
   cases o with
   |a q r=>exact⟨_,s,N,fun n u=>by simp[evD,w n u]⟩
   |c q r=>exact⟨_,s,N,fun n u=>by simp[evD,w n u]⟩
   | b i q r=>
     by_cases e:i=id
     ·have s:Q (.a q r):=by simpa[kBlk,e]using s
      exact⟨_,s,N,fun n u=>by simp[evD,w n u];grind⟩
     ·have s:Q (.b i q r):=by simpa[kBlk,e]using s
      exact⟨_,s,N,fun n u=>by simp[evD,w n u];grind⟩
 | g l b P=>
   intro fr st Q h;obtain⟨I,⟨m,hm,S⟩,z⟩:=(show JlV (wC T t b) t fr st Q from h)
   have U:∀m fr st,I m fr st->∀v,m<v->∃o,Q o/\∃N,∀n,N<=n->Jad (evD (run T n) t b) l v fr st=some o:=by
    intro m
    induction m using Nat.strongRecOn with
    | _ m im=>
      intro fr st S v hf;obtain⟨v,rfl⟩:∃k,v=k+1:=⟨v-1,by omega⟩
      obtain⟨o,s,N,w⟩:=P (z m fr st S)
      cases o with
      | a q r=>
        obtain⟨j,hj,W⟩:=s;obtain⟨J,K,M,X⟩:=im j hj q r W v (by omega);exact⟨J,K,max N M,fun n u=>by simp[Jad,w n (by omega)];grind⟩
      |b i q r=>exact⟨_,s,N,fun n u=>by simp[Jad,w n u]⟩
      |c q r=>exact⟨_,s,N,fun n u=>by simp[Jad,w n u]⟩
   exact U m fr st S t hm
end
def resP (st:St)(fr:Fr)(res:List RS)(Q:V->St->Prop):Prop:=match Ql res fr st with
 |some v=>Q v st
 |none=>False
def kRet (res:List RS)(Q:V->St->Prop):Out->Prop
 | .a fr st=>resP st fr res Q
 | .b _ _ _=>False
 | .c fr st=>resP st fr res Q
theorem JiO (a:St)(b:Fr)(i:Nat)(Q:V->St->Prop):resP a b [.s i] Q=Q (b i) a:=rfl
theorem JiP (b:St)(a:Fr)(i j:Nat)(Q:V->St->Prop):resP b a [.s i, .s j] Q=Q (.p [a i,a j]) b:=rfl
theorem JeU (b:St)(a:Fr)(i j k:Nat)(Q:V->St->Prop):resP b a [.s i, .s j, .s k] Q=Q (.p [a i,a j,a k]) b:=rfl
theorem JiQ (a:St)(b:Fr)(Q:V->St->Prop):resP a b [] Q=Q (.p []) a:=rfl
theorem Jl {l:Fn}{b:Self->List V->St->Option (V×St)}(p:r t=some b)(q:b=evFn g l){args:List V}{Q:V->St->Prop}
  (h:wC r g l.body (qG args) e (kRet l.a Q)):Does r t args e Q:=by
 subst q;obtain⟨o,j,N,u⟩:=Jop l.body h;have m:∀fr d,(o= .a fr d\/o= .c fr d)->Does r t args e Q:=by
  intro fr d s;have j:resP d fr l.a Q:=by rcases s with rfl|rfl<;>exact j
  unfold resP at j
  split at j
  ·rename_i v w
   refine⟨v,d,j,N+1,fun n x=> ?_⟩;obtain⟨n,rfl⟩:∃k,n=k+1:=⟨n-1,by omega⟩
   simp[run,p];unfold evFn
   grind
  ·exact j.elim
 cases o with
 |a fr d=>exact m fr d (.inl rfl)
 |c fr d=>exact m fr d (.inr rfl)
 |b i fr d=>exact j.elim
def Up (s s':Self):Prop:=∀f a st r,s f a st=some r->s' f a st=some r
section
variable {s s' : Self} (h : Up s s')
include h
end
structure Gr (a b:St):Prop where
 i:Mono a b
 d:∀r,a.A r≠ .none->b.A r=a.A r
 j:a.a<=a.t->b.a=a.a
theorem Gr.F (h:WF e):Gr e e:=⟨Mono.B h,fun _ _=>rfl,fun _=>rfl⟩
theorem Gr.D {b:St}(h:Gr e b):WF b:=h.i.wf
theorem Gr.A {a b c:St}(h:Gr a b)(k:Gr b c):Gr a c:=
 ⟨h.i.A k.i,fun r e=>by rw[k.d r (by rw[h.d r e];exact e),h.d r e],fun e=>by
  have f:=h.j e;have g:=h.i.t;rw[k.j (by omega),f]⟩
theorem Gr.U {b:St}(h:Gr e b){x:Row}(c:e.A q=x)(f:x≠ .none):b.A q=x:=by rw[h.d q (by grind),c]
theorem Gr.B {b:St}(h:Gr e b)(c:e.A q= .a t k):b.A q= .a t k:=h.U c (by simp)
theorem J6 (h:WF e):e.A e.b= .none:=by
 apply Xd;intro c;exact absurd (h.a _ c) (Gi _)
theorem Jsb (h:WF e)(k:e.A q≠ .none):q≠e.b:=fun a=>k (by rw[a];exact J6 h)
theorem Gr.G {st:St}(h:WF st)(a:∀u,(f u).A=u/\f u≠ .none):Gr st (st.B f):=
 ⟨jd h a,fun r e=>by rw[St.F,Jy _ _ (Jsb h e)],fun _=>rfl⟩
theorem JI (a:St)(f:Nat->Row):(a.B f).A a.b=f a.t:=by rw[St.F,JC]
theorem Jh (a:St)(p:Pt)(t:Nat)(f:Nat->Row):(a.D p t f).A p=f a.t:=by rw[St.G,JC]
theorem Jj (a:St){r:Pt}(t:Nat)(f:Nat->Row)(h:r≠q):(a.D q t f).A r=a.A r:=by rw[St.G,Jy _ _ h]
theorem Gr.O {b:St}(h:Gr e b)(c:e.A q= .none)(f:b.A q≠ .none):e.t<=(b.A q).A:=(h.i.d q (by grind)).1
theorem Gr.J {st:St}(h:Gr e st){p:Pt}(g:e.A p= .none)(c:st.A p≠ .none)(l:(st.A p).A=t)(m:∀u,(f u).A=u/\f u≠ .none):Gr e (st.D p t f):=by
 have n:=Q8 h.D c l m;refine⟨h.i.A n,fun r b=> ?_,fun b=> ?_⟩
 ·have:r≠p:=fun k=>b (by grind);rw[Jj _ _ _ this,h.d r b]
 ·have o:=h.j b;have q:=h.O g c;show(if t<st.a then t else st.a)=e.a
  grind
theorem Gr.Q {b:St}(h:Gr e b)(k:e.A q= .none)(l:b.A q≠ .none)(m:(b.A q).A=t)(n:∀u,(f u).A=u/\f u≠ .none):Gr e ((b.D q t .c).B f):=by
 have g:=h.J (f:= .c) k l m (fun u=>⟨rfl,by simp⟩);exact g.A (Gr.G g.D n)
theorem Gr.N {b:St}(h:Gr {e with a:=e.t} b):Gr e {b with a:=e.a}:=by
 refine⟨⟨Jq h.D _,h.i.t,h.i.i,h.i.d,Xb _,fun r c g=> ?_,h.i.f⟩,h.d,fun _=>rfl⟩;exact absurd (h.d r c) g
theorem Je {args:List V}(h:Does r t args e n)(k:∀a c,n a c->b a c):Kh r false v t args p e b:=h.A k
theorem Ji {args:List V}{P:V->St->Prop}(h:Does r t args {e with a:=e.t} fun b c=>Gr {e with a:=e.t} c/\P b c)
  (k:∀b c,Gr e c->P b {c with a:=e.t}->n b c):Kh r true v t args p e n:=by
 unfold Kh;simp;refine h.A fun b c ⟨g,i⟩=> ?_;have d:=g.j (Xb _);have d:c.a=e.t:=d;unfold JeQ;rw[Xa (by omega)];refine k b _ g.N ?_;show P b {c with a:=e.t};rw[<-d];exact i
def ofL (l:List UInt8):V:= .t l.length (snum l)
def JeV (l:List UInt8)(i:Nat):Int:=((l.getD i 0).toNat:Int)
theorem JbJ {l:List UInt8}{i:Nat}(h:i<l.length):JeV l i=(l[i].toNat:Int):=by
 unfold JeV
 grind
theorem Jq1 {b:List UInt8}:ofL d=ofL b<->d=b:=by
 constructor
 ·intro h;unfold ofL at h;injection h with c e;exact jb c e
 grind
section
variable (fr : Fr) (st : St)
theorem Jt8 (x:Opd):evOp fr st (.Q x)=some (x.A fr, .a):=Xf (Xl _)
def Joq (c a b:V):Option (V×Eff):=match c with
 | .h t=>some (if t then a else b, .a)
 |_=>none
theorem Jor (c a b:Opd):evOp fr st (.pick c a b)=Joq (c.A fr) (a.A fr) (b.A fr):=Xf (Xl _)
theorem JeW (a b:V):Joq (.h true) a b=some (a, .a):=Xf (Xl _)
theorem JdO (a b:V):Joq (.h false) a b=some (b, .a):=Xf (Xl _)
theorem JlW (c:List V):evOp fr st (.alloc c)=some (.g st.b 0, .b fun t=> .a t c):=Xf (Xl _)
theorem Jsc (x:Opd):evOp fr st (.box x)=boxV st (x.A fr):=Xf (Xl _)
theorem JlX (a:List V)(b:List (Nat×Nat×Opd)):evOp fr st (.build a b)=Jok st a (evps fr b):=Xf (Xl _)
theorem Jsd (z n:Nat)(a:List V)(b:List (Nat×Nat×Opd)):evOp fr st (.bsl z n a b)=bslV st z n a (evps fr b):=Xf (Xl _)
def ld1 (r:Row)(o:Nat):Option (V×Eff):=match r with
 | .a _ l=>(l[o]?).map fun v=>(v, .a)
 | .f l=>(l[o]?).map fun v=>(v, .a)
 |_=>none
def JkW (st:St)(x:V):Option (V×Eff):=match x with
 | .g r o=>ld1 (st.A r) o
 |_=>none
theorem take1 (l:List V)(o:Nat):(if o+1<=l.length then some ((l.drop o).take 1)else none)=(l[o]?).map fun v=>[v]:=by
 by_cases h:o+1<=l.length
 ·rw[Xe h,Xg (by omega),Xc (by omega)];rfl
 grind
theorem JlY (x:Opd):evOp fr st (.l x)=JkW st (x.A fr):=by
 show(match Kn st 1 (x.A fr)with
  |some [v]=>some (v,Eff.a)
  |_=>none)=_
 cases x.A fr<;>try rfl
 rename_i r o
 simp[Kn,JkW]
 cases st.A r with
 | a t l=>
   simp[take1,ld1]
   grind
 | f l=>
   simp[take1,ld1]
   grind
 |_=>rfl
def ldn (r:Row)(o n:Nat):Option (V×Eff):=match r with
 | .a _ l=>if o+n<=l.length then some (.j ((l.drop o).take n), .a)else none
 | .f l=>if o+n<=l.length then some (.j ((l.drop o).take n), .a)else none
 |_=>none
def QV (st:St)(n:Nat)(x:V):Option (V×Eff):=match x with
 | .g r o=>ldn (st.A r) o n
 |_=>none
theorem jC (n:Nat)(x:Opd):evOp fr st (.p n x)=QV st n (x.A fr):=by
 show(Kn st n (x.A fr)).map _=_
 cases x.A fr<;>try rfl
 rename_i r o
 simp[Kn,QV]
 cases st.A r with
 |a t l=>simp only[ldn];simp
 |f l=>simp only[ldn];simp
 |_=>rfl
theorem Ja1 (t:Nat)(l:List V)(o:Nat):ld1 (.a t l) o=(l[o]?).map fun v=>(v, .a):=Xf (Xl _)
theorem JkX (l:List V)(o:Nat):ld1 (.f l) o=(l[o]?).map fun v=>(v, .a):=Xf (Xl _)
theorem Ym (t:Nat)(l:List V)(o n:Nat):ldn (.a t l) o n=if o+n<=l.length then some (.j ((l.drop o).take n), .a)else none:=Xf (Xl _)
theorem JeX (l:List V)(o n:Nat):ldn (.f l) o n=if o+n<=l.length then some (.j ((l.drop o).take n), .a)else none:=Xf (Xl _)
theorem JeY (r:Pt)(o:Nat):JkW st (.g r o)=ld1 (st.A r) o:=Xf (Xl _)
theorem JeZ (n:Nat)(r:Pt)(o:Nat):QV st n (.g r o)=ldn (st.A r) o n:=Xf (Xl _)
def JkY (x:V):Option (V×Eff):=match x with
 | .g r o=>some (.g r o, .a)
 | .D f a b=>some (.D f a b, .a)
 |_=>none
theorem JlZ (x:Opd):evOp fr st (.q x)=JkY (x.A fr):=Xf (Xl _)
theorem Je0 (r:Pt)(o:Nat):JkY (.g r o)=some (.g r o, .a):=Xf (Xl _)
theorem Jgw (f:Nat)(a b:List V):JkY (.D f a b)=some (.D f a b, .a):=Xf (Xl _)
def eqV (e:EK)(neg:Bool)(x y:V):Option (V×Eff):=(e.B x y).map fun t=>(.h (t !=neg), .a)
theorem Jt9 (e:EK)(a:Bool)(x y:Opd):evOp fr st (.S e a x y)=eqV e a (x.A fr) (y.A fr):=Xf (Xl _)
theorem Jl0 (k:IntKind)(a b:Int):eqV (.a .i) false (.d k a) (.d k b)=some (.h (decide (a=b)), .a):=by
 simp[eqV,EK.B,keq];rfl
theorem Jl1 (k:IntKind)(a b:Int):eqV (.a .i) true (.d k a) (.d k b)=some (.h (decide (a≠b)), .a):=by
 simp[eqV,EK.B,keq];rfl
theorem Jcj (a b:List UInt8):(a.length==b.length&&snum a==snum b)=decide (a=b):=by
 rw[Hm,Zg,Xk,ZF,ZF];exact⟨fun⟨c,d⟩=>jb c d,fun h=>by grind⟩
theorem Jl2 (a b:List UInt8):eqV (.a .s) false (ofL a) (ofL b)=some (.h (decide (a=b)), .a):=by
 simp[eqV,EK.B,keq,ofL,Jcj]
theorem Jl3 (a b:List UInt8):eqV (.a .s) true (ofL a) (ofL b)=some (.h (decide (a≠b)), .a):=by
 simp[eqV,EK.B,keq,ofL,Jcj,decide_not]
theorem JiR (a b:Bool):eqV (.a .b) false (.h a) (.h b)=some (.h (decide (a=b)), .a):=by
 cases a<;>cases b<;>rfl
theorem JiS (a b:Bool):eqV (.a .b) true (.h a) (.h b)=some (.h (decide (a≠b)), .a):=by
 cases a<;>cases b<;>rfl
def binV (op:BinOp)(x y:V):Option (V×Eff):=(arith op x y).map fun v=>(v, .a)
theorem Jse (a:BinOp)(x y:Opd):evOp fr st (.N a x y)=binV a (x.A fr) (y.A fr):=Xf (Xl _)
theorem JiT (k:IntKind)(a b:Int):binV .add (.d k a) (.d k b)=some (.d k (k.wrap (a+b)), .a):=by simp[binV,arith]
theorem JiU (k:IntKind)(a b:Int):binV .sub (.d k a) (.d k b)=some (.d k (k.wrap (a-b)), .a):=by simp[binV,arith]
theorem JiV (k:IntKind)(a b:Int):binV .mul (.d k a) (.d k b)=some (.d k (k.wrap (a*b)), .a):=by simp[binV,arith]
theorem JiW (k:IntKind)(a b:Int):binV .rem (.d k a) (.d k b)=if b≠0 then some (.d k (a.tmod b), .a)else none:=by
 by_cases h:b=0<;>simp[binV,arith,h]
theorem JiX (k:IntKind)(a b:Int):binV .quo (.d k a) (.d k b)=if b≠0 then some (.d k (k.wrap (a.tdiv b)), .a)else none:=by
 by_cases h:b=0<;>simp[binV,arith,h]
theorem JiY (k:IntKind)(a b:Int):binV .lss (.d k a) (.d k b)=some (.h (decide (a<b)), .a):=by simp[binV,arith]
theorem JiZ (k:IntKind)(a b:Int):binV .leq (.d k a) (.d k b)=some (.h (decide (a<=b)), .a):=by simp[binV,arith]
theorem Ji0 (k:IntKind)(a b:Int):binV .gtr (.d k a) (.d k b)=some (.h (decide (b<a)), .a):=by simp[binV,arith]
theorem Ji1 (k:IntKind)(a b:Int):binV .geq (.d k a) (.d k b)=some (.h (decide (b<=a)), .a):=by simp[binV,arith]
theorem Ji2 (a b:List UInt8):binV .add (ofL a) (ofL b)=if a.length+b.length<2^62 then some (ofL (a++b), .a)else none:=by
 simp[binV,arith,ofL]
 split
 ·simp[JlG]
 ·rfl
theorem Je1 (a b:List UInt8):binV .lss (ofL a) (ofL b)=some (.h (Op.bytesLess a b), .a):=by
 simp[binV,arith,ofL,Jaq]
theorem Jgx (a b:List UInt8):binV .geq (ofL a) (ofL b)=some (.h (!Op.bytesLess a b), .a):=by
 simp[binV,arith,ofL,Jaq]
def notV (x:V):Option (V×Eff):=match x with
 | .h t=>some (.h !t, .a)
 |_=>none
theorem Jsf (x:Opd):evOp fr st (.not x)=notV (x.A fr):=Xf (Xl _)
theorem Jgy (b:Bool):notV (.h b)=some (.h !b, .a):=Xf (Xl _)
theorem Jl4 (k:IntKind)(x:Opd):evOp fr st (.r k x)=Jol st k (x.A fr):=Xf (Xl _)
theorem Je2 (k b:IntKind)(n:Int):Jol st k (.d b n)=some (.d k (k.wrap n), .a):=Xf (Xl _)
theorem Jos (f:Nat)(a b:List Opd):evOp fr st (.mkfn f a b)=some (.D f (evs fr a) (evs fr b), .a):=Xf (Xl _)
theorem Jot (x:Opd)(a b:Option Opd):evOp fr st (.cutS x a b)=Jci st (x.A fr) (a.map (Opd.A fr)) (b.map (Opd.A fr)):=Xf (Xl _)
theorem Qw (k:IntKind)(n:Int):QK (.d k n)=if 0<=n then some n.toNat else none:=Xf (Xl _)
theorem Jl5 (l:List UInt8)(k:IntKind)(a:Int):Jci st (ofL l) (some (.d k a)) none=if 0<=a/\a<=l.length then some (ofL (l.drop a.toNat), .a)else none:=by
 simp only[Jci,ofL,JZ,Qw];by_cases h:0<=a
 ·simp only[h,ZS,Z6];by_cases b:a<=l.length
  ·rw[Xe ⟨by omega,Xb _⟩,Xe b,Jb2,Ha,Xt (by simp)]
  grind
 grind
theorem Jl6 (l:List UInt8)(k:IntKind)(b:Int):Jci st (ofL l) none (some (.d k b))=if 0<=b/\b<=l.length then some (ofL (l.take b.toNat), .a)else none:=by
 simp only[Jci,ofL,JZ,Qw];by_cases h:0<=b
 ·simp only[h,ZS,Z6];by_cases c:b<=l.length
  ·rw[Xe ⟨XC _,by omega⟩,Xe c,Jb2,XS,XP,Zd (by omega)];rfl
  grind
 grind
theorem Jgz (l:List UInt8)(k c:IntKind)(a b:Int):Jci st (ofL l) (some (.d k a)) (some (.d c b))=if 0<=a/\a<=b/\b<=l.length then some (ofL ((l.drop a.toNat).take (b.toNat-a.toNat)), .a)else none:=by
 simp only[Jci,ofL,JZ,Qw];by_cases h:0<=a
 ·by_cases e:0<=b
  ·simp only[h,e,ZS,Z6];by_cases f:a<=b/\b<=l.length
   ·rw[Xe ⟨by omega,by omega⟩,Xe f,Jb2,XS,Ha,Zd (by omega)]
   grind
  grind
 grind
theorem Ji3 (l:List UInt8):Jci st (ofL l) none none=some (ofL l, .a):=by
 simp only[Jci,ofL,JZ];rw[Xe ⟨XC _,Xb _⟩,Jb2];simp
theorem Jou (z:Nat)(x:Opd)(a b c:Option Opd):evOp fr st (.cutL z x a b c)=QG st z (x.A fr) (a.map (Opd.A fr)) (b.map (Opd.A fr)) (c.map (Opd.A fr)):=Xf (Xl _)
def Jov (o:Nat)(x:V):Option (V×Eff):=match x with
 | .g r q=>some (.g r (q+o), .a)
 |_=>none
theorem Jl7 (o:Nat)(x:Opd):evOp fr st (.j o x)=Jov o (x.A fr):=Xf (Xl _)
theorem Je3 (o:Nat)(r:Pt)(q:Nat):Jov o (.g r q)=some (.g r (q+o), .a):=Xf (Xl _)
def fldV (o:Nat)(n:Option Nat)(x:V):Option (V×Eff):=match x with
 | .j l=>match n with
   |some n=>if o+n<=l.length then some (.j ((l.drop o).take n), .a)else none
   |none=>(l[o]?).map fun v=>(v, .a)
 |_=>none
theorem Jsg (o:Nat)(n:Option Nat)(x:Opd):evOp fr st (.O o n x)=fldV o n (x.A fr):=rfl
theorem Ji4 (o:Nat)(l:List V):fldV o none (.j l)=(l[o]?).map fun v=>(v, .a):=Xf (Xl _)
theorem JgA (o n:Nat)(l:List V):fldV o (some n) (.j l)=if o+n<=l.length then some (.j ((l.drop o).take n), .a)else none:=Xf (Xl _)
def Js (z:Nat)(x i:V):Option (V×Eff):=match QK i,x with
 |some i, .w r o n z'=>if i<n/\z=z' then some (.g r (o+i*z), .a)else none
 |some i, .m r o n z' _=>if i<n/\z=z' then some (.g r (o+i*z), .a)else none
 |_,_=>none
theorem Ji5 (z:Nat)(x i:Opd):evOp fr st (.h z x i)=Js z (x.A fr) (i.A fr):=Xf (Xl _)
theorem kX (z:Nat)(r:Pt)(o n:Nat)(k:IntKind)(i:Int):Js z (.w r o n z) (.d k i)=if 0<=i/\i<n then some (.g r (o+i.toNat*z), .a)else none:=by
 simp[Js,Qw]
 grind
theorem jf (z:Nat)(r:Pt)(o n c:Nat)(k:IntKind)(i:Int):Js z (.m r o n z c) (.d k i)=if 0<=i/\i<n then some (.g r (o+i.toNat*z), .a)else none:=by
 simp[Js,Qw]
 grind
def Jow (x i:V):Option (V×Eff):=match QK i,x with
 |some i, .t n v=>if i<n then some (.d .u8 (Yi v i), .a)else none
 |_,_=>none
theorem Jox (x i:Opd):evOp fr st (.u x i)=Jow (x.A fr) (i.A fr):=Xf (Xl _)
theorem Ji6 (l:List UInt8)(k:IntKind)(i:Int):Jow (ofL l) (.d k i)=if 0<=i/\i<l.length then some (.d .u8 (JeV l i.toNat), .a)else none:=by
 simp[Jow,Qw,ofL];by_cases h:0<=i
 ·simp only[h,ZS,Z6];by_cases c:i<l.length
  ·have b:i.toNat<l.length:=by omega
   rw[Xe b,Xe c,Jb3 l i.toNat _ (Xg b),JbJ b]
  grind
 grind
def extV (n:Nat)(x:V):Option (V×Eff):=match x with
 | .p l=>(l[n]?).map fun v=>(v, .a)
 |_=>none
theorem Jsh (n:Nat)(x:Opd):evOp fr st (.M n x)=extV n (x.A fr):=Xf (Xl _)
theorem Ji7 (n:Nat)(l:List V):extV n (.p l)=(l[n]?).map fun v=>(v, .a):=Xf (Xl _)
def Jsi (x:V):Option (V×Eff):=match x with
 | .t n _=>some (.d .i64 n, .a)
 |_=>none
theorem Joy (x:Opd):evOp fr st (.J x)=Jsi (x.A fr):=Xf (Xl _)
theorem Ji8 (l:List UInt8):Jsi (ofL l)=some (.d .i64 l.length, .a):=Xf (Xl _)
def J8 (x:V):Option (V×Eff):=(slen x).map fun n=>(.d .i64 n, .a)
theorem Joz (x:Opd):evOp fr st (.w x)=J8 (x.A fr):=Xf (Xl _)
theorem Ji9 :J8 .e=some (.d .i64 0, .a):=Xf (Xl _)
theorem Jl8 (r:Pt)(o n z:Nat):J8 (.w r o n z)=some (.d .i64 n, .a):=Xf (Xl _)
theorem Jja (r:Pt)(o n z c:Nat):J8 (.m r o n z c)=some (.d .i64 n, .a):=Xf (Xl _)
theorem Jl9 (z:Nat)(s x:Opd):evOp fr st (.app z s x)=appV st z (s.A fr) (x.A fr):=Xf (Xl _)
theorem Jte (x:Opd):evOp fr st (.L x)=Jr9 st (x.A fr):=Xf (Xl _)
theorem JoA (l:List UInt8):Jr9 st (ofL l)=some (.g st.b 0, .b fun t=> .e t l.length (snum l) 0):=Xf (Xl _)
theorem Jma (x:Opd):evOp fr st (.nextS x)=JeO st (x.A fr):=Xf (Xl _)
theorem Jua (x:Opd):evOp fr st (.P x)=btsV st (x.A fr):=Xf (Xl _)
end
theorem JX {n:Int}(a: -9223372036854775808<=n)(b:n<9223372036854775808):IntKind.i64.wrap n=n:=by
 simp[IntKind.wrap,IntKind.bits,IntKind.signed];omega
theorem Jsj {n:Int}(a:0<=n)(b:n<256):IntKind.u8.wrap n=n:=by
 simp[IntKind.wrap,IntKind.bits,IntKind.signed]
 grind
theorem JoB {n:Int}(a: -2147483648<=n)(b:n<2147483648):IntKind.i32.wrap n=n:=by
 simp[IntKind.wrap,IntKind.bits,IntKind.signed];omega
theorem JoC (a:Fr)(i:Nat)(v:V)(j:Nat):put a (some i) v j=if j=i then v else a j:=Xf (Xl _)
theorem Jjb (a:Fr)(v:V):put a none v=a:=Xf (Xl _)
theorem Jsk (b:St):b.J .a=b:=Xf (Xl _)
theorem JoD (a:St)(f:Nat->Row):a.J (.b f)=a.B f:=Xf (Xl _)
theorem Jmb (a:St)(p:Pt)(t:Nat)(f:Nat->Row):a.J (.d p t f)=a.D p t f:=Xf (Xl _)
theorem Jsl (a:St)(p:Pt)(t:Nat)(f:Nat->Row):a.J (.e p t f)=(a.D p t .c).B f:=Xf (Xl _)
theorem Jub (a:Fr)(i:Nat):Opd.A a (.s i)=a i:=Xf (Xl _)
theorem Juc (a:Fr)(v:V):Opd.A a (.c v)=v:=Xf (Xl _)
theorem Jmc (a:Fr):evs a []=[]:=Xf (Xl _)
theorem Jjc (a:Fr)(x:Opd)(l:List Opd):evs a (x::l)=x.A a::evs a l:=Xf (Xl _)
theorem JgB (args:List V)(i:Nat):qG args i=(args[i]?).getD JY:=Xf (Xl _)
def wW (r:Option (V×Eff))(st:St)(R:V->St->Prop):Prop:=match r with
 |some (v,e)=>R v (st.J e)
 |none=>False
theorem Jmd (v:V)(e:Eff)(a:St)(R:V->St->Prop):wW (some (v,e)) a R=R v (a.J e):=propext Iff.rfl
theorem JoE (c:Prop)[Decidable c](x:Option (V×Eff))(a:St)(R:V->St->Prop):wW (if c then x else none) a R=(c/\wW x a R):=by
 by_cases h:c<;>simp[h,wW]
def oK (T:Table)(d:Bool)(fr:Fr)(dst:Option Nat)(r:List Ins)(R:Fr->St->Prop):V->St->Prop:=fun v st=>wR T d r (put fr dst v) st R
def rN (K:Out->Prop):Fr->St->Prop:=fun fr st=>K (.a fr st)
def rD (chk:List (List Nat×List Nat))(K:Out->Prop):Fr->St->Prop:=fun fr st=>JM fr chk=true/\K (.a fr st)
def cK (T:Table)(lf:Nat)(b:C)(K:Out->Prop):Out->Prop:=kSeq (wC T lf b) K
def wGd (x:V)(want:Bool)(T:Table)(d:Bool)(ow:Option (List Nat))(op:Iop)(fr:Fr)(st:St)(dst:Option Nat)(r:List Ins)(R:Fr->St->Prop):Prop:=
 wG x want (wO T d ow op fr st (oK T d fr dst r R)) (wR T d r (put fr dst JY) st R)
def bP (x:V)(T:Table)(lf:Nat)(a b:C)(fr:Fr)(st:St)(K:Out->Prop):Prop:=JeS x (wC T lf a fr st K) (wC T lf b fr st K)
theorem Jsm (T:Table)(d:Bool)(b:Fr)(a:Option Nat)(r:List Ins)(R:Fr->St->Prop)(v:V)(c:St):oK T d b a r R v c=wR T d r (put b a v) c R:=propext Iff.rfl
theorem Jsn (K:Out->Prop)(b:Fr)(c:St):rN K b c=K (.a b c):=propext Iff.rfl
theorem Jso (b:List (List Nat×List Nat))(K:Out->Prop)(c:Fr)(d:St):rD b K c d=(JM c b=true/\K (.a c d)):=propext Iff.rfl
theorem Jme (T:Table)(c:Nat)(b:C)(K:Out->Prop)(d:Fr)(e:St):cK T c b K (.a d e)=wC T c b d e K:=propext Iff.rfl
theorem Jmf (T:Table)(d:Nat)(b:C)(K:Out->Prop)(i:Nat)(a:Fr)(c:St):cK T d b K (.b i a c)=K (.b i a c):=propext Iff.rfl
theorem JoF (T:Table)(e:Nat)(b:C)(K:Out->Prop)(a:Fr)(d:St):cK T e b K (.c a d)=K (.c a d):=propext Iff.rfl
theorem JgC (id:Nat)(K:Out->Prop)(b:Fr)(c:St):kBlk id K (.a b c)=K (.a b c):=propext Iff.rfl
theorem JgD (id:Nat)(K:Out->Prop)(c:Fr)(d:St):kBlk id K (.b id c d)=K (.a c d):=by simp[kBlk]
theorem Jck (id:Nat)(K:Out->Prop)(i:Nat)(a:Fr)(c:St)(h:i≠id):kBlk id K (.b i a c)=K (.b i a c):=by simp[kBlk,h]
theorem Jjd (id:Nat)(K:Out->Prop)(a:Fr)(b:St):kBlk id K (.c a b)=K (.c a b):=propext Iff.rfl
theorem Je4 (I:Nat->Fr->St->Prop)(k:Nat)(K:Out->Prop)(b:Fr)(c:St):JeR I k K (.a b c)=∃j,j<k/\I j b c:=propext Iff.rfl
theorem Je5 (I:Nat->Fr->St->Prop)(k:Nat)(K:Out->Prop)(i:Nat)(a:Fr)(c:St):JeR I k K (.b i a c)=K (.b i a c):=propext Iff.rfl
theorem JgE (I:Nat->Fr->St->Prop)(k:Nat)(K:Out->Prop)(a:Fr)(b:St):JeR I k K (.c a b)=K (.c a b):=propext Iff.rfl
theorem JgF (b:List RS)(Q:V->St->Prop)(c:Fr)(d:St):kRet b Q (.a c d)=resP d c b Q:=propext Iff.rfl
theorem Jje (a:List RS)(Q:V->St->Prop)(b:Fr)(d:St):kRet a Q (.c b d)=resP d b a Q:=propext Iff.rfl
theorem Jmg (T:Table)(c:Nat)(a b:C)(d:Fr)(e:St)(K:Out->Prop):bP (.h true) T c a b d e K=wC T c a d e K:=propext Iff.rfl
theorem Jjf (T:Table)(c:Nat)(a b:C)(d:Fr)(e:St)(K:Out->Prop):bP (.h false) T c a b d e K=wC T c b d e K:=propext Iff.rfl
theorem JoG (T:Table)(d:Bool)(c:Option (List Nat))(e:Iop)(b:Fr)(f:St)(a:Option Nat)(r:List Ins)(R:Fr->St->Prop):wGd (.h true) true T d c e b f a r R=wO T d c e b f (oK T d b a r R):=propext Iff.rfl
theorem JoH (T:Table)(d:Bool)(c:Option (List Nat))(e:Iop)(b:Fr)(f:St)(a:Option Nat)(r:List Ins)(R:Fr->St->Prop):wGd (.h false) false T d c e b f a r R=wO T d c e b f (oK T d b a r R):=propext Iff.rfl
theorem JoI (T:Table)(d:Bool)(e:Option (List Nat))(f:Iop)(b:Fr)(c:St)(a:Option Nat)(r:List Ins)(R:Fr->St->Prop):wGd (.h true) false T d e f b c a r R=wR T d r (put b a JY) c R:=propext Iff.rfl
theorem JoJ (T:Table)(d:Bool)(e:Option (List Nat))(f:Iop)(b:Fr)(c:St)(a:Option Nat)(r:List Ins)(R:Fr->St->Prop):wGd (.h false) true T d e f b c a r R=wR T d r (put b a JY) c R:=propext Iff.rfl
theorem Jmh (l:List V)(a:Bool)(T:Table)(d:Bool)(f:Option (List Nat))(g:Iop)(c:Fr)(e:St)(b:Option Nat)(r:List Ins)(R:Fr->St->Prop):wGd (.p l) a T d f g c e b r R=wR T d r (put c b JY) e R:=propext Iff.rfl
theorem Jmi (T:Table)(e:Nat)(b:Fr)(c:St)(K:Out->Prop):wC T e .d b c K=K (.a b c):=propext Iff.rfl
theorem JoK (T:Table)(c:Nat)(l:List Ins)(a:Fr)(b:St)(K:Out->Prop):wC T c (.k l) a b K=wR T false l a b (rN K):=propext Iff.rfl
theorem JoL (T:Table)(d:Nat)(l:List Ins)(a:List (List Nat×List Nat))(b:Fr)(c:St)(K:Out->Prop):wC T d (.n l a) b c K=wR T true l b c (rD a K):=propext Iff.rfl
theorem Ja (T:Table)(c:Nat)(a b:C)(d:Fr)(e:St)(K:Out->Prop):wC T c (.j a b) d e K=wC T c a d e (cK T c b K):=propext Iff.rfl
theorem Jd (T:Table)(c:Nat)(l:List Nat)(a b:C)(d:Fr)(e:St)(K:Out->Prop):wC T c (.h l a b) d e K=wC T c a d e (cK T c b K):=propext Iff.rfl
theorem Jmj (T:Table)(e:Nat)(c:Opd)(a b:C)(d:Fr)(g:St)(K:Out->Prop):wC T e (.f c a b) d g K=bP (c.A d) T e a b d g K:=propext Iff.rfl
theorem Jjg (T:Table)(a:Nat)(id:Nat)(b:C)(c:Fr)(d:St)(K:Out->Prop):wC T a (.e id b) c d K=wC T a b c d (kBlk id K):=propext Iff.rfl
theorem Jmk (T:Table)(d:Nat)(id:Nat)(a:Fr)(c:St)(K:Out->Prop):wC T d (.i id) a c K=K (.b id a c):=propext Iff.rfl
theorem JoM (T:Table)(d:Nat)(a:Fr)(b:St)(K:Out->Prop):wC T d .m a b K=K (.c a b):=propext Iff.rfl
theorem JD {l:List Nat}{b:C}{fr:Fr}{K:Out->Prop}(I:Nat->Fr->St->Prop)(m:Nat)(a:m<t)(h:I m fr e)(c:∀k fr e,I k fr e->wC r t b fr e (JeR I k K)):wC r t (.g l b) fr e K:=⟨I,⟨m,a,h⟩,c⟩
theorem JoN (T:Table)(d:Bool)(a:Fr)(b:St)(R:Fr->St->Prop):wR T d [] a b R=R a b:=propext Iff.rfl
theorem Jsp (T:Table)(d:Bool)(a:Option Nat)(c:Iop)(e:Option (List Nat))(r:List Ins)(b:Fr)(f:St)(R:Fr->St->Prop):
  wR T d (⟨a,c,none,e⟩::r) b f R=wO T d e c b f (oK T d b a r R):=propext Iff.rfl
theorem Jsq (T:Table)(d:Bool)(b:Option Nat)(e:Iop)(g:Nat)(a:Bool)(f:Option (List Nat))(r:List Ins)(c:Fr)(h:St)(R:Fr->St->Prop):
  wR T d (⟨b,e,some (g,a),f⟩::r) c h R=wGd (c g) a T d f e c h b r R:=propext Iff.rfl
theorem Jml (T:Table)(d:Bool)(b:Option (List Nat))(f:Nat)(as:List Opd)(a:Fr)(c:St)(R:V->St->Prop):wO T d b (.call f as) a c R=Kh T d b f (evs a as) a c R:=propext Iff.rfl
theorem Jjh (T:Table)(d:Bool)(b:Option (List Nat))(x:Opd)(as:List Opd)(a:Fr)(c:St)(R:V->St->Prop):wO T d b (.callv x as) a c R=wFn T d b (x.A a) (evs a as) a c R:=propext Iff.rfl
theorem JoO (T:Table)(d:Bool)(c:Option (List Nat))(f:Nat)(a b as:List V)(e:Fr)(g:St)(R:V->St->Prop):wFn T d c (.D f a b) as e g R=Kh T d c f (a++as++b) e g R:=propext Iff.rfl
theorem Jsr (T:Table)(d:Bool)(c:Option (List Nat))(x:Opd)(b:Fr)(a:St)(R:V->St->Prop):wO T d c (.Q x) b a R=wW (evOp b a (.Q x)) a R:=propext Iff.rfl
theorem Jmm (T:Table)(d:Bool)(g:Option (List Nat))(c a b:Opd)(f:Fr)(e:St)(R:V->St->Prop):wO T d g (.pick c a b) f e R=wW (evOp f e (.pick c a b)) e R:=propext Iff.rfl
theorem Jji (T:Table)(d:Bool)(e:Option (List Nat))(b:List V)(c:Fr)(a:St)(R:V->St->Prop):wO T d e (.alloc b) c a R=wW (evOp c a (.alloc b)) a R:=propext Iff.rfl
theorem JoP (T:Table)(d:Bool)(c:Option (List Nat))(x:Opd)(b:Fr)(a:St)(R:V->St->Prop):wO T d c (.box x) b a R=wW (evOp b a (.box x)) a R:=propext Iff.rfl
theorem Jjj (T:Table)(d:Bool)(f:Option (List Nat))(b:List V)(c:List (Nat×Nat×Opd))(e:Fr)(a:St)(R:V->St->Prop):wO T d f (.build b c) e a R=wW (evOp e a (.build b c)) a R:=propext Iff.rfl
theorem JoQ (T:Table)(d:Bool)(f:Option (List Nat))(z n:Nat)(b:List V)(c:List (Nat×Nat×Opd))(e:Fr)(a:St)(R:V->St->Prop):wO T d f (.bsl z n b c) e a R=wW (evOp e a (.bsl z n b c)) a R:=propext Iff.rfl
theorem Jjk (T:Table)(d:Bool)(c:Option (List Nat))(x:Opd)(b:Fr)(a:St)(R:V->St->Prop):wO T d c (.l x) b a R=wW (evOp b a (.l x)) a R:=propext Iff.rfl
theorem Jjl (T:Table)(d:Bool)(c:Option (List Nat))(n:Nat)(x:Opd)(b:Fr)(a:St)(R:V->St->Prop):wO T d c (.p n x) b a R=wW (evOp b a (.p n x)) a R:=propext Iff.rfl
theorem Jjm (T:Table)(d:Bool)(c:Option (List Nat))(n:Nat)(x v:Opd)(b:Fr)(a:St)(R:V->St->Prop):wO T d c (.store n x v) b a R=wW (evOp b a (.store n x v)) a R:=propext Iff.rfl
theorem Jjn (T:Table)(d:Bool)(c:Option (List Nat))(x:Opd)(b:Fr)(a:St)(R:V->St->Prop):wO T d c (.q x) b a R=wW (evOp b a (.q x)) a R:=propext Iff.rfl
theorem Jss (T:Table)(d:Bool)(f:Option (List Nat))(e:EK)(a:Bool)(x y:Opd)(c:Fr)(b:St)(R:V->St->Prop):wO T d f (.S e a x y) c b R=wW (evOp c b (.S e a x y)) b R:=propext Iff.rfl
theorem JoR (T:Table)(d:Bool)(e:Option (List Nat))(b:BinOp)(x y:Opd)(c:Fr)(a:St)(R:V->St->Prop):wO T d e (.N b x y) c a R=wW (evOp c a (.N b x y)) a R:=propext Iff.rfl
theorem JoS (T:Table)(d:Bool)(c:Option (List Nat))(x:Opd)(b:Fr)(a:St)(R:V->St->Prop):wO T d c (.not x) b a R=wW (evOp b a (.not x)) a R:=propext Iff.rfl
theorem Jjo (T:Table)(d:Bool)(c:Option (List Nat))(k:IntKind)(x:Opd)(b:Fr)(a:St)(R:V->St->Prop):wO T d c (.r k x) b a R=wW (evOp b a (.r k x)) a R:=propext Iff.rfl
theorem JoT (T:Table)(d:Bool)(c:Option (List Nat))(x:Opd)(b:Fr)(a:St)(R:V->St->Prop):wO T d c (.P x) b a R=wW (evOp b a (.P x)) a R:=propext Iff.rfl
theorem Jmn (T:Table)(d:Bool)(g:Option (List Nat))(f:Nat)(a b:List Opd)(e:Fr)(c:St)(R:V->St->Prop):wO T d g (.mkfn f a b) e c R=wW (evOp e c (.mkfn f a b)) c R:=propext Iff.rfl
theorem Jmo (T:Table)(d:Bool)(f:Option (List Nat))(x:Opd)(b c:Option Opd)(e:Fr)(a:St)(R:V->St->Prop):wO T d f (.cutS x b c) e a R=wW (evOp e a (.cutS x b c)) a R:=propext Iff.rfl
theorem Jmp (T:Table)(d:Bool)(g:Option (List Nat))(z:Nat)(x:Opd)(b c e:Option Opd)(f:Fr)(a:St)(R:V->St->Prop):wO T d g (.cutL z x b c e) f a R=wW (evOp f a (.cutL z x b c e)) a R:=propext Iff.rfl
theorem Jjp (T:Table)(d:Bool)(c:Option (List Nat))(o:Nat)(x:Opd)(b:Fr)(a:St)(R:V->St->Prop):wO T d c (.j o x) b a R=wW (evOp b a (.j o x)) a R:=propext Iff.rfl
theorem JoU (T:Table)(d:Bool)(c:Option (List Nat))(o:Nat)(n:Option Nat)(x:Opd)(b:Fr)(a:St)(R:V->St->Prop):wO T d c (.O o n x) b a R=wW (evOp b a (.O o n x)) a R:=propext Iff.rfl
theorem JgG (T:Table)(d:Bool)(c:Option (List Nat))(z:Nat)(x i:Opd)(b:Fr)(a:St)(R:V->St->Prop):wO T d c (.h z x i) b a R=wW (evOp b a (.h z x i)) a R:=propext Iff.rfl
theorem Jmq (T:Table)(d:Bool)(c:Option (List Nat))(x i:Opd)(b:Fr)(a:St)(R:V->St->Prop):wO T d c (.u x i) b a R=wW (evOp b a (.u x i)) a R:=propext Iff.rfl
theorem JoV (T:Table)(d:Bool)(c:Option (List Nat))(n:Nat)(x:Opd)(b:Fr)(a:St)(R:V->St->Prop):wO T d c (.M n x) b a R=wW (evOp b a (.M n x)) a R:=propext Iff.rfl
theorem Jmr (T:Table)(d:Bool)(c:Option (List Nat))(x:Opd)(b:Fr)(a:St)(R:V->St->Prop):wO T d c (.J x) b a R=wW (evOp b a (.J x)) a R:=propext Iff.rfl
theorem Jms (T:Table)(d:Bool)(c:Option (List Nat))(x:Opd)(b:Fr)(a:St)(R:V->St->Prop):wO T d c (.w x) b a R=wW (evOp b a (.w x)) a R:=propext Iff.rfl
theorem JoW (T:Table)(d:Bool)(c:Option (List Nat))(z:Nat)(s x:Opd)(b:Fr)(a:St)(R:V->St->Prop):wO T d c (.app z s x) b a R=wW (evOp b a (.app z s x)) a R:=propext Iff.rfl
theorem Jmt (T:Table)(d:Bool)(c:Option (List Nat))(x:Opd)(b:Fr)(a:St)(R:V->St->Prop):wO T d c (.L x) b a R=wW (evOp b a (.L x)) a R:=propext Iff.rfl
theorem Jjq (T:Table)(d:Bool)(c:Option (List Nat))(x:Opd)(b:Fr)(a:St)(R:V->St->Prop):wO T d c (.nextS x) b a R=wW (evOp b a (.nextS x)) a R:=propext Iff.rfl
theorem Jjr (T:Table)(d:Bool)(c:Option (List Nat))(b:Fr)(a:St)(R:V->St->Prop):wO T d c .g b a R=wW (evOp b a .g) a R:=propext Iff.rfl
theorem Jmu (T:Table)(d:Bool)(f:Option (List Nat))(z:Nat)(b:List V)(n c:Opd)(e:Fr)(a:St)(R:V->St->Prop):wO T d f (.t z b n c) e a R=wW (evOp e a (.t z b n c)) a R:=propext Iff.rfl
theorem JgH (T:Table)(d:Bool)(f:Option (List Nat))(e:EK)(z:V)(b:Bool)(m k:Opd)(c:Fr)(a:St)(R:V->St->Prop):wO T d f (.lookup e z b m k) c a R=wW (evOp c a (.lookup e z b m k)) a R:=propext Iff.rfl
theorem Jmv (T:Table)(d:Bool)(c:Option (List Nat))(e:EK)(m k v:Opd)(b:Fr)(a:St)(R:V->St->Prop):wO T d c (.mupd e m k v) b a R=wW (evOp b a (.mupd e m k v)) a R:=propext Iff.rfl
theorem Jmw (T:Table)(d:Bool)(c:Option (List Nat))(z:Nat)(y x:Opd)(b:Fr)(a:St)(R:V->St->Prop):wO T d c (.copy z y x) b a R=wW (evOp b a (.copy z y x)) a R:=propext Iff.rfl
theorem Jmx (T:Table)(d:Bool)(g:Option (List Nat))(n z:Nat)(x:Opd)(b c e:Option Opd)(f:Fr)(a:St)(R:V->St->Prop):wO T d g (.cutA n z x b c e) f a R=wW (evOp f a (.cutA n z x b c e)) a R:=propext Iff.rfl
noncomputable def fnD (lf:Nat)(cf:Fn):E:={b:=evFn lf cf}
theorem Jud {lf : Nat} {P : Program} {ρ : Nat -> Value} {base : Bs} {f : Nat} {fn : Func} {hs : List (List Nat)} {cf : Fn} (h : JhM P fn hs = some cf) (hf : P.funcs[f]? = some fn) (hn : fn.name ≠ "runtime.NumGoroutine")
  (hρ:∀i,(ρ i).oneCell'=true) (hm:P.follows .mixedOrders=true):KM P ρ base f (fnD lf cf).b:=Jt7 hρ hm hf h hn lf
theorem Jc9 {g:List V->Option V}(a:r t=some (JdL g).b){args:List V}{v:V}(c:g args=some v){Q:V->St->Prop}(h:Q v e):Does r t args e Q:=by
 refine⟨v,e,h,1,fun n d=> ?_⟩;obtain⟨n,rfl⟩:∃k,n=k+1:=⟨n-1,by omega⟩
 simp[run,a,JdL,c]
theorem JkZ {P:Program}{ρ:Nat->Value}{a:BT}(k:a.A fun i e=>KM P ρ ⟨m.heap.size,m⟩ i e.b){L:List (List V)}{locs:Nat->Loc}
  (l:∀i,i<L.length->Qu (rosG L.length locs) ρ (locs i) (.f (L.getD (L.length-1-i) [])) m/\(locs i).b<m.heap.size)
   {args:List V} (h:Does (tabT a) t args (rosR L) fun v _=>v= .h true) {c:List Value} (n:RL (rosG L.length locs) ρ args c):
  Calls P t c.toArray m fun e d=>e= .returned (.bool true)/\Below m.heap.size m d:=by
 obtain⟨v,o,p,N,q⟩:=h;subst p;refine(JhX (P:=P) (T:=tabT a) (fun t b g=> ?_) l (q N (Xb _)) n).mono fun e d ⟨y,γ',s,j,r⟩=>⟨?_,r⟩
 ·simp[tabT]at g;subst g;exact Jsa k t
 ·have j:y= .bool true:=j
  grind
def rune (l:List UInt8)(p:Nat):Nat×Nat:=if(l.getD p 0).toNat<128 then((l.getD p 0).toNat,1)else Utf8.decode ⟨l.toArray⟩ p
theorem Jk0 (a:t<d.length):(rune d t).1<2147483648:=by
 unfold rune
 split
 ·omega
 ·unfold Utf8.decode;simp only[Utf8.runeError];have k:=fun i=>ZI ((⟨d.toArray⟩:ByteArray).get! i);have b:=k (t+0);have c:=k (t+1);have e:=k (t+2);have f:=k (t+3)
  repeat' split
  all_goals (simp only;omega)
theorem Jk1 (f:e.A q= .e t d.length (snum d) g)(a:g<d.length):
  JeO e (.g q 0)=some (.p [.h true, .d .i64 g, .d .i32 (rune d g).1], .d q t fun u=> .e u d.length (snum d) (g+(rune d g).2)):=by
 have b:Yi (snum d) g=(d.getD g 0).toNat:=by
  rw[Jb3 d g _ (Xg a),XA,Xg a];rfl
 have c:jN d.length (snum d)=⟨d.toArray⟩:=by
  have:=JdA (⟨d.toArray⟩:ByteArray);simpa using this
 simp only[JeO,f,a,ZS,b,c,rune]
 split<;>rfl
theorem Jk2 (b:e.A q= .e t d.length (snum d) g)(c:¬g<d.length):JeO e (.g q 0)=some (.p [.h false], .a):=by
 simp only[JeO,b,c,X8]
def Jay (st:St)(v:V)(zs:List Int):Prop:=(v= .e/\zs=[])\/∃r,v= .w r 0 zs.length 1/\st.A r= .f (zs.map (V.d .i64))
end Eva
namespace Eva
open Go Go.RowKit Go.ChangeShapes
variable {v:Option (List Nat)}{e i:St}{n b:V->St->Prop}{t g:Nat}{k:List V}{z:Bool}{d:List UInt8}{r:Table}{q:Pt}{p:Fr}{f:Nat->Row}{l:Fr->St->Prop}{m:World}
def IntsIn (w:World)(v:Value)(zs:List Int):Prop:=(v= .slice none 0 0/\zs=[])\/(∃a,v= .slice (some a) 0 0/\zs=[])\/
 ∃b off cap,v= .slice (some ⟨b,off,none⟩) zs.length cap/\zs.length<=cap/\b<w.heap.size/\∀i (h:i<zs.length),w.cell? ⟨b,off+i,none⟩=some (.int .i64 zs[i])
theorem kK {x:Value}(h:m.cell? ⟨t,g,none⟩=some x):∃d e f,m.heap[t]? =some (.cells d e f)/\d[g]? =some x:=by
 unfold World.cell? at h
 split at h
 ·rename_i c a f i
  refine⟨c,a,f,i, ?_⟩;simpa using h
 ·cases h
theorem JoX {v:Value}{k:List Int}(h:IntsIn m v k)(s:0<m.heap.size):
  ∃n:Loc,n.b<m.heap.size/\(∀γ ρ,Qu γ ρ n (.f (k.map (V.d .i64))) m)/\∀r:Pt,∃u:V,((u= .e/\k=[])\/u= .w r 0 k.length 1)/\∀γ ρ,γ r=some n->R γ ρ u v:=by
 rcases h with⟨rfl,rfl⟩|⟨a,rfl,rfl⟩|⟨b,c,g,rfl,t,x,y⟩
 ·exact⟨⟨0,0,0⟩,s,fun γ ρ i v j=>by simp at j,fun r=>⟨.e, .inl ⟨rfl,rfl⟩,fun γ ρ _=>rfl⟩⟩
 ·exact⟨⟨0,0,0⟩,s,fun γ ρ i v j=>by simp at j,fun r=>⟨.w r 0 0 1, .inr rfl,fun γ ρ o=>⟨⟨0,0,0⟩,a,0,o,rfl,Xb _,fun e=>absurd rfl e,Xb _⟩⟩⟩
 ·refine⟨⟨b,c,g⟩,x,fun γ ρ i v j=> ?_,fun r=>⟨.w r 0 k.length 1, .inr rfl,fun γ ρ o=>⟨⟨b,c,g⟩,⟨b,c,none⟩,g,o,rfl,t,fun _=>rfl,by simp⟩⟩⟩;rw[HL]at j;obtain⟨z,J,rfl⟩:=Hh.1 j;obtain⟨p,rfl⟩:=Xx.1 J;obtain⟨q,l,K,L,M⟩:=kK (y i p);exact⟨q,l,K,_,L,M,rfl⟩
section
variable {H : Type} {enc : TypeId × Value -> H} {P : Program} {W : World}
end
end Eva
namespace Eva
open Go Go.RowKit
variable {v:Option (List Nat)}{e i:St}{n b:V->St->Prop}{t g:Nat}{k:List V}{z:Bool}{d:List UInt8}{r:Table}{q:Pt}{p:Fr}{f:Nat->Row}{l:Fr->St->Prop}{m:World}
theorem Gr.K {f:St}(h:Gr e f):e.A f.b= .none:=by
 apply Xd;intro c;exact c (by rw[<-h.d _ c,J6 h.D])
def JoY (st:St)(n:Nat)(x v:V):Option (V×Eff):=match v.A with
 |some vs=>if vs.length=n then(JO st x vs).map fun e=>(JY,e)else none
 |none=>none
theorem JoZ (a:Fr)(b:St)(n:Nat)(x v:Opd):evOp a b (.store n x v)=JoY b n (x.A a) (v.A a):=Xf (Xl _)
section
variable {T : Table}
theorem Jk3 {Q a:St->Prop}(k:∀s,Q s->a s)(h:JeQ v p e i Q):JeQ v p e i a:=by
 unfold JeQ at h⊢
 grind
theorem Je6 {args:List V}(k:∀a s,n a s->b a s)(h:Kh T z v t args p e n):Kh T z v t args p e b:=by
 unfold Kh at h⊢
 cases z with
 |false=>exact Does.A h k
 |true=>exact Does.A h fun a s c=>Jk3 (k a) c
theorem Jq2 {r:Option (V×Eff)}{Q a:V->Eff->Prop}(k:∀v e,Q v e->a v e)(h:wV r Q):wV r a:=by
 unfold wV at h⊢
 grind
theorem Jo0 {c:Iop}(d:c.A=false):wO T z v c p e n=wV (evOp p e c) fun a b=>n a (e.J b):=by
 cases c
 case call=>cases d
 case callv=>cases d
 all_goals rfl
theorem Jmy {d:Iop}(k:∀a s,n a s->b a s)(h:wO T z v d p e n):wO T z v d p e b:=by
 cases g:d.A with
 | false=>
   rw[Jo0 g]at h⊢;exact Jq2 (fun a c=>k a _) h
 | true=>
   cases d
   case call f as=>exact Je6 k h
   case callv x as=>
    have h:wFn T z v (x.A p) (evs p as) p e n:=h;show wFn T z v (x.A p) (evs p as) p e b;unfold wFn at h⊢
    split at h
    ·exact Je6 k h
    omega
   all_goals cases g
theorem Jq3 {x:V}{P a Z b:Prop}(k:P->a)(j:Z->b)(h:wG x z P Z):wG x z a b:=by
 unfold wG at h⊢
 grind
theorem Jq4 {i:Ins}{b:Fr->St->Prop}(k:∀f s,l f s->b f s)(h:wI T z i p e l):wI T z i p e b:=by
 obtain⟨c,j,g,m⟩:=i
 cases g with
 |none=>exact Jmy (fun v s=>k _ _) h
 |some a=>exact Jq3 (fun h=>Jmy (fun v s=>k _ _) h) (k _ _) h
theorem Jh0 {d:Bool}:∀{l:List Ins} {fr:Fr} {a:St} {Q b:Fr->St->Prop},(∀f s,Q f s->b f s)->wR T d l fr a Q->wR T d l fr a b
 |[],_,_,_,_,k,h=>k _ _ h
 |_::_,_,_,_,_,k,h=>Jq4 (fun _ _=>Jh0 k) h
theorem Jmz (c:C):∀{fr:Fr} {q:St} {Q r:Out->Prop},(∀o,Q o->r o)->wC T t c fr q Q->wC T t c fr q r:=by
 induction c with
 |d=>exact fun k h=>k _ h
 |i id=>exact fun k h=>k _ h
 |m=>exact fun k h=>k _ h
 |k l=>exact fun k h=>Jh0 (fun f s=>k _) h
 |n l x=>exact fun k h=>Jh0 (fun f s h=>⟨h.1,k _ h.2⟩) h
 | j a b u v=>
   intro fr q Q r k h;refine u (fun o p=> ?_) h
   cases o with
   |a f s=>exact v k p
   |b i f s=>exact k _ p
   |c f s=>exact k _ p
 | h l a b u v=>
   intro fr q Q r k h;refine u (fun o p=> ?_) h
   cases o with
   |a f s=>exact v k p
   |b i f s=>exact k _ p
   |c f s=>exact k _ p
 | f c a b u v=>
   intro fr q Q r k h;have h:JeS (c.A fr) (wC T t a fr q Q) (wC T t b fr q Q):=h;show JeS (c.A fr) (wC T t a fr q r) (wC T t b fr q r);unfold JeS at h⊢
   grind
 | e id b w=>
   intro fr q Q r k h;refine w (fun o p=> ?_) h
   cases o with
   |a f s=>exact k _ p
   | b i f s=>
     by_cases e:i=id
     ·have p:Q (.a f s):=by simpa[kBlk,e]using p
      simpa[kBlk,e]using k _ p
     ·have p:Q (.b i f s):=by simpa[kBlk,e]using p
      simpa[kBlk,e]using k _ p
   |c f s=>exact k _ p
 | g l b w=>
   intro fr q Q r k h;obtain⟨I,y,z⟩:=(show JlV (wC T t b) t fr q Q from h)
   refine(show JlV (wC T t b) t fr q r from⟨I,y,fun n f s J=>w (fun o p=> ?_) (z n f s J)⟩)
   cases o with
   |a f s=>exact p
   |b i f s=>exact k _ p
   |c f s=>exact k _ p
def kCut (I:Fr->St->Prop)(Q:Out->Prop):Out->Prop
 | .a fr st=>I fr st
 | .b i fr st=>Q (.b i fr st)
 | .c fr st=>Q (.c fr st)
theorem JgI (I:Fr->St->Prop)(Q:Out->Prop)(b:Fr)(c:St):kCut I Q (.a b c)=I b c:=propext Iff.rfl
theorem JgJ (I:Fr->St->Prop)(Q:Out->Prop)(i:Nat)(a:Fr)(c:St):kCut I Q (.b i a c)=Q (.b i a c):=propext Iff.rfl
theorem Jjs (I:Fr->St->Prop)(Q:Out->Prop)(a:Fr)(b:St):kCut I Q (.c a b)=Q (.c a b):=propext Iff.rfl
theorem Yf {l:List Nat}{a b:C}{K:Out->Prop}(I:Fr->St->Prop)(g:wC T t a p e (kCut I K))(j:∀f s,I f s->wC T t b f s K):wC T t (.h l a b) p e K:=
 Jmz a (fun o d=>by
  cases o with
  |a f s=>exact j f s d
  |b i f s=>exact d
  |c f s=>exact d) g
end
end Eva
